/- Contract of frac.Text. -/
import Derived.Test.YtgfkachfbnbikaaGreatDoorFracE
import Derived.Test.YtgfkachfbnbikaaGreatDoorFracG
import Derived.Test.YtgfkachfbnbikaaGreatDoorNatJ
import Derived.WalkSpells
namespace Go.Proofs.YtgfkachfbnbikaaGreatDoor
open Go.RowKit

/-- The texts of faults. -/
def rangeB : ByteArray := ⟨#[33, 114, 97, 110, 103, 101]⟩
def zeroB : ByteArray := ⟨#[33, 122, 101, 114, 111]⟩
/-- What the calls read of package-level variables. -/
structure Glob (w : World) : Prop where
  c0 : w.cell? ⟨0, 0, none⟩ = some (.string rangeB)
  c1 : w.cell? ⟨0, 1, none⟩ = some (.int .i64 4)
  c2 : w.cell? ⟨0, 2, none⟩ = some (.string zeroB)
  c3 : w.cell? ⟨0, 3, none⟩ = some (.int .i64 11)
  c4 : ∃ m, w.cell? ⟨1, 0, none⟩ = some (.int .i64 m)
theorem Glob.ext {w w' : World} (h : Glob w) (e : Ext w w') : Glob w' := ⟨e.cell h.c0, e.cell h.c1, e.cell h.c2, e.cell h.c3, h.c4.imp fun _ k => e.cell k⟩

def toldv : Value := .agg #[.string rangeB, .int .i64 4, .string zeroB, .int .i64 11]
theorem told0 : ∀ w, (Instr.index 84 toldv (.int .i64 0)).run Tryz.prog w = .ok (.agg #[.string rangeB, .int .i64 4]) w := fun _ => by kernel_rfl
theorem told1 : ∀ w, (Instr.index 84 toldv (.int .i64 1)).run Tryz.prog w = .ok (.agg #[.string zeroB, .int .i64 11]) w := fun _ => by kernel_rfl
theorem told_size : (Tryz.prog.info? 84).map (·.size) = some 4 := by kernel_rfl
theorem run_told {w : World} (h : Glob w) : (loadVar 84 ⟨0, 0, none⟩).run Tryz.prog w = .ok toldv w := by
  have hl : (loadCells ⟨0, 0, none⟩ 4).run Tryz.prog w = .ok #[.string rangeB, .int .i64 4, .string zeroB, .int .i64 11] w :=
    run_loadCells_list (P := Tryz.prog) w ⟨0, 0, none⟩ [.string rangeB, .int .i64 4, .string zeroB, .int .i64 11] (fun j v hv => by
      rw [add_plain]
      match j, hv with
      | 0, hv => cases hv; exact h.c0
      | 1, hv => cases hv; exact h.c1
      | 2, hv => cases hv; exact h.c2
      | 3, hv => cases hv; exact h.c3)
  have hagg : (isAgg 84).run Tryz.prog w = .ok true w := by
    unfold isAgg
    rw [Sem.run_bind, run_underlying Tryz.underlying84 w]
    rfl
  cases hq : Tryz.prog.info? 84 with
  | none => have := told_size; rw [hq] at this; cases this
  | some i =>
    have hs : i.size = 4 := by have := told_size; rw [hq] at this; simpa using this
    simp [loadVar, Sem.run_bind, hagg, sizeOf, typeInfo, hq, hs, hl, toldv]
theorem load_told {ops : Array Oper} {rest : List Oper} {o : Oper} {a : Act} {w : World} {Q : Exit → Act → World → Prop} (hgd : o.guard = none) (x : Operand) (ho : o.op = .load 84 x)
    (hx : a.eval x = .pointer (some ⟨0, 0, none⟩)) (hg : Glob w)
    (h : wpList Tryz.prog ops Q rest (a.put o.dst toldv) w) : wpList Tryz.prog ops Q (o :: rest) a w := by
  refine wpList_plain hgd fun _ hK => ?_
  unfold Oper.wp execOp
  simp only [ho, hx, Instr.loadAt, Instr.sureAddr, Sem.run_bind, Sem.run_pure, Result.andThen_ok, run_told hg]
  exact hK _ _ h

set_option maxRecDepth 10000 in
set_option maxHeartbeats 1000000 in
theorem text_bad {w : World} {v : Value} {q : Rq} (h : RR w v q) (hq : okq q = false) :
    Calls Tryz.prog 26 #[v] w fun e w' => e = .returned (.tuple #[.string ⟨#[]⟩, .int .i64 5]) ∧ Ext w w' := by
  have HA := Aside.mk h
  have HOA := Aside.mk hq
  obtain ⟨A, c, B, d, rfl⟩ := h.form
  have hk0 := KeepB.init w (.int .i64 q.f) (.bool q.neg) (.slice A q.num.length c) (.slice B q.den.length d) 26
  clear h hq
  go_enter Tryz.func26, Tryz.ntmps26
  go_wp2_with (go_at_call 49; refine (israt_b (HA.out.ext hk0.1.out) HOA.out).mono ?_; rintro e w1 ⟨rfl, he⟩; have hk1 := KeepB.ext he hk0; clear hk0 he)
  go_ret2
  exact ⟨rfl, hk1.1.out⟩

def faultB (f : Int) : ByteArray := if f = 4 then rangeB else zeroB
set_option maxRecDepth 10000 in
set_option maxHeartbeats 1000000 in
theorem text_fault {w : World} {v : Value} {q : Rq} (hg : Glob w) (h : RR w v q) (hq : okq q = true) (hf : q.f ≠ 0) :
    Calls Tryz.prog 26 #[v] w fun e w' => e = .returned (.tuple #[.string (faultB q.f), .int .i64 0]) ∧ Ext w w' := by
  have HA := Aside.mk h
  have HG := Aside.mk hg
  have HOA := Aside.mk hq
  have hc : q.f = 4 ∨ q.f = 11 := by
    unfold okq at hq; rw [if_neg hf] at hq
    simp only [Bool.and_eq_true, Bool.or_eq_true, beq_iff_eq] at hq
    exact hq.1.1
  obtain ⟨A, c, B, d, rfl⟩ := h.form
  have hk0 := KeepB.init w (.int .i64 q.f) (.bool q.neg) (.slice A q.num.length c) (.slice B q.den.length d) 26
  obtain ⟨f, hff⟩ : ∃ f, q.f = f := ⟨_, rfl⟩
  rw [hff] at hc hk0 HA ⊢
  have i0 := told0
  have i1 := told1
  clear h hg hq hf hff
  rcases hc with rfl | rfl
  · have HF : Aside (faultB 4 = rangeB) := ⟨rfl⟩
    rw [HF.out]
    go_enter Tryz.func26, Tryz.ntmps26
    go_wp2_with (first | (go_at_call 49; refine (israt_b (HA.out.ext hk0.1.out) HOA.out).mono ?_; rintro e w1 ⟨rfl, he⟩; have hk1 := KeepB.ext he hk0; clear hk0 he) | (refine load_told rfl _ rfl rfl (HG.out.ext hk1.1.out) ?_))
    go_loopw [14] (fun i wr => i = .int .i64 0 ∧ KeepB w (.int .i64 4) (.bool q.neg) (.slice A q.num.length c) (.slice B q.den.length d) wr) (fun i _ => 2 - (intOf i).toNat)
    case atStart => exact ⟨rfl, hk1⟩
    case round =>
      obtain ⟨rfl, hk2⟩ := hrel
      have hk3 := KeepB.ext ((Ext.refl wr).alloc (.cells #[.string rangeB, .int .i64 4] 83)) hk2
      clear hk2
      go_wp2
      go_ret2
      exact ⟨rfl, hk3.1.out⟩
  · have HF : Aside (faultB 11 = zeroB) := ⟨rfl⟩
    rw [HF.out]
    go_enter Tryz.func26, Tryz.ntmps26
    go_wp2_with (first | (go_at_call 49; refine (israt_b (HA.out.ext hk0.1.out) HOA.out).mono ?_; rintro e w1 ⟨rfl, he⟩; have hk1 := KeepB.ext he hk0; clear hk0 he) | (refine load_told rfl _ rfl rfl (HG.out.ext hk1.1.out) ?_))
    go_loopw [14] (fun i wr => ∃ (k : Nat), k ≤ 1 ∧ i = .int .i64 (k : Int) ∧ KeepB w (.int .i64 11) (.bool q.neg) (.slice A q.num.length c) (.slice B q.den.length d) wr) (fun i _ => 2 - (intOf i).toNat)
    case atStart => exact ⟨0, by omega, rfl, hk1⟩
    case round =>
      obtain ⟨k, hk, rfl, hk2⟩ := hrel
      rcases Nat.eq_zero_or_pos k with rfl | hk0
      · have hk3 := KeepB.ext ((Ext.refl wr).alloc (.cells #[.string rangeB, .int .i64 4] 83)) hk2
        clear hk2
        go_wp2
        go_roundw
        case rel => exact ⟨1, by omega, rfl, hk3⟩
        case measure => simp [intOf]
      · obtain rfl : k = 1 := by omega
        have hk3 := KeepB.ext ((Ext.refl wr).alloc (.cells #[.string zeroB, .int .i64 11] 83)) hk2
        clear hk2
        go_wp2
        go_ret2
        exact ⟨rfl, hk3.1.out⟩

/-- The text of a number. -/
def ntext (neg : Bool) (a b : Nat) : List UInt8 := (if neg then [45] else []) ++ dtext a ++ (if b = 1 then [] else 47 :: dtext b)
theorem bcat (x y : List UInt8) : (⟨x.toArray⟩ ++ ⟨y.toArray⟩ : ByteArray) = ⟨(x ++ y).toArray⟩ := by
  apply ByteArray.ext
  rw [ByteArray.data_append]
  simp
theorem dtext_any {a n m : Nat} (h : a < 4294967296 ^ n) (hm : 10 * n ≤ m) (h0 : 0 < m) : (dtext a).length ≤ m := dtext_length (pow10_any h hm) h0
theorem dtext_le {a : Nat} (h : (dig a).length ≤ 128) : (dtext a).length ≤ 1280 := dtext_any (lt_of_dig_length h) (by decide) (by decide)
set_option maxRecDepth 10000 in
set_option maxHeartbeats 4000000 in
theorem text_num {w : World} {v : Value} {neg : Bool} {a b : Nat} (hg : Glob w) (h : RR w v ⟨0, neg, dig a, dig b⟩) (hq : okq ⟨0, neg, dig a, dig b⟩ = true) (ha : (dig a).length ≤ 128) (hb : (dig b).length ≤ 128) (hb0 : 0 < b) :
    Calls Tryz.prog 26 #[v] w fun e w' => e = .returned (.tuple #[.string ⟨(ntext neg a b).toArray⟩, .int .i64 0]) ∧ Ext w w' := by
  have HA := Aside.mk h
  have HG := Aside.mk hg
  have HOA := Aside.mk hq
  obtain ⟨x, y, rfl, hx, hy⟩ := h
  dsimp only at *
  have HXA := Aside.mk (NV.of hx (by omega))
  have HYA := Aside.mk (NV.of hy (by omega))
  have hl1 : (dtext a).length ≤ 1280 := dtext_le ha
  have hl2 : (dtext b).length ≤ 1280 := dtext_le hb
  obtain ⟨A, c, rfl, _⟩ := hx
  obtain ⟨B, d, rfl, hcd, _, hr⟩ := hy
  obtain ⟨k, hk⟩ : ∃ k, (dig b).length = k + 1 := ⟨(dig b).length - 1, by
    have : (dig b).length ≠ 0 := fun h => by have := dig_nil_iff.1 (List.eq_nil_of_length_eq_zero h); omega
    omega⟩
  obtain ⟨t, ht⟩ : ∃ t, (dig b).getD 0 0 = t := ⟨_, rfl⟩
  obtain ⟨bd, rfl, hcell⟩ := Rd.at32 hr 0 (by omega)
  rw [ht, show bd.add 0 = bd from by simp [Addr.add]] at hcell
  have HDC : Aside (∀ w', Ext w w' → w'.cell? bd = some (.int .u32 (t : Int))) := ⟨fun w' e => e.cell hcell⟩
  have htb : (k = 0 ∧ t = 1 ∧ b = 1) ∨ (k = 0 ∧ ((t : Int) == 1) = false ∧ b ≠ 1) ∨ ((((k + 1 : Nat) : Int) == 1) = false ∧ b ≠ 1) := by
    have hb1 : k = 0 → b = t := by
      intro hk0
      subst hk0
      obtain ⟨z, hz⟩ := List.length_eq_one_iff.1 hk
      have := val_dig b
      rw [hz] at this ht
      simp [val] at this ht
      omega
    by_cases hk0 : k = 0
    · have := hb1 hk0
      by_cases ht1 : t = 1
      · exact .inl ⟨hk0, ht1, by omega⟩
      · exact .inr (.inl ⟨hk0, beq_eq_false_iff_ne.2 (by omega), by omega⟩)
    · refine .inr (.inr ⟨beq_eq_false_iff_ne.2 (by omega), ?_⟩)
      intro h1
      rw [h1, dig_pos (by omega), show (1 : Nat) / 4294967296 = 0 from rfl, dig_zero] at hk
      simp at hk; omega
  have hk0 := KeepB.init w (.int .i64 0) (.bool neg) (.slice A (dig a).length c) (.slice (some bd) (dig b).length d) 26
  rw [hk] at hk0 HYA HA hcd ⊢
  generalize (dig a).length = la at *
  have i0 := told0
  have i1 := told1
  clear hg hq hr hcell hk ht
  rcases htb with ⟨rfl, rfl, rfl⟩ | ⟨rfl, htz, hb1⟩ | ⟨hkz, hb1⟩
  · cases neg
    · have HS : Aside ((⟨(dtext a).toArray⟩ : ByteArray) = ⟨(ntext false a 1).toArray⟩) := ⟨by simp [ntext]⟩
      go_enter Tryz.func26, Tryz.ntmps26
      go_wp2_with (first | (go_at_call 49; refine (israt_b (HA.out.ext hk0.1.out) HOA.out).mono ?_; rintro e w1 ⟨rfl, he⟩; have hk1 := KeepB.ext he hk0; clear hk0 he) | (refine load_told rfl _ rfl rfl (HG.out.ext hk1.1.out) ?_))
      go_loopw [14] (fun i wr => ∃ (j : Nat), j ≤ 2 ∧ i = .int .i64 (j : Int) ∧ KeepB w (.int .i64 0) (.bool false) (.slice A la c) (.slice (some bd) (0 + 1) d) wr) (fun i _ => 2 - (intOf i).toNat)
      case atStart => exact ⟨0, by omega, rfl, hk1⟩
      case round =>
        obtain ⟨j, hj, rfl, hk2⟩ := hrel
        obtain rfl | rfl | rfl : j = 0 ∨ j = 1 ∨ j = 2 := by omega
        · have hk3 := KeepB.ext ((Ext.refl wr).alloc (.cells #[.string rangeB, .int .i64 4] 83)) hk2
          clear hk2
          go_wp2
          go_roundw
          case rel => exact ⟨1, by omega, rfl, hk3⟩
          case measure => simp [intOf]
        · have hk3 := KeepB.ext ((Ext.refl wr).alloc (.cells #[.string zeroB, .int .i64 11] 83)) hk2
          clear hk2
          go_wp2
          go_roundw
          case rel => exact ⟨2, by omega, rfl, hk3⟩
          case measure => simp [intOf]
        · go_wp2_with (first | (go_at_call 74; refine (Text_calls (HXA.out.ext hk2.1.out)).mono ?_; rintro e w2 ⟨rfl, he⟩; have hk3 := KeepB.ext he hk2; have hc3 := HDC.out _ hk3.1.out; clear hk2 he) | (go_at_call 74; refine (Text_calls (HYA.out.ext hk3.1.out)).mono ?_; rintro e w3 ⟨rfl, he⟩; have hk4 := KeepB.ext he hk3; clear hk3 he))
          go_ret2
          exact ⟨by rw [← HS.out]; rfl, hk3.1.out⟩
    · have HS : Aside ((⟨#[45]⟩ ++ ⟨(dtext a).toArray⟩ : ByteArray) = ⟨(ntext true a 1).toArray⟩) := ⟨by rw [show (⟨#[45]⟩ : ByteArray) = ⟨[45].toArray⟩ from rfl, bcat]; simp [ntext]⟩
      go_enter Tryz.func26, Tryz.ntmps26
      go_wp2_with (first | (go_at_call 49; refine (israt_b (HA.out.ext hk0.1.out) HOA.out).mono ?_; rintro e w1 ⟨rfl, he⟩; have hk1 := KeepB.ext he hk0; clear hk0 he) | (refine load_told rfl _ rfl rfl (HG.out.ext hk1.1.out) ?_))
      go_loopw [14] (fun i wr => ∃ (j : Nat), j ≤ 2 ∧ i = .int .i64 (j : Int) ∧ KeepB w (.int .i64 0) (.bool true) (.slice A la c) (.slice (some bd) (0 + 1) d) wr) (fun i _ => 2 - (intOf i).toNat)
      case atStart => exact ⟨0, by omega, rfl, hk1⟩
      case round =>
        obtain ⟨j, hj, rfl, hk2⟩ := hrel
        obtain rfl | rfl | rfl : j = 0 ∨ j = 1 ∨ j = 2 := by omega
        · have hk3 := KeepB.ext ((Ext.refl wr).alloc (.cells #[.string rangeB, .int .i64 4] 83)) hk2
          clear hk2
          go_wp2
          go_roundw
          case rel => exact ⟨1, by omega, rfl, hk3⟩
          case measure => simp [intOf]
        · have hk3 := KeepB.ext ((Ext.refl wr).alloc (.cells #[.string zeroB, .int .i64 11] 83)) hk2
          clear hk2
          go_wp2
          go_roundw
          case rel => exact ⟨2, by omega, rfl, hk3⟩
          case measure => simp [intOf]
        · go_wp2_with (first | (go_at_call 74; refine (Text_calls (HXA.out.ext hk2.1.out)).mono ?_; rintro e w2 ⟨rfl, he⟩; have hk3 := KeepB.ext he hk2; have hc3 := HDC.out _ hk3.1.out; clear hk2 he) | (go_at_call 74; refine (Text_calls (HYA.out.ext hk3.1.out)).mono ?_; rintro e w3 ⟨rfl, he⟩; have hk4 := KeepB.ext he hk3; clear hk3 he))
          go_ret2
          exact ⟨by rw [← HS.out]; rfl, hk3.1.out⟩
  · have hbb : ntext false a b = dtext a ++ ([47] ++ dtext b) := by simp [ntext, hb1]
    have hbt : ntext true a b = 45 :: (dtext a ++ ([47] ++ dtext b)) := by simp [ntext, hb1]
    cases neg
    · have HS : Aside ((⟨(dtext a).toArray⟩ ++ ⟨#[47]⟩ ++ ⟨(dtext b).toArray⟩ : ByteArray) = ⟨(ntext false a b).toArray⟩) := ⟨by rw [show (⟨#[47]⟩ : ByteArray) = ⟨[47].toArray⟩ from rfl, bcat, bcat, hbb, List.append_assoc]⟩; clear hbb hbt hb1
      go_enter Tryz.func26, Tryz.ntmps26
      go_wp2_with (first | (go_at_call 49; refine (israt_b (HA.out.ext hk0.1.out) HOA.out).mono ?_; rintro e w1 ⟨rfl, he⟩; have hk1 := KeepB.ext he hk0; clear hk0 he) | (refine load_told rfl _ rfl rfl (HG.out.ext hk1.1.out) ?_))
      go_loopw [14] (fun i wr => ∃ (j : Nat), j ≤ 2 ∧ i = .int .i64 (j : Int) ∧ KeepB w (.int .i64 0) (.bool false) (.slice A la c) (.slice (some bd) (0 + 1) d) wr) (fun i _ => 2 - (intOf i).toNat)
      case atStart => exact ⟨0, by omega, rfl, hk1⟩
      case round =>
        obtain ⟨j, hj, rfl, hk2⟩ := hrel
        obtain rfl | rfl | rfl : j = 0 ∨ j = 1 ∨ j = 2 := by omega
        · have hk3 := KeepB.ext ((Ext.refl wr).alloc (.cells #[.string rangeB, .int .i64 4] 83)) hk2
          clear hk2
          go_wp2
          go_roundw
          case rel => exact ⟨1, by omega, rfl, hk3⟩
          case measure => simp [intOf]
        · have hk3 := KeepB.ext ((Ext.refl wr).alloc (.cells #[.string zeroB, .int .i64 11] 83)) hk2
          clear hk2
          go_wp2
          go_roundw
          case rel => exact ⟨2, by omega, rfl, hk3⟩
          case measure => simp [intOf]
        · go_wp2_with (first | (go_at_call 74; refine (Text_calls (HXA.out.ext hk2.1.out)).mono ?_; rintro e w2 ⟨rfl, he⟩; have hk3 := KeepB.ext he hk2; have hc3 := HDC.out _ hk3.1.out; clear hk2 he) | (go_at_call 74; refine (Text_calls (HYA.out.ext hk3.1.out)).mono ?_; rintro e w3 ⟨rfl, he⟩; have hk4 := KeepB.ext he hk3; clear hk3 he))
          go_ret2
          exact ⟨by rw [← HS.out]; rfl, hk4.1.out⟩
    · have HS : Aside ((⟨#[45]⟩ ++ ⟨(dtext a).toArray⟩ ++ ⟨#[47]⟩ ++ ⟨(dtext b).toArray⟩ : ByteArray) = ⟨(ntext true a b).toArray⟩) := ⟨by rw [show (⟨#[47]⟩ : ByteArray) = ⟨[47].toArray⟩ from rfl, show (⟨#[45]⟩ : ByteArray) = ⟨[45].toArray⟩ from rfl, bcat, bcat, bcat, hbt]; simp⟩; clear hbb hbt hb1
      go_enter Tryz.func26, Tryz.ntmps26
      go_wp2_with (first | (go_at_call 49; refine (israt_b (HA.out.ext hk0.1.out) HOA.out).mono ?_; rintro e w1 ⟨rfl, he⟩; have hk1 := KeepB.ext he hk0; clear hk0 he) | (refine load_told rfl _ rfl rfl (HG.out.ext hk1.1.out) ?_))
      go_loopw [14] (fun i wr => ∃ (j : Nat), j ≤ 2 ∧ i = .int .i64 (j : Int) ∧ KeepB w (.int .i64 0) (.bool true) (.slice A la c) (.slice (some bd) (0 + 1) d) wr) (fun i _ => 2 - (intOf i).toNat)
      case atStart => exact ⟨0, by omega, rfl, hk1⟩
      case round =>
        obtain ⟨j, hj, rfl, hk2⟩ := hrel
        obtain rfl | rfl | rfl : j = 0 ∨ j = 1 ∨ j = 2 := by omega
        · have hk3 := KeepB.ext ((Ext.refl wr).alloc (.cells #[.string rangeB, .int .i64 4] 83)) hk2
          clear hk2
          go_wp2
          go_roundw
          case rel => exact ⟨1, by omega, rfl, hk3⟩
          case measure => simp [intOf]
        · have hk3 := KeepB.ext ((Ext.refl wr).alloc (.cells #[.string zeroB, .int .i64 11] 83)) hk2
          clear hk2
          go_wp2
          go_roundw
          case rel => exact ⟨2, by omega, rfl, hk3⟩
          case measure => simp [intOf]
        · go_wp2_with (first | (go_at_call 74; refine (Text_calls (HXA.out.ext hk2.1.out)).mono ?_; rintro e w2 ⟨rfl, he⟩; have hk3 := KeepB.ext he hk2; have hc3 := HDC.out _ hk3.1.out; clear hk2 he) | (go_at_call 74; refine (Text_calls (HYA.out.ext hk3.1.out)).mono ?_; rintro e w3 ⟨rfl, he⟩; have hk4 := KeepB.ext he hk3; clear hk3 he))
          go_ret2
          exact ⟨by rw [← HS.out]; rfl, hk4.1.out⟩
  · have hbb : ntext false a b = dtext a ++ ([47] ++ dtext b) := by simp [ntext, hb1]
    have hbt : ntext true a b = 45 :: (dtext a ++ ([47] ++ dtext b)) := by simp [ntext, hb1]
    cases neg
    · have HS : Aside ((⟨(dtext a).toArray⟩ ++ ⟨#[47]⟩ ++ ⟨(dtext b).toArray⟩ : ByteArray) = ⟨(ntext false a b).toArray⟩) := ⟨by rw [show (⟨#[47]⟩ : ByteArray) = ⟨[47].toArray⟩ from rfl, bcat, bcat, hbb, List.append_assoc]⟩; clear hbb hbt hb1
      go_enter Tryz.func26, Tryz.ntmps26
      go_wp2_with (first | (go_at_call 49; refine (israt_b (HA.out.ext hk0.1.out) HOA.out).mono ?_; rintro e w1 ⟨rfl, he⟩; have hk1 := KeepB.ext he hk0; clear hk0 he) | (refine load_told rfl _ rfl rfl (HG.out.ext hk1.1.out) ?_))
      go_loopw [14] (fun i wr => ∃ (j : Nat), j ≤ 2 ∧ i = .int .i64 (j : Int) ∧ KeepB w (.int .i64 0) (.bool false) (.slice A la c) (.slice (some bd) (k + 1) d) wr) (fun i _ => 2 - (intOf i).toNat)
      case atStart => exact ⟨0, by omega, rfl, hk1⟩
      case round =>
        obtain ⟨j, hj, rfl, hk2⟩ := hrel
        obtain rfl | rfl | rfl : j = 0 ∨ j = 1 ∨ j = 2 := by omega
        · have hk3 := KeepB.ext ((Ext.refl wr).alloc (.cells #[.string rangeB, .int .i64 4] 83)) hk2
          clear hk2
          go_wp2
          go_roundw
          case rel => exact ⟨1, by omega, rfl, hk3⟩
          case measure => simp [intOf]
        · have hk3 := KeepB.ext ((Ext.refl wr).alloc (.cells #[.string zeroB, .int .i64 11] 83)) hk2
          clear hk2
          go_wp2
          go_roundw
          case rel => exact ⟨2, by omega, rfl, hk3⟩
          case measure => simp [intOf]
        · go_wp2_with (first | (go_at_call 74; refine (Text_calls (HXA.out.ext hk2.1.out)).mono ?_; rintro e w2 ⟨rfl, he⟩; have hk3 := KeepB.ext he hk2; have hc3 := HDC.out _ hk3.1.out; clear hk2 he) | (go_at_call 74; refine (Text_calls (HYA.out.ext hk3.1.out)).mono ?_; rintro e w3 ⟨rfl, he⟩; have hk4 := KeepB.ext he hk3; clear hk3 he))
          go_ret2
          exact ⟨by rw [← HS.out]; rfl, hk4.1.out⟩
    · have HS : Aside ((⟨#[45]⟩ ++ ⟨(dtext a).toArray⟩ ++ ⟨#[47]⟩ ++ ⟨(dtext b).toArray⟩ : ByteArray) = ⟨(ntext true a b).toArray⟩) := ⟨by rw [show (⟨#[47]⟩ : ByteArray) = ⟨[47].toArray⟩ from rfl, show (⟨#[45]⟩ : ByteArray) = ⟨[45].toArray⟩ from rfl, bcat, bcat, bcat, hbt]; simp⟩; clear hbb hbt hb1
      go_enter Tryz.func26, Tryz.ntmps26
      go_wp2_with (first | (go_at_call 49; refine (israt_b (HA.out.ext hk0.1.out) HOA.out).mono ?_; rintro e w1 ⟨rfl, he⟩; have hk1 := KeepB.ext he hk0; clear hk0 he) | (refine load_told rfl _ rfl rfl (HG.out.ext hk1.1.out) ?_))
      go_loopw [14] (fun i wr => ∃ (j : Nat), j ≤ 2 ∧ i = .int .i64 (j : Int) ∧ KeepB w (.int .i64 0) (.bool true) (.slice A la c) (.slice (some bd) (k + 1) d) wr) (fun i _ => 2 - (intOf i).toNat)
      case atStart => exact ⟨0, by omega, rfl, hk1⟩
      case round =>
        obtain ⟨j, hj, rfl, hk2⟩ := hrel
        obtain rfl | rfl | rfl : j = 0 ∨ j = 1 ∨ j = 2 := by omega
        · have hk3 := KeepB.ext ((Ext.refl wr).alloc (.cells #[.string rangeB, .int .i64 4] 83)) hk2
          clear hk2
          go_wp2
          go_roundw
          case rel => exact ⟨1, by omega, rfl, hk3⟩
          case measure => simp [intOf]
        · have hk3 := KeepB.ext ((Ext.refl wr).alloc (.cells #[.string zeroB, .int .i64 11] 83)) hk2
          clear hk2
          go_wp2
          go_roundw
          case rel => exact ⟨2, by omega, rfl, hk3⟩
          case measure => simp [intOf]
        · go_wp2_with (first | (go_at_call 74; refine (Text_calls (HXA.out.ext hk2.1.out)).mono ?_; rintro e w2 ⟨rfl, he⟩; have hk3 := KeepB.ext he hk2; have hc3 := HDC.out _ hk3.1.out; clear hk2 he) | (go_at_call 74; refine (Text_calls (HYA.out.ext hk3.1.out)).mono ?_; rintro e w3 ⟨rfl, he⟩; have hk4 := KeepB.ext he hk3; clear hk3 he))
          go_ret2
          exact ⟨by rw [← HS.out]; rfl, hk4.1.out⟩
end Go.Proofs.YtgfkachfbnbikaaGreatDoor
