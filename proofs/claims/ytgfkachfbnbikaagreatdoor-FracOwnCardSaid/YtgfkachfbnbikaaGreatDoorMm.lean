/- Contract of frac.Parse. Contracts of frac.digits and frac.Decimal. Contract of frac.Decimal. -/
import Derived.Test.YtgfkachfbnbikaaGreatDoorMl
import Derived.Test.YtgfkachfbnbikaaGreatDoorShelf
import Derived.Shelf.Strings.SlTrimAscii
namespace Go.Proofs.YtgfkachfbnbikaaGreatDoor
open Go.RowKit

/-- What Parse makes of the parts of a text. -/
def fparts (neg : Bool) (above : List UInt8) (two : Bool) (below : List UInt8) : Rq × Int :=
  if perr above ≠ 0 ∨ perr below ≠ 0 ∨ dval below = 0 ∨ (two = true ∧ below = [49]) then (fq 0, 5)
  else if okq ⟨0, neg, dig (dval above), dig (dval below)⟩ then (⟨0, neg, dig (dval above), dig (dval below)⟩, 0) else (fq 0, 5)
/-- What Parse returns. -/
def fparse (l : List UInt8) : Rq × Int :=
  if 4900 < l.length then (fq 0, 3)
  else if l = rangeB.data.toList then (fq 4, 0)
  else if l = zeroB.data.toList then (fq 11, 0)
  else fparts (Lib.hasPrefix l [45]) (Lib.cut (Lib.trimPrefix l [45]) [47]).1 (Lib.cut (Lib.trimPrefix l [45]) [47]).2.2 (if (Lib.cut (Lib.trimPrefix l [45]) [47]).2.2 then (Lib.cut (Lib.trimPrefix l [45]) [47]).2.1 else [49])

theorem RR.mk4 {w : World} {f : Int} {neg : Bool} {x y : Value} {xs ys : List Nat} (hx : RV w x xs) (hy : RV w y ys) : RR w (.agg #[.int .i64 f, .bool neg, x, y]) ⟨f, neg, xs, ys⟩ := ⟨x, y, rfl, hx, hy⟩
theorem toList_beq {s t : ByteArray} : (s.toList == t.toList) = decide (s.data.toList = t.data.toList) := by
  rw [Lib.toList_data, Lib.toList_data]
  by_cases h : s.data.toList = t.data.toList
  · rw [h]; simp
  · rw [decide_eq_false h]; exact beq_eq_false_iff_ne.2 h

set_option maxRecDepth 10000 in
set_option maxHeartbeats 4000000 in
theorem parse_early {w : World} {s : ByteArray} (hg : Glob w) (hs : s.size ≤ 1073741824) {m : Rq × Int} (hm : fparse s.data.toList = m)
    (hc : 4900 < s.size ∨ s.data.toList = rangeB.data.toList ∨ s.data.toList = zeroB.data.toList) :
    Calls Tryz.prog 29 #[.string s] w fun e w' => ∃ r, e = .returned (.tuple #[r, .int .i64 m.2]) ∧ RO w.heap.size w' r m.1 ∧ Ext w w' := by
  have hsz : s.data.toList.length = s.size := (Lib.size_eq s).symm
  have HG := Aside.mk hg
  have hk0 := Keep4.init (Ext.refl w) (.int .i64 0) (.bool false) (.slice none 0 0) (.slice none 0 0) 26
  have i0 := told0
  have i1 := told1
  clear hg
  by_cases h49 : 4900 < s.size
  · have HM : Aside (m = (fq 0, 3)) := ⟨by rw [← hm]; unfold fparse; rw [if_pos (by omega)]⟩
    rw [HM.out]
    have HK := Aside.mk hk0
    clear hsz hm hc hk0
    go_enter Tryz.func29, Tryz.ntmps29
    go_wp2
    refine bodyPost_ret (v := .tuple #[.agg #[.int .i64 0, .bool false, .slice none 0 0, .slice none 0 0], .int .i64 3]) (by simp [results, Tryz.results29, go_sem]) rfl ⟨_, rfl, RO.fq _ _ _, HK.out.1.out⟩
  · by_cases hr : s.data.toList = rangeB.data.toList
    · have HM : Aside (m = (fq 4, 0)) := ⟨by rw [← hm]; unfold fparse; rw [if_neg (by omega), if_pos hr]⟩
      have heq : (s.toList == rangeB.toList) = true := by rw [toList_beq]; simp [hr]
      rw [HM.out]
      clear hsz hm hc hr
      go_enter Tryz.func29, Tryz.ntmps29
      go_wp2_with (refine load_told rfl _ rfl rfl (HG.out.ext hk0.1.out) ?_)
      go_loopw [21] (fun i wr => i = .int .i64 0 ∧ Keep4 w w.heap.size wr) (fun i _ => 2 - (intOf i).toNat)
      case atStart => exact ⟨rfl, hk0⟩
      case round =>
        obtain ⟨rfl, hk1⟩ := hrel
        have hk2 := Keep4.ext ((Ext.refl wr).alloc (.cells #[.string rangeB, .int .i64 4] 83)) hk1
        clear hk0 hk1
        go_wp2_with (go_at_call 79; refine fault_calls.mono ?_; rintro e w4 ⟨rfl, he⟩; have hk4 := Keep4.ext he hk2; clear hk2 he)
        have HK := Aside.mk hk4
        refine bodyPost_ret (v := .tuple #[.agg #[.int .i64 4, .bool false, .slice none 0 0, .slice none 0 0], .int .i64 0]) (by simp [results, Tryz.results29, go_sem, hk4]) rfl ⟨_, rfl, RO.fq _ _ _, ext_set4 HK.out.1.out (Nat.le_refl _) _ _ _ _⟩
    · have hz : s.data.toList = zeroB.data.toList := by rcases hc with h | h | h <;> first | exact absurd h h49 | exact absurd h hr | exact h
      have HM : Aside (m = (fq 11, 0)) := ⟨by rw [← hm]; unfold fparse; rw [if_neg (by omega), if_neg hr, if_pos hz]⟩
      have heq : (s.toList == rangeB.toList) = false := by rw [toList_beq]; simp [hr]
      have heq2 : (s.toList == zeroB.toList) = true := by rw [toList_beq]; simp [hz]
      rw [HM.out]
      clear hsz hm hc hr hz
      go_enter Tryz.func29, Tryz.ntmps29
      go_wp2_with (refine load_told rfl _ rfl rfl (HG.out.ext hk0.1.out) ?_)
      go_loopw [21] (fun i wr => ∃ (k : Nat), k ≤ 1 ∧ i = .int .i64 (k : Int) ∧ Keep4 w w.heap.size wr) (fun i _ => 2 - (intOf i).toNat)
      case atStart => exact ⟨0, by omega, rfl, hk0⟩
      case round =>
        obtain ⟨k, hk, rfl, hk1⟩ := hrel
        obtain rfl | rfl : k = 0 ∨ k = 1 := by omega
        · have hk2 := Keep4.ext ((Ext.refl wr).alloc (.cells #[.string rangeB, .int .i64 4] 83)) hk1
          clear hk0 hk1
          go_wp2
          go_roundw
          case rel => exact ⟨1, by omega, rfl, hk2⟩
          case measure => simp [intOf]
        · have hk2 := Keep4.ext ((Ext.refl wr).alloc (.cells #[.string zeroB, .int .i64 11] 83)) hk1
          clear hk0 hk1
          go_wp2_with (go_at_call 79; refine fault_calls.mono ?_; rintro e w4 ⟨rfl, he⟩; have hk4 := Keep4.ext he hk2; clear hk2 he)
          have HK := Aside.mk hk4
          refine bodyPost_ret (v := .tuple #[.agg #[.int .i64 11, .bool false, .slice none 0 0, .slice none 0 0], .int .i64 0]) (by simp [results, Tryz.results29, go_sem, hk4]) rfl ⟨_, rfl, RO.fq _ _ _, ext_set4 HK.out.1.out (Nat.le_refl _) _ _ _ _⟩

theorem mk_toList {l : List UInt8} : (⟨l.toArray⟩ : ByteArray).data.toList = l := rfl
theorem mk_size {l : List UInt8} : (⟨l.toArray⟩ : ByteArray).size = l.length := by rw [Lib.size_eq]
theorem cut_len (l sep : List UInt8) : (Lib.cut l sep).1.length ≤ l.length ∧ (Lib.cut l sep).2.1.length ≤ l.length := by
  unfold Lib.cut
  split
  · simp only [List.length_take, List.length_drop]; omega
  · simp
theorem trimPrefix_len (l p : List UInt8) : (Lib.trimPrefix l p).length ≤ l.length := Lib.trimPrefix_le l p
set_option maxRecDepth 10000 in
set_option maxHeartbeats 4000000 in
theorem parse_main {w : World} {s : ByteArray} (hg : Glob w) {m : Rq × Int} (hm : fparse s.data.toList = m)
    (h49 : ¬ 4900 < s.size) (hr : s.data.toList ≠ rangeB.data.toList) (hz : s.data.toList ≠ zeroB.data.toList) :
    Calls Tryz.prog 29 #[.string s] w fun e w' => ∃ r, e = .returned (.tuple #[r, .int .i64 m.2]) ∧ RO w.heap.size w' r m.1 ∧ Ext w w' := by
  have hsz : s.data.toList.length = s.size := (Lib.size_eq s).symm
  have HG := Aside.mk hg
  have hk0 := Keep4.init (Ext.refl w) (.int .i64 0) (.bool false) (.slice none 0 0) (.slice none 0 0) 26
  have i0 := told0
  have i1 := told1
  have heq : (s.toList == rangeB.toList) = false := by rw [toList_beq]; simp [hr]
  have heq2 : (s.toList == zeroB.toList) = false := by rw [toList_beq]; simp [hz]
  unfold fparse at hm
  rw [if_neg (by omega), if_neg hr, if_neg hz] at hm
  obtain ⟨s1, hs1⟩ : ∃ s1 : ByteArray, (⟨(Lib.trimPrefix s.data.toList (⟨#[45]⟩ : ByteArray).data.toList).toArray⟩ : ByteArray) = s1 := ⟨_, rfl⟩
  obtain ⟨nb, hnb⟩ : ∃ nb, Lib.hasPrefix s.data.toList (⟨#[45]⟩ : ByteArray).data.toList = nb := ⟨_, rfl⟩
  have hs1l : Lib.trimPrefix s.data.toList [45] = s1.data.toList := by rw [← hs1]
  have hl1 : s1.size ≤ 4900 := by
    rw [← hs1, mk_size]
    have := trimPrefix_len s.data.toList [45]
    show (Lib.trimPrefix s.data.toList [45]).length ≤ 4900
    omega
  rw [show Lib.hasPrefix s.data.toList [45] = nb from hnb, hs1l] at hm
  obtain ⟨s2, hs2⟩ : ∃ s2 : ByteArray, (⟨(Lib.cut s1.data.toList (⟨#[47]⟩ : ByteArray).data.toList).1.toArray⟩ : ByteArray) = s2 := ⟨_, rfl⟩
  obtain ⟨s3, hs3⟩ : ∃ s3 : ByteArray, (⟨(Lib.cut s1.data.toList (⟨#[47]⟩ : ByteArray).data.toList).2.1.toArray⟩ : ByteArray) = s3 := ⟨_, rfl⟩
  obtain ⟨tw, htw⟩ : ∃ tw, (Lib.cut s1.data.toList (⟨#[47]⟩ : ByteArray).data.toList).2.2 = tw := ⟨_, rfl⟩
  have hs2l : (Lib.cut s1.data.toList [47]).1 = s2.data.toList := by rw [← hs2]
  have hs3l : (Lib.cut s1.data.toList [47]).2.1 = s3.data.toList := by rw [← hs3]
  have hcl := cut_len s1.data.toList [47]
  rw [hs2l, hs3l, ← Lib.size_eq, ← Lib.size_eq, ← Lib.size_eq] at hcl
  rw [hs2l, hs3l, show (Lib.cut s1.data.toList [47]).2.2 = tw from htw] at hm
  have HS1 := Aside.mk hs1
  have HNB := Aside.mk hnb
  have HS2 := Aside.mk hs2
  have HS3 := Aside.mk hs3
  have HTW := Aside.mk htw
  have HL1 : Aside (s1.size < 4294967281) := ⟨by omega⟩
  have HL2 : Aside (s2.size ≤ 1073741824) := ⟨by omega⟩
  have HL3 : Aside (s3.size ≤ 1073741824) := ⟨by omega⟩
  clear hg hr hz hs1 hnb hs1l hs2 hs3 htw hs2l hs3l hsz hl1 hcl
  obtain ⟨e1, he1⟩ : ∃ e, perr s2.data.toList = e := ⟨_, rfl⟩
  obtain ⟨xs1, hx1⟩ : ∃ x, pdig s2.data.toList = x := ⟨_, rfl⟩
  have HE1 := Aside.mk he1
  have HP1 := Aside.mk hx1
  generalize hsb : (if tw = true then s3.data.toList else [49]) = lb at hm
  have HLB : Aside (tw = false → lb = [49]) := ⟨fun h => by rw [← hsb, h]; rfl⟩
  have HLT : Aside (tw = true → lb = s3.data.toList) := ⟨fun h => by rw [← hsb, h]; rfl⟩
  obtain ⟨e2, he2⟩ : ∃ e, perr lb = e := ⟨_, rfl⟩
  obtain ⟨xs2, hq2⟩ : ∃ x, pdig lb = x := ⟨_, rfl⟩
  clear hsb
  by_cases h1 : e1 = 0
  · subst h1
    by_cases h2 : e2 = 0
    · subst h2
      rw [pdig_ok he1] at hx1
      have hx2 := hq2
      rw [pdig_ok he2] at hx2
      by_cases h3 : dval lb = 0
      · have HM : Aside (m = (fq 0, 5)) := ⟨by rw [← hm]; unfold fparts; rw [if_pos (.inr (.inr (.inl h3)))]⟩
        have hx2' : xs2 = [] := by rw [← hx2, h3, dig_zero]
        subst hx2'
        rw [HM.out]
        clear hm he1 h3 hx1 hx2
        cases tw
        · have HE2 : Aside (perr (⟨#[49]⟩ : ByteArray).data.toList = _) := ⟨(congrArg perr (HLB.out rfl).symm).trans he2⟩
          have HP2 : Aside (pdig (⟨#[49]⟩ : ByteArray).data.toList = _) := ⟨(congrArg pdig (HLB.out rfl).symm).trans hq2⟩
          have HL4 : Aside ((⟨#[49]⟩ : ByteArray).size ≤ 1073741824) := ⟨by decide⟩
          clear he2 hq2
          go_enter Tryz.func29, Tryz.ntmps29
          go_wp2_with (refine load_told rfl _ rfl rfl (HG.out.ext hk0.1.out) ?_)
          go_loopw [21] (fun i wr => ∃ (j : Nat), j ≤ 2 ∧ i = .int .i64 (j : Int) ∧ Keep4 w w.heap.size wr) (fun i _ => 2 - (intOf i).toNat)
          case atStart => exact ⟨0, by omega, rfl, hk0⟩
          case round =>
            obtain ⟨j, hj, rfl, hk1⟩ := hrel
            obtain rfl | rfl | rfl : j = 0 ∨ j = 1 ∨ j = 2 := by omega
            · have hk2 := Keep4.ext ((Ext.refl wr).alloc (.cells #[.string rangeB, .int .i64 4] 83)) hk1
              clear hk0 hk1
              go_wp2
              go_roundw
              case rel => exact ⟨1, by omega, rfl, hk2⟩
              case measure => simp [intOf]
            · have hk2 := Keep4.ext ((Ext.refl wr).alloc (.cells #[.string zeroB, .int .i64 11] 83)) hk1
              clear hk0 hk1
              go_wp2
              go_roundw
              case rel => exact ⟨2, by omega, rfl, hk2⟩
              case measure => simp [intOf]
            · clear hk0
              go_wp2_with (first | (go_at_call 80; refine (Tryz.strings_CutPrefix s ⟨#[45]⟩ _).mono ?_; rintro e w2 ⟨rfl, hw⟩; rw [hw, HS1.out, HNB.out]; clear hw) | (go_at_call 81; refine (Tryz.strings_Cut s1 ⟨#[47]⟩ _ _ HL1.out (Classical.choose_spec (HG.out.ext hk1.1.out).c4)).mono ?_; rintro e w3 ⟨rfl, hw⟩; rw [HS2.out, HS3.out, HTW.out]; have hk2 := Keep4.ext (Ext.of_drewN hw) hk1; clear hk1 hw) | (go_at_call 82; with_reducible refine (Parse_calls HL2.out).mono ?_; rintro e w4 ⟨r1, rfl, hr, he⟩; have hk3 := Keep4.ext he hk2; have HW2 := Aside.mk (World.block_lt_of_cell? _ _ hk2.2.1.1); rw [HP1.out] at hr; rw [HE1.out]; have HR1 := Aside.mk hr; obtain ⟨A1, c1, rfl, _⟩ := hr.form; clear hk2 hr he) | (go_at_call 82; with_reducible refine (Parse_calls HL4.out).mono ?_; rintro e w5 ⟨r2, rfl, hr, he⟩; have hk4 := Keep4.ext he hk3; have HW4 := Aside.mk he; have HW3 := Aside.mk (World.block_lt_of_cell? _ _ hk3.2.1.1); rw [HP2.out] at hr; rw [HE2.out]; have HR2 := Aside.mk hr; obtain ⟨A2, c2, rfl, _⟩ := hr.form; clear hk3 hr he) | (go_at_call 49; with_reducible refine (israt_b (q := ⟨0, nb, xs1, xs2⟩) ?h HOK.out).mono ?_; (case h => exact RR.mk4 (HR1.out.rv.ext (HW4.out.trans ((Ext.refl _).alloc _))) (HR2.out.rv.ext ((Ext.refl _).alloc _))); rintro e w6 ⟨rfl, he⟩; have hk5 := Keep4.ext he (Keep4.ext ((Ext.refl w5).alloc (.cells #[.int .i64 0, .bool nb, .slice A1 xs1.length c1, .slice A2 xs2.length c2] 26)) hk4); have hb5 := KeepB.ext he (KeepB.init w5 (.int .i64 0) (.bool nb) (.slice A1 xs1.length c1) (.slice A2 xs2.length c2) 26); clear hk4 he))
              have HK := Aside.mk hk4
              refine bodyPost_ret (v := .tuple #[.agg #[.int .i64 0, .bool false, .slice none 0 0, .slice none 0 0], .int .i64 5]) (by simp [results, Tryz.results29, go_sem, hk4]) rfl ⟨_, rfl, RO.fq _ _ _, ext_set4 HK.out.1.out (Nat.le_refl _) _ _ _ _⟩
        · have HE2 : Aside (perr s3.data.toList = _) := ⟨(congrArg perr (HLT.out rfl).symm).trans he2⟩
          have HP2 : Aside (pdig s3.data.toList = _) := ⟨(congrArg pdig (HLT.out rfl).symm).trans hq2⟩
          have HL4 := HL3
          clear he2 hq2
          go_enter Tryz.func29, Tryz.ntmps29
          go_wp2_with (refine load_told rfl _ rfl rfl (HG.out.ext hk0.1.out) ?_)
          go_loopw [21] (fun i wr => ∃ (j : Nat), j ≤ 2 ∧ i = .int .i64 (j : Int) ∧ Keep4 w w.heap.size wr) (fun i _ => 2 - (intOf i).toNat)
          case atStart => exact ⟨0, by omega, rfl, hk0⟩
          case round =>
            obtain ⟨j, hj, rfl, hk1⟩ := hrel
            obtain rfl | rfl | rfl : j = 0 ∨ j = 1 ∨ j = 2 := by omega
            · have hk2 := Keep4.ext ((Ext.refl wr).alloc (.cells #[.string rangeB, .int .i64 4] 83)) hk1
              clear hk0 hk1
              go_wp2
              go_roundw
              case rel => exact ⟨1, by omega, rfl, hk2⟩
              case measure => simp [intOf]
            · have hk2 := Keep4.ext ((Ext.refl wr).alloc (.cells #[.string zeroB, .int .i64 11] 83)) hk1
              clear hk0 hk1
              go_wp2
              go_roundw
              case rel => exact ⟨2, by omega, rfl, hk2⟩
              case measure => simp [intOf]
            · clear hk0
              go_wp2_with (first | (go_at_call 80; refine (Tryz.strings_CutPrefix s ⟨#[45]⟩ _).mono ?_; rintro e w2 ⟨rfl, hw⟩; rw [hw, HS1.out, HNB.out]; clear hw) | (go_at_call 81; refine (Tryz.strings_Cut s1 ⟨#[47]⟩ _ _ HL1.out (Classical.choose_spec (HG.out.ext hk1.1.out).c4)).mono ?_; rintro e w3 ⟨rfl, hw⟩; rw [HS2.out, HS3.out, HTW.out]; have hk2 := Keep4.ext (Ext.of_drewN hw) hk1; clear hk1 hw) | (go_at_call 82; with_reducible refine (Parse_calls HL2.out).mono ?_; rintro e w4 ⟨r1, rfl, hr, he⟩; have hk3 := Keep4.ext he hk2; have HW2 := Aside.mk (World.block_lt_of_cell? _ _ hk2.2.1.1); rw [HP1.out] at hr; rw [HE1.out]; have HR1 := Aside.mk hr; obtain ⟨A1, c1, rfl, _⟩ := hr.form; clear hk2 hr he) | (go_at_call 82; with_reducible refine (Parse_calls HL4.out).mono ?_; rintro e w5 ⟨r2, rfl, hr, he⟩; have hk4 := Keep4.ext he hk3; have HW4 := Aside.mk he; have HW3 := Aside.mk (World.block_lt_of_cell? _ _ hk3.2.1.1); rw [HP2.out] at hr; rw [HE2.out]; have HR2 := Aside.mk hr; obtain ⟨A2, c2, rfl, _⟩ := hr.form; clear hk3 hr he) | (go_at_call 49; with_reducible refine (israt_b (q := ⟨0, nb, xs1, xs2⟩) ?h HOK.out).mono ?_; (case h => exact RR.mk4 (HR1.out.rv.ext (HW4.out.trans ((Ext.refl _).alloc _))) (HR2.out.rv.ext ((Ext.refl _).alloc _))); rintro e w6 ⟨rfl, he⟩; have hk5 := Keep4.ext he (Keep4.ext ((Ext.refl w5).alloc (.cells #[.int .i64 0, .bool nb, .slice A1 xs1.length c1, .slice A2 xs2.length c2] 26)) hk4); have hb5 := KeepB.ext he (KeepB.init w5 (.int .i64 0) (.bool nb) (.slice A1 xs1.length c1) (.slice A2 xs2.length c2) 26); clear hk4 he))
              have HK := Aside.mk hk4
              refine bodyPost_ret (v := .tuple #[.agg #[.int .i64 0, .bool false, .slice none 0 0, .slice none 0 0], .int .i64 5]) (by simp [results, Tryz.results29, go_sem, hk4]) rfl ⟨_, rfl, RO.fq _ _ _, ext_set4 HK.out.1.out (Nat.le_refl _) _ _ _ _⟩
      · have hd3 : (((xs2.length : Nat) : Int) == 0) = false := beq_eq_false_iff_ne.2 (by
          intro h
          apply h3
          exact dig_nil_iff.1 (by rw [hx2]; exact List.eq_nil_of_length_eq_zero (by omega)))
        by_cases h4 : tw = true ∧ lb = [49]
        · have HM : Aside (m = (fq 0, 5)) := ⟨by rw [← hm]; unfold fparts; rw [if_pos (.inr (.inr (.inr h4)))]⟩
          obtain ⟨h4a, h4b⟩ := h4
          subst h4a
          have HE2 : Aside (perr s3.data.toList = _) := ⟨(congrArg perr (HLT.out rfl).symm).trans he2⟩
          have HP2 : Aside (pdig s3.data.toList = _) := ⟨(congrArg pdig (HLT.out rfl).symm).trans hq2⟩
          have HL4 := HL3
          have hs3 : (s3.toList == [49]) = true := by rw [Lib.toList_data, ← HLT.out rfl, h4b]; rfl
          rw [HM.out]
          clear hm he1 h3 h4b hx1 he2 hx2
          go_enter Tryz.func29, Tryz.ntmps29
          go_wp2_with (refine load_told rfl _ rfl rfl (HG.out.ext hk0.1.out) ?_)
          go_loopw [21] (fun i wr => ∃ (j : Nat), j ≤ 2 ∧ i = .int .i64 (j : Int) ∧ Keep4 w w.heap.size wr) (fun i _ => 2 - (intOf i).toNat)
          case atStart => exact ⟨0, by omega, rfl, hk0⟩
          case round =>
            obtain ⟨j, hj, rfl, hk1⟩ := hrel
            obtain rfl | rfl | rfl : j = 0 ∨ j = 1 ∨ j = 2 := by omega
            · have hk2 := Keep4.ext ((Ext.refl wr).alloc (.cells #[.string rangeB, .int .i64 4] 83)) hk1
              clear hk0 hk1
              go_wp2
              go_roundw
              case rel => exact ⟨1, by omega, rfl, hk2⟩
              case measure => simp [intOf]
            · have hk2 := Keep4.ext ((Ext.refl wr).alloc (.cells #[.string zeroB, .int .i64 11] 83)) hk1
              clear hk0 hk1
              go_wp2
              go_roundw
              case rel => exact ⟨2, by omega, rfl, hk2⟩
              case measure => simp [intOf]
            · clear hk0
              go_wp2_with (first | (go_at_call 80; refine (Tryz.strings_CutPrefix s ⟨#[45]⟩ _).mono ?_; rintro e w2 ⟨rfl, hw⟩; rw [hw, HS1.out, HNB.out]; clear hw) | (go_at_call 81; refine (Tryz.strings_Cut s1 ⟨#[47]⟩ _ _ HL1.out (Classical.choose_spec (HG.out.ext hk1.1.out).c4)).mono ?_; rintro e w3 ⟨rfl, hw⟩; rw [HS2.out, HS3.out, HTW.out]; have hk2 := Keep4.ext (Ext.of_drewN hw) hk1; clear hk1 hw) | (go_at_call 82; with_reducible refine (Parse_calls HL2.out).mono ?_; rintro e w4 ⟨r1, rfl, hr, he⟩; have hk3 := Keep4.ext he hk2; have HW2 := Aside.mk (World.block_lt_of_cell? _ _ hk2.2.1.1); rw [HP1.out] at hr; rw [HE1.out]; have HR1 := Aside.mk hr; obtain ⟨A1, c1, rfl, _⟩ := hr.form; clear hk2 hr he) | (go_at_call 82; with_reducible refine (Parse_calls HL4.out).mono ?_; rintro e w5 ⟨r2, rfl, hr, he⟩; have hk4 := Keep4.ext he hk3; have HW4 := Aside.mk he; have HW3 := Aside.mk (World.block_lt_of_cell? _ _ hk3.2.1.1); rw [HP2.out] at hr; rw [HE2.out]; have HR2 := Aside.mk hr; obtain ⟨A2, c2, rfl, _⟩ := hr.form; clear hk3 hr he) | (go_at_call 49; with_reducible refine (israt_b (q := ⟨0, nb, xs1, xs2⟩) ?h HOK.out).mono ?_; (case h => exact RR.mk4 (HR1.out.rv.ext (HW4.out.trans ((Ext.refl _).alloc _))) (HR2.out.rv.ext ((Ext.refl _).alloc _))); rintro e w6 ⟨rfl, he⟩; have hk5 := Keep4.ext he (Keep4.ext ((Ext.refl w5).alloc (.cells #[.int .i64 0, .bool nb, .slice A1 xs1.length c1, .slice A2 xs2.length c2] 26)) hk4); have hb5 := KeepB.ext he (KeepB.init w5 (.int .i64 0) (.bool nb) (.slice A1 xs1.length c1) (.slice A2 xs2.length c2) 26); clear hk4 he))
              have HK := Aside.mk hk4
              refine bodyPost_ret (v := .tuple #[.agg #[.int .i64 0, .bool false, .slice none 0 0, .slice none 0 0], .int .i64 5]) (by simp [results, Tryz.results29, go_sem, hk4]) rfl ⟨_, rfl, RO.fq _ _ _, ext_set4 HK.out.1.out (Nat.le_refl _) _ _ _ _⟩
        · rw [fparts, if_neg (by rw [he1, he2]; rintro (h | h | h | h) <;> first | exact absurd rfl h | exact h3 h | exact h4 h), hx1, hx2] at hm
          cases hok : okq ⟨0, nb, xs1, xs2⟩
          · have HOK := Aside.mk hok
            have HM : Aside (m = (fq 0, 5)) := ⟨by rw [← hm, hok]; rfl⟩
            rw [HM.out]
            clear hm he1 h3 hx1 hx2 hok
            cases tw
            · have HE2 : Aside (perr (⟨#[49]⟩ : ByteArray).data.toList = _) := ⟨(congrArg perr (HLB.out rfl).symm).trans he2⟩
              have HP2 : Aside (pdig (⟨#[49]⟩ : ByteArray).data.toList = _) := ⟨(congrArg pdig (HLB.out rfl).symm).trans hq2⟩
              have HL4 : Aside ((⟨#[49]⟩ : ByteArray).size ≤ 1073741824) := ⟨by decide⟩
              clear he2 hq2 h4
              go_enter Tryz.func29, Tryz.ntmps29
              go_wp2_with (refine load_told rfl _ rfl rfl (HG.out.ext hk0.1.out) ?_)
              go_loopw [21] (fun i wr => ∃ (j : Nat), j ≤ 2 ∧ i = .int .i64 (j : Int) ∧ Keep4 w w.heap.size wr) (fun i _ => 2 - (intOf i).toNat)
              case atStart => exact ⟨0, by omega, rfl, hk0⟩
              case round =>
                obtain ⟨j, hj, rfl, hk1⟩ := hrel
                obtain rfl | rfl | rfl : j = 0 ∨ j = 1 ∨ j = 2 := by omega
                · have hk2 := Keep4.ext ((Ext.refl wr).alloc (.cells #[.string rangeB, .int .i64 4] 83)) hk1
                  clear hk0 hk1
                  go_wp2
                  go_roundw
                  case rel => exact ⟨1, by omega, rfl, hk2⟩
                  case measure => simp [intOf]
                · have hk2 := Keep4.ext ((Ext.refl wr).alloc (.cells #[.string zeroB, .int .i64 11] 83)) hk1
                  clear hk0 hk1
                  go_wp2
                  go_roundw
                  case rel => exact ⟨2, by omega, rfl, hk2⟩
                  case measure => simp [intOf]
                · clear hk0
                  go_wp2_with (first | (go_at_call 80; refine (Tryz.strings_CutPrefix s ⟨#[45]⟩ _).mono ?_; rintro e w2 ⟨rfl, hw⟩; rw [hw, HS1.out, HNB.out]; clear hw) | (go_at_call 81; refine (Tryz.strings_Cut s1 ⟨#[47]⟩ _ _ HL1.out (Classical.choose_spec (HG.out.ext hk1.1.out).c4)).mono ?_; rintro e w3 ⟨rfl, hw⟩; rw [HS2.out, HS3.out, HTW.out]; have hk2 := Keep4.ext (Ext.of_drewN hw) hk1; clear hk1 hw) | (go_at_call 82; with_reducible refine (Parse_calls HL2.out).mono ?_; rintro e w4 ⟨r1, rfl, hr, he⟩; have hk3 := Keep4.ext he hk2; have HW2 := Aside.mk (World.block_lt_of_cell? _ _ hk2.2.1.1); rw [HP1.out] at hr; rw [HE1.out]; have HR1 := Aside.mk hr; obtain ⟨A1, c1, rfl, _⟩ := hr.form; clear hk2 hr he) | (go_at_call 82; with_reducible refine (Parse_calls HL4.out).mono ?_; rintro e w5 ⟨r2, rfl, hr, he⟩; have hk4 := Keep4.ext he hk3; have HW4 := Aside.mk he; have HW3 := Aside.mk (World.block_lt_of_cell? _ _ hk3.2.1.1); rw [HP2.out] at hr; rw [HE2.out]; have HR2 := Aside.mk hr; obtain ⟨A2, c2, rfl, _⟩ := hr.form; clear hk3 hr he) | (go_at_call 49; with_reducible refine (israt_b (q := ⟨0, nb, xs1, xs2⟩) ?h HOK.out).mono ?_; (case h => exact RR.mk4 (HR1.out.rv.ext (HW4.out.trans ((Ext.refl _).alloc _))) (HR2.out.rv.ext ((Ext.refl _).alloc _))); rintro e w6 ⟨rfl, he⟩; have hk5 := Keep4.ext he (Keep4.ext ((Ext.refl w5).alloc (.cells #[.int .i64 0, .bool nb, .slice A1 xs1.length c1, .slice A2 xs2.length c2] 26)) hk4); have hb5 := KeepB.ext he (KeepB.init w5 (.int .i64 0) (.bool nb) (.slice A1 xs1.length c1) (.slice A2 xs2.length c2) 26); clear hk4 he))
                  have HK := Aside.mk hk5
                  refine bodyPost_ret (v := .tuple #[.agg #[.int .i64 0, .bool false, .slice none 0 0, .slice none 0 0], .int .i64 5]) (by simp [results, Tryz.results29, go_sem, hk5]) rfl ⟨_, rfl, RO.fq _ _ _, ext_set4 HK.out.1.out (Nat.le_refl _) _ _ _ _⟩
            · have HE2 : Aside (perr s3.data.toList = _) := ⟨(congrArg perr (HLT.out rfl).symm).trans he2⟩
              have HP2 : Aside (pdig s3.data.toList = _) := ⟨(congrArg pdig (HLT.out rfl).symm).trans hq2⟩
              have HL4 := HL3
              have hs3 : (s3.toList == [49]) = false := by
                rw [Lib.toList_data, ← HLT.out rfl]; exact beq_eq_false_iff_ne.2 (fun h => h4 ⟨rfl, h⟩)
              clear he2 hq2 h4
              go_enter Tryz.func29, Tryz.ntmps29
              go_wp2_with (refine load_told rfl _ rfl rfl (HG.out.ext hk0.1.out) ?_)
              go_loopw [21] (fun i wr => ∃ (j : Nat), j ≤ 2 ∧ i = .int .i64 (j : Int) ∧ Keep4 w w.heap.size wr) (fun i _ => 2 - (intOf i).toNat)
              case atStart => exact ⟨0, by omega, rfl, hk0⟩
              case round =>
                obtain ⟨j, hj, rfl, hk1⟩ := hrel
                obtain rfl | rfl | rfl : j = 0 ∨ j = 1 ∨ j = 2 := by omega
                · have hk2 := Keep4.ext ((Ext.refl wr).alloc (.cells #[.string rangeB, .int .i64 4] 83)) hk1
                  clear hk0 hk1
                  go_wp2
                  go_roundw
                  case rel => exact ⟨1, by omega, rfl, hk2⟩
                  case measure => simp [intOf]
                · have hk2 := Keep4.ext ((Ext.refl wr).alloc (.cells #[.string zeroB, .int .i64 11] 83)) hk1
                  clear hk0 hk1
                  go_wp2
                  go_roundw
                  case rel => exact ⟨2, by omega, rfl, hk2⟩
                  case measure => simp [intOf]
                · clear hk0
                  go_wp2_with (first | (go_at_call 80; refine (Tryz.strings_CutPrefix s ⟨#[45]⟩ _).mono ?_; rintro e w2 ⟨rfl, hw⟩; rw [hw, HS1.out, HNB.out]; clear hw) | (go_at_call 81; refine (Tryz.strings_Cut s1 ⟨#[47]⟩ _ _ HL1.out (Classical.choose_spec (HG.out.ext hk1.1.out).c4)).mono ?_; rintro e w3 ⟨rfl, hw⟩; rw [HS2.out, HS3.out, HTW.out]; have hk2 := Keep4.ext (Ext.of_drewN hw) hk1; clear hk1 hw) | (go_at_call 82; with_reducible refine (Parse_calls HL2.out).mono ?_; rintro e w4 ⟨r1, rfl, hr, he⟩; have hk3 := Keep4.ext he hk2; have HW2 := Aside.mk (World.block_lt_of_cell? _ _ hk2.2.1.1); rw [HP1.out] at hr; rw [HE1.out]; have HR1 := Aside.mk hr; obtain ⟨A1, c1, rfl, _⟩ := hr.form; clear hk2 hr he) | (go_at_call 82; with_reducible refine (Parse_calls HL4.out).mono ?_; rintro e w5 ⟨r2, rfl, hr, he⟩; have hk4 := Keep4.ext he hk3; have HW4 := Aside.mk he; have HW3 := Aside.mk (World.block_lt_of_cell? _ _ hk3.2.1.1); rw [HP2.out] at hr; rw [HE2.out]; have HR2 := Aside.mk hr; obtain ⟨A2, c2, rfl, _⟩ := hr.form; clear hk3 hr he) | (go_at_call 49; with_reducible refine (israt_b (q := ⟨0, nb, xs1, xs2⟩) ?h HOK.out).mono ?_; (case h => exact RR.mk4 (HR1.out.rv.ext (HW4.out.trans ((Ext.refl _).alloc _))) (HR2.out.rv.ext ((Ext.refl _).alloc _))); rintro e w6 ⟨rfl, he⟩; have hk5 := Keep4.ext he (Keep4.ext ((Ext.refl w5).alloc (.cells #[.int .i64 0, .bool nb, .slice A1 xs1.length c1, .slice A2 xs2.length c2] 26)) hk4); have hb5 := KeepB.ext he (KeepB.init w5 (.int .i64 0) (.bool nb) (.slice A1 xs1.length c1) (.slice A2 xs2.length c2) 26); clear hk4 he))
                  have HK := Aside.mk hk5
                  refine bodyPost_ret (v := .tuple #[.agg #[.int .i64 0, .bool false, .slice none 0 0, .slice none 0 0], .int .i64 5]) (by simp [results, Tryz.results29, go_sem, hk5]) rfl ⟨_, rfl, RO.fq _ _ _, ext_set4 HK.out.1.out (Nat.le_refl _) _ _ _ _⟩
          · have HOK := Aside.mk hok
            have HM : Aside (m = (⟨0, nb, xs1, xs2⟩, 0)) := ⟨by rw [← hm, hok]; rfl⟩
            rw [HM.out]
            clear hm he1 h3 hx1 hx2 hok
            cases tw
            · have HE2 : Aside (perr (⟨#[49]⟩ : ByteArray).data.toList = _) := ⟨(congrArg perr (HLB.out rfl).symm).trans he2⟩
              have HP2 : Aside (pdig (⟨#[49]⟩ : ByteArray).data.toList = _) := ⟨(congrArg pdig (HLB.out rfl).symm).trans hq2⟩
              have HL4 : Aside ((⟨#[49]⟩ : ByteArray).size ≤ 1073741824) := ⟨by decide⟩
              clear he2 hq2 h4
              go_enter Tryz.func29, Tryz.ntmps29
              go_wp2_with (refine load_told rfl _ rfl rfl (HG.out.ext hk0.1.out) ?_)
              go_loopw [21] (fun i wr => ∃ (j : Nat), j ≤ 2 ∧ i = .int .i64 (j : Int) ∧ Keep4 w w.heap.size wr) (fun i _ => 2 - (intOf i).toNat)
              case atStart => exact ⟨0, by omega, rfl, hk0⟩
              case round =>
                obtain ⟨j, hj, rfl, hk1⟩ := hrel
                obtain rfl | rfl | rfl : j = 0 ∨ j = 1 ∨ j = 2 := by omega
                · have hk2 := Keep4.ext ((Ext.refl wr).alloc (.cells #[.string rangeB, .int .i64 4] 83)) hk1
                  clear hk0 hk1
                  go_wp2
                  go_roundw
                  case rel => exact ⟨1, by omega, rfl, hk2⟩
                  case measure => simp [intOf]
                · have hk2 := Keep4.ext ((Ext.refl wr).alloc (.cells #[.string zeroB, .int .i64 11] 83)) hk1
                  clear hk0 hk1
                  go_wp2
                  go_roundw
                  case rel => exact ⟨2, by omega, rfl, hk2⟩
                  case measure => simp [intOf]
                · clear hk0
                  go_wp2_with (first | (go_at_call 80; refine (Tryz.strings_CutPrefix s ⟨#[45]⟩ _).mono ?_; rintro e w2 ⟨rfl, hw⟩; rw [hw, HS1.out, HNB.out]; clear hw) | (go_at_call 81; refine (Tryz.strings_Cut s1 ⟨#[47]⟩ _ _ HL1.out (Classical.choose_spec (HG.out.ext hk1.1.out).c4)).mono ?_; rintro e w3 ⟨rfl, hw⟩; rw [HS2.out, HS3.out, HTW.out]; have hk2 := Keep4.ext (Ext.of_drewN hw) hk1; clear hk1 hw) | (go_at_call 82; with_reducible refine (Parse_calls HL2.out).mono ?_; rintro e w4 ⟨r1, rfl, hr, he⟩; have hk3 := Keep4.ext he hk2; have HW2 := Aside.mk (World.block_lt_of_cell? _ _ hk2.2.1.1); rw [HP1.out] at hr; rw [HE1.out]; have HR1 := Aside.mk hr; obtain ⟨A1, c1, rfl, _⟩ := hr.form; clear hk2 hr he) | (go_at_call 82; with_reducible refine (Parse_calls HL4.out).mono ?_; rintro e w5 ⟨r2, rfl, hr, he⟩; have hk4 := Keep4.ext he hk3; have HW4 := Aside.mk he; have HW3 := Aside.mk (World.block_lt_of_cell? _ _ hk3.2.1.1); rw [HP2.out] at hr; rw [HE2.out]; have HR2 := Aside.mk hr; obtain ⟨A2, c2, rfl, _⟩ := hr.form; clear hk3 hr he) | (go_at_call 49; with_reducible refine (israt_b (q := ⟨0, nb, xs1, xs2⟩) ?h HOK.out).mono ?_; (case h => exact RR.mk4 (HR1.out.rv.ext (HW4.out.trans ((Ext.refl _).alloc _))) (HR2.out.rv.ext ((Ext.refl _).alloc _))); rintro e w6 ⟨rfl, he⟩; have hk5 := Keep4.ext he (Keep4.ext ((Ext.refl w5).alloc (.cells #[.int .i64 0, .bool nb, .slice A1 xs1.length c1, .slice A2 xs2.length c2] 26)) hk4); have hb5 := KeepB.ext he (KeepB.init w5 (.int .i64 0) (.bool nb) (.slice A1 xs1.length c1) (.slice A2 xs2.length c2) 26); clear hk4 he))
                  have HK := Aside.mk hk5
                  have HB := Aside.mk hb5
                  refine bodyPost_ret (v := .tuple #[.agg #[.int .i64 0, .bool nb, .slice A1 xs1.length c1, .slice A2 xs2.length c2], .int .i64 0]) (by simp [results, Tryz.results29, go_sem, hk5]) rfl ⟨_, rfl, ⟨_, _, rfl, ?_, ?_⟩, ext_set4 HK.out.1.out (Nat.le_refl _) _ _ _ _⟩
                  · exact ((HR1.out.ext (HW4.out.trans HB.out.1.out)).set4 HW2.out _ _ _ _).mono (Nat.le_of_lt HW2.out)
                  · exact ((HR2.out.ext HB.out.1.out).set4 HW3.out _ _ _ _).mono (Nat.le_of_lt HW3.out)
            · have HE2 : Aside (perr s3.data.toList = _) := ⟨(congrArg perr (HLT.out rfl).symm).trans he2⟩
              have HP2 : Aside (pdig s3.data.toList = _) := ⟨(congrArg pdig (HLT.out rfl).symm).trans hq2⟩
              have HL4 := HL3
              have hs3 : (s3.toList == [49]) = false := by
                rw [Lib.toList_data, ← HLT.out rfl]; exact beq_eq_false_iff_ne.2 (fun h => h4 ⟨rfl, h⟩)
              clear he2 hq2 h4
              go_enter Tryz.func29, Tryz.ntmps29
              go_wp2_with (refine load_told rfl _ rfl rfl (HG.out.ext hk0.1.out) ?_)
              go_loopw [21] (fun i wr => ∃ (j : Nat), j ≤ 2 ∧ i = .int .i64 (j : Int) ∧ Keep4 w w.heap.size wr) (fun i _ => 2 - (intOf i).toNat)
              case atStart => exact ⟨0, by omega, rfl, hk0⟩
              case round =>
                obtain ⟨j, hj, rfl, hk1⟩ := hrel
                obtain rfl | rfl | rfl : j = 0 ∨ j = 1 ∨ j = 2 := by omega
                · have hk2 := Keep4.ext ((Ext.refl wr).alloc (.cells #[.string rangeB, .int .i64 4] 83)) hk1
                  clear hk0 hk1
                  go_wp2
                  go_roundw
                  case rel => exact ⟨1, by omega, rfl, hk2⟩
                  case measure => simp [intOf]
                · have hk2 := Keep4.ext ((Ext.refl wr).alloc (.cells #[.string zeroB, .int .i64 11] 83)) hk1
                  clear hk0 hk1
                  go_wp2
                  go_roundw
                  case rel => exact ⟨2, by omega, rfl, hk2⟩
                  case measure => simp [intOf]
                · clear hk0
                  go_wp2_with (first | (go_at_call 80; refine (Tryz.strings_CutPrefix s ⟨#[45]⟩ _).mono ?_; rintro e w2 ⟨rfl, hw⟩; rw [hw, HS1.out, HNB.out]; clear hw) | (go_at_call 81; refine (Tryz.strings_Cut s1 ⟨#[47]⟩ _ _ HL1.out (Classical.choose_spec (HG.out.ext hk1.1.out).c4)).mono ?_; rintro e w3 ⟨rfl, hw⟩; rw [HS2.out, HS3.out, HTW.out]; have hk2 := Keep4.ext (Ext.of_drewN hw) hk1; clear hk1 hw) | (go_at_call 82; with_reducible refine (Parse_calls HL2.out).mono ?_; rintro e w4 ⟨r1, rfl, hr, he⟩; have hk3 := Keep4.ext he hk2; have HW2 := Aside.mk (World.block_lt_of_cell? _ _ hk2.2.1.1); rw [HP1.out] at hr; rw [HE1.out]; have HR1 := Aside.mk hr; obtain ⟨A1, c1, rfl, _⟩ := hr.form; clear hk2 hr he) | (go_at_call 82; with_reducible refine (Parse_calls HL4.out).mono ?_; rintro e w5 ⟨r2, rfl, hr, he⟩; have hk4 := Keep4.ext he hk3; have HW4 := Aside.mk he; have HW3 := Aside.mk (World.block_lt_of_cell? _ _ hk3.2.1.1); rw [HP2.out] at hr; rw [HE2.out]; have HR2 := Aside.mk hr; obtain ⟨A2, c2, rfl, _⟩ := hr.form; clear hk3 hr he) | (go_at_call 49; with_reducible refine (israt_b (q := ⟨0, nb, xs1, xs2⟩) ?h HOK.out).mono ?_; (case h => exact RR.mk4 (HR1.out.rv.ext (HW4.out.trans ((Ext.refl _).alloc _))) (HR2.out.rv.ext ((Ext.refl _).alloc _))); rintro e w6 ⟨rfl, he⟩; have hk5 := Keep4.ext he (Keep4.ext ((Ext.refl w5).alloc (.cells #[.int .i64 0, .bool nb, .slice A1 xs1.length c1, .slice A2 xs2.length c2] 26)) hk4); have hb5 := KeepB.ext he (KeepB.init w5 (.int .i64 0) (.bool nb) (.slice A1 xs1.length c1) (.slice A2 xs2.length c2) 26); clear hk4 he))
                  have HK := Aside.mk hk5
                  have HB := Aside.mk hb5
                  refine bodyPost_ret (v := .tuple #[.agg #[.int .i64 0, .bool nb, .slice A1 xs1.length c1, .slice A2 xs2.length c2], .int .i64 0]) (by simp [results, Tryz.results29, go_sem, hk5]) rfl ⟨_, rfl, ⟨_, _, rfl, ?_, ?_⟩, ext_set4 HK.out.1.out (Nat.le_refl _) _ _ _ _⟩
                  · exact ((HR1.out.ext (HW4.out.trans HB.out.1.out)).set4 HW2.out _ _ _ _).mono (Nat.le_of_lt HW2.out)
                  · exact ((HR2.out.ext HB.out.1.out).set4 HW3.out _ _ _ _).mono (Nat.le_of_lt HW3.out)
    · have HM : Aside (m = (fq 0, 5)) := ⟨by rw [← hm]; unfold fparts; rw [if_pos (.inr (.inl (by rw [he2]; exact h2)))]⟩
      have h20 : ((e2 : Int) == 0) = false := beq_eq_false_iff_ne.2 (by omega)
      have h21 : ((e2 : Int) != 0) = true := by simp [bne, h20]
      rw [HM.out]
      clear hm he1 h2 hx1
      cases tw
      · have HE2 : Aside (perr (⟨#[49]⟩ : ByteArray).data.toList = _) := ⟨(congrArg perr (HLB.out rfl).symm).trans he2⟩
        have HP2 : Aside (pdig (⟨#[49]⟩ : ByteArray).data.toList = _) := ⟨(congrArg pdig (HLB.out rfl).symm).trans hq2⟩
        have HL4 : Aside ((⟨#[49]⟩ : ByteArray).size ≤ 1073741824) := ⟨by decide⟩
        clear he2 hq2
        go_enter Tryz.func29, Tryz.ntmps29
        go_wp2_with (refine load_told rfl _ rfl rfl (HG.out.ext hk0.1.out) ?_)
        go_loopw [21] (fun i wr => ∃ (j : Nat), j ≤ 2 ∧ i = .int .i64 (j : Int) ∧ Keep4 w w.heap.size wr) (fun i _ => 2 - (intOf i).toNat)
        case atStart => exact ⟨0, by omega, rfl, hk0⟩
        case round =>
          obtain ⟨j, hj, rfl, hk1⟩ := hrel
          obtain rfl | rfl | rfl : j = 0 ∨ j = 1 ∨ j = 2 := by omega
          · have hk2 := Keep4.ext ((Ext.refl wr).alloc (.cells #[.string rangeB, .int .i64 4] 83)) hk1
            clear hk0 hk1
            go_wp2
            go_roundw
            case rel => exact ⟨1, by omega, rfl, hk2⟩
            case measure => simp [intOf]
          · have hk2 := Keep4.ext ((Ext.refl wr).alloc (.cells #[.string zeroB, .int .i64 11] 83)) hk1
            clear hk0 hk1
            go_wp2
            go_roundw
            case rel => exact ⟨2, by omega, rfl, hk2⟩
            case measure => simp [intOf]
          · clear hk0
            go_wp2_with (first | (go_at_call 80; refine (Tryz.strings_CutPrefix s ⟨#[45]⟩ _).mono ?_; rintro e w2 ⟨rfl, hw⟩; rw [hw, HS1.out, HNB.out]; clear hw) | (go_at_call 81; refine (Tryz.strings_Cut s1 ⟨#[47]⟩ _ _ HL1.out (Classical.choose_spec (HG.out.ext hk1.1.out).c4)).mono ?_; rintro e w3 ⟨rfl, hw⟩; rw [HS2.out, HS3.out, HTW.out]; have hk2 := Keep4.ext (Ext.of_drewN hw) hk1; clear hk1 hw) | (go_at_call 82; with_reducible refine (Parse_calls HL2.out).mono ?_; rintro e w4 ⟨r1, rfl, hr, he⟩; have hk3 := Keep4.ext he hk2; have HW2 := Aside.mk (World.block_lt_of_cell? _ _ hk2.2.1.1); rw [HP1.out] at hr; rw [HE1.out]; have HR1 := Aside.mk hr; obtain ⟨A1, c1, rfl, _⟩ := hr.form; clear hk2 hr he) | (go_at_call 82; with_reducible refine (Parse_calls HL4.out).mono ?_; rintro e w5 ⟨r2, rfl, hr, he⟩; have hk4 := Keep4.ext he hk3; have HW4 := Aside.mk he; have HW3 := Aside.mk (World.block_lt_of_cell? _ _ hk3.2.1.1); rw [HP2.out] at hr; rw [HE2.out]; have HR2 := Aside.mk hr; obtain ⟨A2, c2, rfl, _⟩ := hr.form; clear hk3 hr he) | (go_at_call 49; with_reducible refine (israt_b (q := ⟨0, nb, xs1, xs2⟩) ?h HOK.out).mono ?_; (case h => exact RR.mk4 (HR1.out.rv.ext (HW4.out.trans ((Ext.refl _).alloc _))) (HR2.out.rv.ext ((Ext.refl _).alloc _))); rintro e w6 ⟨rfl, he⟩; have hk5 := Keep4.ext he (Keep4.ext ((Ext.refl w5).alloc (.cells #[.int .i64 0, .bool nb, .slice A1 xs1.length c1, .slice A2 xs2.length c2] 26)) hk4); have hb5 := KeepB.ext he (KeepB.init w5 (.int .i64 0) (.bool nb) (.slice A1 xs1.length c1) (.slice A2 xs2.length c2) 26); clear hk4 he))
            have HK := Aside.mk hk4
            refine bodyPost_ret (v := .tuple #[.agg #[.int .i64 0, .bool false, .slice none 0 0, .slice none 0 0], .int .i64 5]) (by simp [results, Tryz.results29, go_sem, hk4]) rfl ⟨_, rfl, RO.fq _ _ _, ext_set4 HK.out.1.out (Nat.le_refl _) _ _ _ _⟩
      · have HE2 : Aside (perr s3.data.toList = _) := ⟨(congrArg perr (HLT.out rfl).symm).trans he2⟩
        have HP2 : Aside (pdig s3.data.toList = _) := ⟨(congrArg pdig (HLT.out rfl).symm).trans hq2⟩
        have HL4 := HL3
        clear he2 hq2
        go_enter Tryz.func29, Tryz.ntmps29
        go_wp2_with (refine load_told rfl _ rfl rfl (HG.out.ext hk0.1.out) ?_)
        go_loopw [21] (fun i wr => ∃ (j : Nat), j ≤ 2 ∧ i = .int .i64 (j : Int) ∧ Keep4 w w.heap.size wr) (fun i _ => 2 - (intOf i).toNat)
        case atStart => exact ⟨0, by omega, rfl, hk0⟩
        case round =>
          obtain ⟨j, hj, rfl, hk1⟩ := hrel
          obtain rfl | rfl | rfl : j = 0 ∨ j = 1 ∨ j = 2 := by omega
          · have hk2 := Keep4.ext ((Ext.refl wr).alloc (.cells #[.string rangeB, .int .i64 4] 83)) hk1
            clear hk0 hk1
            go_wp2
            go_roundw
            case rel => exact ⟨1, by omega, rfl, hk2⟩
            case measure => simp [intOf]
          · have hk2 := Keep4.ext ((Ext.refl wr).alloc (.cells #[.string zeroB, .int .i64 11] 83)) hk1
            clear hk0 hk1
            go_wp2
            go_roundw
            case rel => exact ⟨2, by omega, rfl, hk2⟩
            case measure => simp [intOf]
          · clear hk0
            go_wp2_with (first | (go_at_call 80; refine (Tryz.strings_CutPrefix s ⟨#[45]⟩ _).mono ?_; rintro e w2 ⟨rfl, hw⟩; rw [hw, HS1.out, HNB.out]; clear hw) | (go_at_call 81; refine (Tryz.strings_Cut s1 ⟨#[47]⟩ _ _ HL1.out (Classical.choose_spec (HG.out.ext hk1.1.out).c4)).mono ?_; rintro e w3 ⟨rfl, hw⟩; rw [HS2.out, HS3.out, HTW.out]; have hk2 := Keep4.ext (Ext.of_drewN hw) hk1; clear hk1 hw) | (go_at_call 82; with_reducible refine (Parse_calls HL2.out).mono ?_; rintro e w4 ⟨r1, rfl, hr, he⟩; have hk3 := Keep4.ext he hk2; have HW2 := Aside.mk (World.block_lt_of_cell? _ _ hk2.2.1.1); rw [HP1.out] at hr; rw [HE1.out]; have HR1 := Aside.mk hr; obtain ⟨A1, c1, rfl, _⟩ := hr.form; clear hk2 hr he) | (go_at_call 82; with_reducible refine (Parse_calls HL4.out).mono ?_; rintro e w5 ⟨r2, rfl, hr, he⟩; have hk4 := Keep4.ext he hk3; have HW4 := Aside.mk he; have HW3 := Aside.mk (World.block_lt_of_cell? _ _ hk3.2.1.1); rw [HP2.out] at hr; rw [HE2.out]; have HR2 := Aside.mk hr; obtain ⟨A2, c2, rfl, _⟩ := hr.form; clear hk3 hr he) | (go_at_call 49; with_reducible refine (israt_b (q := ⟨0, nb, xs1, xs2⟩) ?h HOK.out).mono ?_; (case h => exact RR.mk4 (HR1.out.rv.ext (HW4.out.trans ((Ext.refl _).alloc _))) (HR2.out.rv.ext ((Ext.refl _).alloc _))); rintro e w6 ⟨rfl, he⟩; have hk5 := Keep4.ext he (Keep4.ext ((Ext.refl w5).alloc (.cells #[.int .i64 0, .bool nb, .slice A1 xs1.length c1, .slice A2 xs2.length c2] 26)) hk4); have hb5 := KeepB.ext he (KeepB.init w5 (.int .i64 0) (.bool nb) (.slice A1 xs1.length c1) (.slice A2 xs2.length c2) 26); clear hk4 he))
            have HK := Aside.mk hk4
            refine bodyPost_ret (v := .tuple #[.agg #[.int .i64 0, .bool false, .slice none 0 0, .slice none 0 0], .int .i64 5]) (by simp [results, Tryz.results29, go_sem, hk4]) rfl ⟨_, rfl, RO.fq _ _ _, ext_set4 HK.out.1.out (Nat.le_refl _) _ _ _ _⟩
  · have HM : Aside (m = (fq 0, 5)) := ⟨by rw [← hm]; unfold fparts; rw [if_pos (.inl (by rw [he1]; exact h1))]⟩
    have h10 : ((e1 : Int) == 0) = false := beq_eq_false_iff_ne.2 (by omega)
    have h11 : ((e1 : Int) != 0) = true := by simp [bne, h10]
    rw [HM.out]
    clear hm he1 h1 hx1
    cases tw
    · have HE2 : Aside (perr (⟨#[49]⟩ : ByteArray).data.toList = _) := ⟨(congrArg perr (HLB.out rfl).symm).trans he2⟩
      have HP2 : Aside (pdig (⟨#[49]⟩ : ByteArray).data.toList = _) := ⟨(congrArg pdig (HLB.out rfl).symm).trans hq2⟩
      have HL4 : Aside ((⟨#[49]⟩ : ByteArray).size ≤ 1073741824) := ⟨by decide⟩
      clear he2 hq2
      go_enter Tryz.func29, Tryz.ntmps29
      go_wp2_with (refine load_told rfl _ rfl rfl (HG.out.ext hk0.1.out) ?_)
      go_loopw [21] (fun i wr => ∃ (j : Nat), j ≤ 2 ∧ i = .int .i64 (j : Int) ∧ Keep4 w w.heap.size wr) (fun i _ => 2 - (intOf i).toNat)
      case atStart => exact ⟨0, by omega, rfl, hk0⟩
      case round =>
        obtain ⟨j, hj, rfl, hk1⟩ := hrel
        obtain rfl | rfl | rfl : j = 0 ∨ j = 1 ∨ j = 2 := by omega
        · have hk2 := Keep4.ext ((Ext.refl wr).alloc (.cells #[.string rangeB, .int .i64 4] 83)) hk1
          clear hk0 hk1
          go_wp2
          go_roundw
          case rel => exact ⟨1, by omega, rfl, hk2⟩
          case measure => simp [intOf]
        · have hk2 := Keep4.ext ((Ext.refl wr).alloc (.cells #[.string zeroB, .int .i64 11] 83)) hk1
          clear hk0 hk1
          go_wp2
          go_roundw
          case rel => exact ⟨2, by omega, rfl, hk2⟩
          case measure => simp [intOf]
        · clear hk0
          go_wp2_with (first | (go_at_call 80; refine (Tryz.strings_CutPrefix s ⟨#[45]⟩ _).mono ?_; rintro e w2 ⟨rfl, hw⟩; rw [hw, HS1.out, HNB.out]; clear hw) | (go_at_call 81; refine (Tryz.strings_Cut s1 ⟨#[47]⟩ _ _ HL1.out (Classical.choose_spec (HG.out.ext hk1.1.out).c4)).mono ?_; rintro e w3 ⟨rfl, hw⟩; rw [HS2.out, HS3.out, HTW.out]; have hk2 := Keep4.ext (Ext.of_drewN hw) hk1; clear hk1 hw) | (go_at_call 82; with_reducible refine (Parse_calls HL2.out).mono ?_; rintro e w4 ⟨r1, rfl, hr, he⟩; have hk3 := Keep4.ext he hk2; have HW2 := Aside.mk (World.block_lt_of_cell? _ _ hk2.2.1.1); rw [HP1.out] at hr; rw [HE1.out]; have HR1 := Aside.mk hr; obtain ⟨A1, c1, rfl, _⟩ := hr.form; clear hk2 hr he) | (go_at_call 82; with_reducible refine (Parse_calls HL4.out).mono ?_; rintro e w5 ⟨r2, rfl, hr, he⟩; have hk4 := Keep4.ext he hk3; have HW4 := Aside.mk he; have HW3 := Aside.mk (World.block_lt_of_cell? _ _ hk3.2.1.1); rw [HP2.out] at hr; rw [HE2.out]; have HR2 := Aside.mk hr; obtain ⟨A2, c2, rfl, _⟩ := hr.form; clear hk3 hr he) | (go_at_call 49; with_reducible refine (israt_b (q := ⟨0, nb, xs1, xs2⟩) ?h HOK.out).mono ?_; (case h => exact RR.mk4 (HR1.out.rv.ext (HW4.out.trans ((Ext.refl _).alloc _))) (HR2.out.rv.ext ((Ext.refl _).alloc _))); rintro e w6 ⟨rfl, he⟩; have hk5 := Keep4.ext he (Keep4.ext ((Ext.refl w5).alloc (.cells #[.int .i64 0, .bool nb, .slice A1 xs1.length c1, .slice A2 xs2.length c2] 26)) hk4); have hb5 := KeepB.ext he (KeepB.init w5 (.int .i64 0) (.bool nb) (.slice A1 xs1.length c1) (.slice A2 xs2.length c2) 26); clear hk4 he))
          have HK := Aside.mk hk4
          refine bodyPost_ret (v := .tuple #[.agg #[.int .i64 0, .bool false, .slice none 0 0, .slice none 0 0], .int .i64 5]) (by simp [results, Tryz.results29, go_sem, hk4]) rfl ⟨_, rfl, RO.fq _ _ _, ext_set4 HK.out.1.out (Nat.le_refl _) _ _ _ _⟩
    · have HE2 : Aside (perr s3.data.toList = _) := ⟨(congrArg perr (HLT.out rfl).symm).trans he2⟩
      have HP2 : Aside (pdig s3.data.toList = _) := ⟨(congrArg pdig (HLT.out rfl).symm).trans hq2⟩
      have HL4 := HL3
      clear he2 hq2
      go_enter Tryz.func29, Tryz.ntmps29
      go_wp2_with (refine load_told rfl _ rfl rfl (HG.out.ext hk0.1.out) ?_)
      go_loopw [21] (fun i wr => ∃ (j : Nat), j ≤ 2 ∧ i = .int .i64 (j : Int) ∧ Keep4 w w.heap.size wr) (fun i _ => 2 - (intOf i).toNat)
      case atStart => exact ⟨0, by omega, rfl, hk0⟩
      case round =>
        obtain ⟨j, hj, rfl, hk1⟩ := hrel
        obtain rfl | rfl | rfl : j = 0 ∨ j = 1 ∨ j = 2 := by omega
        · have hk2 := Keep4.ext ((Ext.refl wr).alloc (.cells #[.string rangeB, .int .i64 4] 83)) hk1
          clear hk0 hk1
          go_wp2
          go_roundw
          case rel => exact ⟨1, by omega, rfl, hk2⟩
          case measure => simp [intOf]
        · have hk2 := Keep4.ext ((Ext.refl wr).alloc (.cells #[.string zeroB, .int .i64 11] 83)) hk1
          clear hk0 hk1
          go_wp2
          go_roundw
          case rel => exact ⟨2, by omega, rfl, hk2⟩
          case measure => simp [intOf]
        · clear hk0
          go_wp2_with (first | (go_at_call 80; refine (Tryz.strings_CutPrefix s ⟨#[45]⟩ _).mono ?_; rintro e w2 ⟨rfl, hw⟩; rw [hw, HS1.out, HNB.out]; clear hw) | (go_at_call 81; refine (Tryz.strings_Cut s1 ⟨#[47]⟩ _ _ HL1.out (Classical.choose_spec (HG.out.ext hk1.1.out).c4)).mono ?_; rintro e w3 ⟨rfl, hw⟩; rw [HS2.out, HS3.out, HTW.out]; have hk2 := Keep4.ext (Ext.of_drewN hw) hk1; clear hk1 hw) | (go_at_call 82; with_reducible refine (Parse_calls HL2.out).mono ?_; rintro e w4 ⟨r1, rfl, hr, he⟩; have hk3 := Keep4.ext he hk2; have HW2 := Aside.mk (World.block_lt_of_cell? _ _ hk2.2.1.1); rw [HP1.out] at hr; rw [HE1.out]; have HR1 := Aside.mk hr; obtain ⟨A1, c1, rfl, _⟩ := hr.form; clear hk2 hr he) | (go_at_call 82; with_reducible refine (Parse_calls HL4.out).mono ?_; rintro e w5 ⟨r2, rfl, hr, he⟩; have hk4 := Keep4.ext he hk3; have HW4 := Aside.mk he; have HW3 := Aside.mk (World.block_lt_of_cell? _ _ hk3.2.1.1); rw [HP2.out] at hr; rw [HE2.out]; have HR2 := Aside.mk hr; obtain ⟨A2, c2, rfl, _⟩ := hr.form; clear hk3 hr he) | (go_at_call 49; with_reducible refine (israt_b (q := ⟨0, nb, xs1, xs2⟩) ?h HOK.out).mono ?_; (case h => exact RR.mk4 (HR1.out.rv.ext (HW4.out.trans ((Ext.refl _).alloc _))) (HR2.out.rv.ext ((Ext.refl _).alloc _))); rintro e w6 ⟨rfl, he⟩; have hk5 := Keep4.ext he (Keep4.ext ((Ext.refl w5).alloc (.cells #[.int .i64 0, .bool nb, .slice A1 xs1.length c1, .slice A2 xs2.length c2] 26)) hk4); have hb5 := KeepB.ext he (KeepB.init w5 (.int .i64 0) (.bool nb) (.slice A1 xs1.length c1) (.slice A2 xs2.length c2) 26); clear hk4 he))
          have HK := Aside.mk hk4
          refine bodyPost_ret (v := .tuple #[.agg #[.int .i64 0, .bool false, .slice none 0 0, .slice none 0 0], .int .i64 5]) (by simp [results, Tryz.results29, go_sem, hk4]) rfl ⟨_, rfl, RO.fq _ _ _, ext_set4 HK.out.1.out (Nat.le_refl _) _ _ _ _⟩

/-- Parse returns the Rat with a text. -/
theorem parse_calls {w : World} {s : ByteArray} (hg : Glob w) (hs : s.size ≤ 1073741824) {m : Rq × Int} (hm : fparse s.data.toList = m) :
    Calls Tryz.prog 29 #[.string s] w fun e w' => ∃ r, e = .returned (.tuple #[r, .int .i64 m.2]) ∧ RO w.heap.size w' r m.1 ∧ Ext w w' := by
  by_cases h49 : 4900 < s.size
  · exact parse_early hg hs hm (.inl h49)
  · by_cases hr : s.data.toList = rangeB.data.toList
    · exact parse_early hg hs hm (.inr (.inl hr))
    · by_cases hz : s.data.toList = zeroB.data.toList
      · exact parse_early hg hs hm (.inr (.inr hz))
      · exact parse_main hg hm h49 hr hz
end Go.Proofs.YtgfkachfbnbikaaGreatDoor

namespace Go.Proofs.YtgfkachfbnbikaaGreatDoor
open Go.RowKit

/-- Decimal digits, at least one. -/
def isDs (l : List UInt8) : Bool := !l.isEmpty && l.all isd
def digB : ByteArray := ⟨#[48, 49, 50, 51, 52, 53, 54, 55, 56, 57]⟩
set_option maxRecDepth 100000 in
theorem contains_isd (c : UInt8) : digB.data.toList.contains c = isd c := by
  have h : ∀ n : Fin 256, digB.data.toList.contains (UInt8.ofNat n.val) = isd (UInt8.ofNat n.val) := by decide
  have := h ⟨c.toNat, c.toNat_lt⟩
  simpa using this
theorem dropWhile_nil {p : UInt8 → Bool} {l : List UInt8} : l.dropWhile p = [] ↔ l.all p = true := by
  induction l with
  | nil => simp
  | cons x xs ih =>
    rw [List.dropWhile_cons]
    cases hp : p x
    · simp [hp]
    · simp [hp, ih]
theorem dropWhile_all {p : UInt8 → Bool} {l : List UInt8} : (l.dropWhile p).all p = l.all p := by
  induction l with
  | nil => simp
  | cons x xs ih =>
    rw [List.dropWhile_cons]
    cases hp : p x
    · simp [hp]
    · simp [hp, ih]
theorem trimS_nil (l : List UInt8) : (Lib.trimS l digB.data.toList = []) ↔ l.all isd = true := by
  have e : (fun c => digB.data.toList.contains c) = isd := funext contains_isd
  unfold Lib.trimS Lib.trimLeftS Lib.trimRightS
  rw [e, dropWhile_nil, List.all_reverse, dropWhile_all, List.all_reverse]

theorem h127 : (Tryz.prog.info? 126).map (fun i => (i.zero, i.size)) = some (some (.agg (Array.replicate 256 (.bool false))), 256) := by kernel_rfl
theorem digB_ascii : digB.data.toList.all (fun b => decide (b.toNat < 128)) = true := by decide
theorem digB_size : digB.size < 4294967281 := by rw [show digB.size = 10 from rfl]; omega
set_option maxRecDepth 100000 in
theorem trim_digits (s : ByteArray) (w : World) (hs : s.size ≤ 1073741824) :
    Calls Tryz.prog 132 #[.string s, .string digB] w fun e w' => e = .returned (.string ⟨(Lib.trimS s.data.toList digB.data.toList).toArray⟩) ∧ Below w.heap.size w w' :=
  Any.strings_Trim_laid Tryz.lays160 h127 s digB w (by omega) digB_size (ascii_of_all digB_ascii)

theorem digits_calls {w : World} {s : ByteArray} {b : Bool} (hs : s.size ≤ 1073741824) (hb : isDs s.data.toList = b) :
    Calls Tryz.prog 83 #[.string s] w fun e w' => e = .returned (.bool b) ∧ Ext w w' := by
  subst hb
  unfold isDs
  have HS := Aside.mk hs
  cases he : s.data.toList.isEmpty
  · have hemp : s.toList.isEmpty = false := by rw [Lib.toList_data]; exact he
    obtain ⟨t, ht⟩ : ∃ t : ByteArray, (⟨(Lib.trimS s.data.toList digB.data.toList).toArray⟩ : ByteArray) = t := ⟨_, rfl⟩
    have hte : t.toList.isEmpty = s.data.toList.all isd := by
      rw [Lib.toList_data, ← ht, mk_toList]
      cases ha : s.data.toList.all isd
      · cases hh : Lib.trimS s.data.toList digB.data.toList
        · rw [trimS_nil] at hh; rw [hh] at ha; cases ha
        · rfl
      · rw [(trimS_nil _).2 ha]; rfl
    have HT := Aside.mk ht
    generalize s.data.toList.all isd = d at *
    clear he hs ht
    go_enter Tryz.func83, Tryz.ntmps83
    go_wp2_with (go_at_call 132; refine (trim_digits s _ HS.out).mono ?_; rintro e w' ⟨rfl, he⟩; rw [HT.out]; have HE := Aside.mk he; clear he)
    go_ret
    exact ⟨by simp, HE.out⟩
  · have hemp : s.toList.isEmpty = true := by rw [Lib.toList_data]; exact he
    clear he hs
    go_enter Tryz.func83, Tryz.ntmps83
    go_wp2
    go_ret
    exact ⟨by simp, Ext.refl w⟩

theorem dval_cons_zero (l : List UInt8) : dval (48 :: l) = dval l := by simp [dval]
theorem dval_dropWhile (l : List UInt8) : dval (l.dropWhile (· == 48)) = dval l := by
  induction l with
  | nil => rfl
  | cons x xs ih =>
    rw [List.dropWhile_cons]
    split
    · rename_i h
      have : x = 48 := by simpa using h
      rw [ih, this, dval_cons_zero]
    · rfl
/-- A text of digits without zeros ahead: at least one digit. -/
def shown (l : List UInt8) : List UInt8 := if Lib.trimLeftB l 48 = [] then [48] else Lib.trimLeftB l 48
theorem dropWhile_sub (p : UInt8 → Bool) (l : List UInt8) : ∃ k, l.dropWhile p = l.drop k := by
  induction l with
  | nil => exact ⟨0, rfl⟩
  | cons x xs ih =>
    rw [List.dropWhile_cons]
    split
    · obtain ⟨k, hk⟩ := ih; exact ⟨k + 1, hk⟩
    · exact ⟨0, rfl⟩
theorem all_drop {l : List UInt8} (h : l.all isd = true) (k : Nat) : (l.drop k).all isd = true := by
  rw [List.all_eq_true] at h ⊢
  intro c hc; exact h c (List.mem_of_mem_drop hc)
theorem dropWhile_head {l t : List UInt8} {c : UInt8} (h : l.dropWhile (· == 48) = c :: t) : c ≠ 48 := by
  induction l with
  | nil => cases h
  | cons x xs ih =>
    rw [List.dropWhile_cons] at h
    split at h
    · exact ih h
    · rename_i hx
      injection h with h1 h2
      subst h1
      simpa using hx
theorem shown_ok {l : List UInt8} (h : l.all isd = true) (hl : l.length ≤ 4900) : perr (shown l) = 0 ∧ dval (shown l) = dval l := by
  unfold shown
  obtain ⟨k, hk⟩ := dropWhile_sub (· == 48) l
  split
  · rename_i h0
    have := dval_dropWhile l
    rw [show l.dropWhile (· == 48) = [] from h0] at this
    exact ⟨rfl, this⟩
  · rename_i h0
    have e : Lib.trimLeftB l 48 = l.dropWhile (· == 48) := rfl
    rw [e] at h0 ⊢
    refine ⟨?_, dval_dropWhile l⟩
    unfold perr
    rw [if_neg (by rw [hk, List.length_drop]; omega), if_neg, if_pos (by rw [hk]; exact all_drop h k)]
    rintro (h1 | ⟨h1, h2⟩)
    · exact h0 h1
    · cases hd : l.dropWhile (· == 48) with
      | nil => exact h0 hd
      | cons c t =>
        rw [hd] at h1
        exact dropWhile_head hd (by simpa using h1)
theorem dval_ones (n : Nat) : dval (49 :: List.replicate n 48) = 10 ^ n := by
  induction n with
  | zero => rfl
  | succ n ih =>
    rw [List.replicate_succ', ← List.cons_append, dval_snoc, ih, Nat.pow_succ]
    show 10 * 10 ^ n + (48 - 48) = _
    omega
theorem perr_ones {n : Nat} (h : n < 4900) : perr (49 :: List.replicate n 48) = 0 := by
  unfold perr
  rw [if_neg (by simp; omega), if_neg (by simp), if_pos]
  rw [List.all_eq_true]
  intro c hc
  rcases List.mem_cons.1 hc with rfl | hc
  · rfl
  · rw [(List.mem_replicate.1 hc).2]; rfl
theorem repeat_one (n : Nat) : Lib.repeatL [48] n = List.replicate n 48 := by
  induction n with
  | zero => rfl
  | succ n ih => rw [List.replicate_succ, ← ih]; rfl
/-- What Decimal makes of the digits ahead of the point and behind it. -/
def fdecParts (above below : List UInt8) : Rq × Int := if (ratio false (dval (above ++ below)) (10 ^ below.length)).f = 0 then (ratio false (dval (above ++ below)) (10 ^ below.length), 0) else (fq 0, 4)
/-- What Decimal returns. -/
def fdec (l : List UInt8) : Rq × Int :=
  if 4900 < l.length then (fq 0, 3)
  else if isDs (Lib.cut l [46]).1 && (!(Lib.cut l [46]).2.2 || isDs (Lib.cut l [46]).2.1) then fdecParts (Lib.cut l [46]).1 (Lib.trimRightB (Lib.cut l [46]).2.1 48)
  else (fq 0, 5)
theorem make_ok {w : World} {neg : Bool} {x y : Value} {a b : Nat} {q : Rq} (hx : NV w x a) (hy : NV w y b) (hq : ratio neg a b = q) :
    Calls Tryz.prog 20 #[.bool neg, x, y] w fun e w' => ∃ r, e = .returned (.tuple #[r, .int .i64 0]) ∧ RO w.heap.size w' r q ∧ Ext w w' := by
  subst hq
  refine (Make_calls hx.1 hy.1).mono ?_
  rintro e w' ⟨h, he⟩
  rw [if_pos ⟨natErr_dig0 hx.2, natErr_dig0 hy.2⟩, val_dig, val_dig] at h
  obtain ⟨r, h1, h2⟩ := h
  exact ⟨r, h1, h2, he⟩
end Go.Proofs.YtgfkachfbnbikaaGreatDoor

namespace Go.Proofs.YtgfkachfbnbikaaGreatDoor
open Go.RowKit

theorem mk_toList' (s : ByteArray) : (⟨s.data.toList.toArray⟩ : ByteArray) = s := Lib.mk_data s
theorem cut_sum (l sep : List UInt8) : (Lib.cut l sep).1.length + (Lib.cut l sep).2.1.length ≤ l.length ∧ ((Lib.cut l sep).2.2 = false → (Lib.cut l sep).2.1 = []) ∧ (l.all isd = true → True) := by
  unfold Lib.cut
  split
  · simp only [List.length_take, List.length_drop]; refine ⟨by omega, by simp, fun _ => trivial⟩
  · simp
theorem isDs_all {l : List UInt8} (h : isDs l = true) : l.all isd = true ∧ 0 < l.length := by
  unfold isDs at h
  simp only [Bool.and_eq_true, Bool.not_eq_true'] at h
  refine ⟨h.2, ?_⟩
  cases l with
  | nil => simp at h
  | cons => simp
theorem trimR_all {l : List UInt8} (h : l.all isd = true) : (Lib.trimRightB l 48).all isd = true ∧ (Lib.trimRightB l 48).length ≤ l.length := by
  unfold Lib.trimRightB
  obtain ⟨k, hk⟩ := dropWhile_sub (· == 48) l.reverse
  rw [hk]
  refine ⟨?_, by simp⟩
  rw [List.all_reverse]
  exact all_drop (by rw [List.all_reverse]; exact h) k

theorem append_toList (a b : ByteArray) : (a ++ b).data.toList = a.data.toList ++ b.data.toList := by rw [ByteArray.data_append]; simp
theorem append_sz (a b : ByteArray) : (a ++ b).size = a.size + b.size := ByteArray.size_append
theorem dec_any {n m k : Nat} (h : n ≤ 3 * m) (hk : 10 * m < 32 * k) : (dig (10 ^ n)).length ≤ k := by
  apply dig_length_le
  have h1 : (10 : Nat) ^ n ≤ 10 ^ (3 * m) := Nat.pow_le_pow_right (by decide) h
  have h2 : ((10 : Nat) ^ 3) ^ m ≤ (2 ^ 10) ^ m := Nat.pow_le_pow_left (by decide) m
  have h3 : (2 : Nat) ^ (10 * m) < 2 ^ (32 * k) := Nat.pow_lt_pow_right (by decide) hk
  rw [Nat.pow_mul] at h1
  rw [← Nat.pow_mul 2 10 m] at h2
  rw [show (4294967296 : Nat) = 2 ^ 32 from rfl, ← Nat.pow_mul]
  exact Nat.lt_of_le_of_lt (Nat.le_trans h1 h2) h3
theorem dec_len {n : Nat} (h : n ≤ 4900) : (dig (10 ^ n)).length ≤ 512 := dec_any (m := 1634) (by omega) (by decide)
theorem dval_512 {l : List UInt8} (h : l.all isd = true) (hl : l.length ≤ 4900) : (dig (dval l)).length ≤ 512 :=
  Nat.le_trans (dig_len_mono (Nat.le_of_lt (dval_lt h))) (dec_len hl)
set_option maxRecDepth 10000 in
set_option maxHeartbeats 4000000 in
theorem decimal_calls {w : World} {s : ByteArray} (hg : Glob w) (hs : s.size ≤ 1073741824) {m : Rq × Int} (hm : fdec s.data.toList = m) :
    Calls Tryz.prog 30 #[.string s] w fun e w' => ∃ r, e = .returned (.tuple #[r, .int .i64 m.2]) ∧ RO w.heap.size w' r m.1 ∧ Ext w w' := by
  have hsz : s.data.toList.length = s.size := (Lib.size_eq s).symm
  have HG := Aside.mk hg
  have hk0 := Keep4.init (Ext.refl w) (.int .i64 0) (.bool false) (.slice none 0 0) (.slice none 0 0) 26
  clear hg
  unfold fdec at hm
  by_cases h49 : 4900 < s.size
  · rw [if_pos (by omega)] at hm
    have HM : Aside (m = (fq 0, 3)) := ⟨hm.symm⟩
    rw [HM.out]
    have HK := Aside.mk hk0
    clear hsz hm hk0
    go_enter Tryz.func30, Tryz.ntmps30
    go_wp2
    refine bodyPost_ret (v := .tuple #[.agg #[.int .i64 0, .bool false, .slice none 0 0, .slice none 0 0], .int .i64 3]) (by simp [results, Tryz.results30, go_sem]) rfl ⟨_, rfl, RO.fq _ _ _, HK.out.1.out⟩
  · rw [if_neg (by omega)] at hm
    obtain ⟨s2, hs2⟩ : ∃ s2 : ByteArray, (⟨(Lib.cut s.data.toList (⟨#[46]⟩ : ByteArray).data.toList).1.toArray⟩ : ByteArray) = s2 := ⟨_, rfl⟩
    obtain ⟨s3, hs3⟩ : ∃ s3 : ByteArray, (⟨(Lib.cut s.data.toList (⟨#[46]⟩ : ByteArray).data.toList).2.1.toArray⟩ : ByteArray) = s3 := ⟨_, rfl⟩
    obtain ⟨tw, htw⟩ : ∃ tw, (Lib.cut s.data.toList (⟨#[46]⟩ : ByteArray).data.toList).2.2 = tw := ⟨_, rfl⟩
    have hs2l : (Lib.cut s.data.toList [46]).1 = s2.data.toList := by rw [← hs2]
    have hs3l : (Lib.cut s.data.toList [46]).2.1 = s3.data.toList := by rw [← hs3]
    have htwl : (Lib.cut s.data.toList [46]).2.2 = tw := htw
    have hcl := cut_sum s.data.toList [46]
    rw [hs2l, hs3l, htwl, ← Lib.size_eq, ← Lib.size_eq, ← Lib.size_eq] at hcl
    rw [hs2l, hs3l, htwl] at hm
    obtain ⟨d2, hd2⟩ : ∃ d, isDs s2.data.toList = d := ⟨_, rfl⟩
    obtain ⟨d3, hd3⟩ : ∃ d, isDs s3.data.toList = d := ⟨_, rfl⟩
    have HS2 := Aside.mk hs2
    have HS3 := Aside.mk hs3
    have HTW := Aside.mk htw
    have HD2 := Aside.mk hd2
    have HD3 := Aside.mk hd3
    have HL0 : Aside (s.size < 4294967281) := ⟨by omega⟩
    have HL2 : Aside (s2.size ≤ 1073741824) := ⟨by omega⟩
    have HL3 : Aside (s3.size ≤ 1073741824) := ⟨by omega⟩
    rw [hd2, hd3] at hm
    clear hs2 hs3 htw hs2l hs3l htwl hsz
    cases d2
    · have HM : Aside (m = (fq 0, 5)) := ⟨by rw [← hm]; rfl⟩
      rw [HM.out]
      clear hm hd2 hd3 hcl
      go_enter Tryz.func30, Tryz.ntmps30
      go_wp2_with (first | (go_at_call 81; refine (Tryz.strings_Cut s ⟨#[46]⟩ _ _ HL0.out (Classical.choose_spec (HG.out.ext hk0.1.out).c4)).mono ?_; rintro e w1 ⟨rfl, hw⟩; rw [HS2.out, HS3.out, HTW.out]; have hk1 := Keep4.ext (Ext.of_drewN hw) hk0; clear hk0 hw) | (go_at_call 83; with_reducible refine (digits_calls HL2.out HD2.out).mono ?_; rintro e w2 ⟨rfl, he⟩; have hk2 := Keep4.ext he hk1; clear hk1 he))
      have HK := Aside.mk hk2
      refine bodyPost_ret (v := .tuple #[.agg #[.int .i64 0, .bool false, .slice none 0 0, .slice none 0 0], .int .i64 5]) (by simp [results, Tryz.results30, go_sem, hk2]) rfl ⟨_, rfl, RO.fq _ _ _, ext_set4 HK.out.1.out (Nat.le_refl _) _ _ _ _⟩
    · cases tw
      · have hm : fdecParts s2.data.toList (Lib.trimRightB s3.data.toList 48) = m := hm
        have h3 : s3.data.toList.all isd = true := by rw [hcl.2.1 rfl]; rfl
        obtain ⟨s4, hs4⟩ : ∃ s4 : ByteArray, (⟨(Lib.trimRightB s3.data.toList 48).toArray⟩ : ByteArray) = s4 := ⟨_, rfl⟩
        have hs4l : Lib.trimRightB s3.data.toList 48 = s4.data.toList := by rw [← hs4]
        rw [hs4l] at hm
        obtain ⟨ha2, hl2⟩ := isDs_all hd2
        have ha4 := trimR_all h3
        rw [hs4l, ← Lib.size_eq, ← Lib.size_eq] at ha4
        rw [← Lib.size_eq] at hl2
        obtain ⟨ha4, hl4⟩ := ha4
        obtain ⟨s5, hs5⟩ : ∃ s5 : ByteArray, (⟨(Lib.trimLeftB (s2 ++ s4).data.toList 48).toArray⟩ : ByteArray) = s5 := ⟨_, rfl⟩
        have hs5l : Lib.trimLeftB (s2 ++ s4).data.toList 48 = s5.data.toList := by rw [← hs5]
        have hall : (s2.data.toList ++ s4.data.toList).all isd = true := by rw [List.all_append, ha2, ha4]; rfl
        obtain ⟨hp6, hv6⟩ := shown_ok hall (by rw [List.length_append, ← Lib.size_eq, ← Lib.size_eq]; omega)
        have hlen6 := dval_len hall
        rw [List.length_append, ← Lib.size_eq, ← Lib.size_eq] at hlen6
        obtain ⟨s7, hs7⟩ : ∃ s7 : ByteArray, (⟨(Lib.repeatL (⟨#[48]⟩ : ByteArray).data.toList s4.size).toArray⟩ : ByteArray) = s7 := ⟨_, rfl⟩
        have hs7l : s7.data.toList = List.replicate s4.size 48 := by rw [← hs7, mk_toList]; exact repeat_one _
        have hs7z : s7.size = s4.size := by rw [Lib.size_eq, hs7l]; simp
        have h8l : (⟨#[49]⟩ ++ s7 : ByteArray).data.toList = 49 :: List.replicate s4.size 48 := by rw [append_toList, hs7l]; rfl
        have HE8 : Aside (perr (⟨#[49]⟩ ++ s7 : ByteArray).data.toList = 0) := ⟨by rw [h8l]; exact perr_ones (by omega)⟩
        have HP8 : Aside (pdig (⟨#[49]⟩ ++ s7 : ByteArray).data.toList = dig (10 ^ s4.size)) := ⟨by rw [pdig_ok HE8.out, h8l, dval_ones]⟩
        have HL8 : Aside ((⟨#[49]⟩ ++ s7 : ByteArray).size ≤ 1073741824) := ⟨by rw [append_sz, hs7z, show (⟨#[49]⟩ : ByteArray).size = 1 from rfl]; omega⟩
        have hlen8 : (dig (10 ^ s4.size)).length ≤ 512 := dec_len (by omega)
        have hlen6' : (dig (dval (s2.data.toList ++ s4.data.toList))).length ≤ 512 := dval_512 hall (by rw [List.length_append, ← Lib.size_eq, ← Lib.size_eq]; omega)
        obtain ⟨N, hN⟩ : ∃ N, dval (s2.data.toList ++ s4.data.toList) = N := ⟨_, rfl⟩
        rw [hN] at hlen6' hv6
        obtain ⟨q, hq⟩ : ∃ q, ratio false (dval (s2.data.toList ++ s4.data.toList)) (10 ^ s4.data.toList.length) = q := ⟨_, rfl⟩
        have HQ : Aside (ratio false N (10 ^ s4.size) = q) := ⟨by rw [← hN, Lib.size_eq s4]; exact hq⟩
        have HN1 := Aside.mk hlen6'
        have HN2 := Aside.mk hlen8
        have HS4 := Aside.mk hs4
        have HS5 := Aside.mk hs5
        have HS7 := Aside.mk hs7
        have hsz4 : s4.size ≤ 4899 := by omega
        have hsz2 : s2.size ≤ 4900 := by omega
        have hmin : min (s4.size : Int) 4899 = (s4.size : Int) := by omega
        have HC1 : Aside (s4.size ≤ 9223372036854775807) := ⟨by omega⟩
        have HC2 : Aside ((⟨#[48]⟩ : ByteArray).size * s4.size ≤ 140737488355328) := ⟨by rw [show (⟨#[48]⟩ : ByteArray).size = 1 from rfl]; omega⟩
        have HL63 : Aside (s3.size ≤ 9223372036854775807) := ⟨by have := HL3.out; omega⟩
        have hsh : shown (s2.data.toList ++ s4.data.toList) = if s5.data.toList = [] then [48] else s5.data.toList := by unfold shown; rw [← append_toList, hs5l]
        clear hlen6 hlen6' hlen8 hs4 hs5 hs7 h8l hall ha2 ha4 hN hs4l hd2 hd3 h3 hcl hl4 hs7l
        cases hem : s5.data.toList.isEmpty
        · have hemp : s5.toList.isEmpty = false := by rw [Lib.toList_data]; exact hem
          have hne : s5.data.toList ≠ [] := by intro h; rw [h] at hem; cases hem
          rw [hsh, if_neg hne] at hp6 hv6
          have HE6 := Aside.mk hp6
          have HP6 : Aside (pdig s5.data.toList = dig N) := ⟨by rw [pdig_ok hp6, hv6]⟩
          have HL6 : Aside (s5.size ≤ 1073741824) := ⟨by
            have : perr s5.data.toList ≠ 3 := by rw [hp6]; decide
            rw [Lib.size_eq]
            rcases Nat.lt_or_ge 4900 s5.data.toList.length with h | h
            · exfalso; apply this; unfold perr; rw [if_pos h]
            · omega⟩
          clear hsh hne hp6 hv6 hem hs5l
          by_cases hqf : q.f = 0
          · have HM : Aside (m = (q, 0)) := ⟨by rw [← hm]; unfold fdecParts; rw [hq, if_pos hqf]⟩
            have hqf1 : (q.f == 0) = true := by rw [hqf]; rfl
            have hqf2 : (q.f != 0) = false := by rw [hqf]; rfl
            rw [HM.out]
            clear hm hqf hq
            go_enter Tryz.func30, Tryz.ntmps30
            go_wp2_with (first | (go_at_call 81; refine (Tryz.strings_Cut s ⟨#[46]⟩ _ _ HL0.out (Classical.choose_spec (HG.out.ext hk0.1.out).c4)).mono ?_; rintro e w1 ⟨rfl, hw⟩; rw [HS2.out, HS3.out, HTW.out]; have hk1 := Keep4.ext (Ext.of_drewN hw) hk0; clear hk0 hw) | (go_at_call 83; with_reducible refine (digits_calls HL2.out HD2.out).mono ?_; rintro e w2 ⟨rfl, he⟩; have hk2 := Keep4.ext he hk1; clear hk1 he) | (go_at_call 83; with_reducible refine (digits_calls HL3.out HD3.out).mono ?_; rintro e w3 ⟨rfl, he⟩; have hk3 := Keep4.ext he hk2; clear hk2 he) | (go_at_call 84; refine (Tryz.strings_TrimRight_one s3 48 (by decide) _ HL63.out).mono ?_; rintro e w' ⟨rfl, hw⟩; rw [hw, HS4.out]; clear hw) | (go_at_call 85; refine (Tryz.strings_TrimLeft_one (s2 ++ s4) 48 (by decide) _).mono ?_; rintro e w' ⟨rfl, hw⟩; rw [hw, HS5.out]; clear hw) | (go_at_call 82; with_reducible refine (Parse_calls HL6.out).mono ?_; rintro e w4 ⟨r1, rfl, hr, he⟩; have hk4 := Keep4.ext he hk2; rw [HP6.out] at hr; rw [HE6.out]; have HR1 := Aside.mk hr; obtain ⟨A1, c1, rfl, _⟩ := hr.form; clear hk2 hr he) | (go_at_call 86; refine natural_calls.mono ?_; rintro e w' ⟨rfl, rfl⟩) | (go_at_call 87; refine (Tryz.strings_Repeat ⟨#[48]⟩ s4.size _ HC1.out HC2.out).mono ?_; rintro e w5 ⟨rfl, he⟩; rw [HS7.out]; have hk5 := Keep4.ext he hk4; have HX5 := Aside.mk (show Ext _ _ from he); clear hk4 he) | (go_at_call 82; with_reducible refine (Parse_calls HL8.out).mono ?_; rintro e w6 ⟨r2, rfl, hr, he⟩; have hk6 := Keep4.ext he hk5; have HX6 := Aside.mk he; rw [HP8.out] at hr; rw [HE8.out]; have HR2 := Aside.mk hr; obtain ⟨A2, c2, rfl, _⟩ := hr.form; clear hk5 hr he) | (go_at_call 20; with_reducible refine (make_ok (NV.of (HR1.out.rv.ext (HX5.out.trans HX6.out)) HN1.out) (NV.of HR2.out.rv HN2.out) HQ.out).mono ?_; rintro e w7 ⟨r, rfl, hr, he⟩; have HZ := Aside.mk (World.block_lt_of_cell? _ _ hk6.2.1.1); have HR7 := Aside.mk hr; obtain ⟨A7, c7, B7, d7, rfl⟩ := hr.form; have hk7 := Keep4.ext ((Ext.refl w7).alloc (.cells #[.int .i64 q.f, .bool q.neg, .slice A7 q.num.length c7, .slice B7 q.den.length d7] 26)) (Keep4.ext he hk6); clear hk6 hr he))
            have HK := Aside.mk hk7
            refine bodyPost_ret (v := .tuple #[.agg #[.int .i64 q.f, .bool q.neg, .slice A7 q.num.length c7, .slice B7 q.den.length d7], .int .i64 0]) (by simp [results, Tryz.results30, go_sem, hk7]) rfl ⟨_, rfl, ((HR7.out.ext ((Ext.refl w7).alloc _)).set4 HZ.out _ _ _ _).mono (Nat.le_of_lt HZ.out), ext_set4 HK.out.1.out (Nat.le_refl _) _ _ _ _⟩
          · have HM : Aside (m = (fq 0, 4)) := ⟨by rw [← hm]; unfold fdecParts; rw [hq, if_neg hqf]⟩
            have hqf1 : (q.f == 0) = false := beq_eq_false_iff_ne.2 hqf
            have hqf2 : (q.f != 0) = true := by simp [bne, hqf1]
            rw [HM.out]
            clear hm hqf hq
            go_enter Tryz.func30, Tryz.ntmps30
            go_wp2_with (first | (go_at_call 81; refine (Tryz.strings_Cut s ⟨#[46]⟩ _ _ HL0.out (Classical.choose_spec (HG.out.ext hk0.1.out).c4)).mono ?_; rintro e w1 ⟨rfl, hw⟩; rw [HS2.out, HS3.out, HTW.out]; have hk1 := Keep4.ext (Ext.of_drewN hw) hk0; clear hk0 hw) | (go_at_call 83; with_reducible refine (digits_calls HL2.out HD2.out).mono ?_; rintro e w2 ⟨rfl, he⟩; have hk2 := Keep4.ext he hk1; clear hk1 he) | (go_at_call 83; with_reducible refine (digits_calls HL3.out HD3.out).mono ?_; rintro e w3 ⟨rfl, he⟩; have hk3 := Keep4.ext he hk2; clear hk2 he) | (go_at_call 84; refine (Tryz.strings_TrimRight_one s3 48 (by decide) _ HL63.out).mono ?_; rintro e w' ⟨rfl, hw⟩; rw [hw, HS4.out]; clear hw) | (go_at_call 85; refine (Tryz.strings_TrimLeft_one (s2 ++ s4) 48 (by decide) _).mono ?_; rintro e w' ⟨rfl, hw⟩; rw [hw, HS5.out]; clear hw) | (go_at_call 82; with_reducible refine (Parse_calls HL6.out).mono ?_; rintro e w4 ⟨r1, rfl, hr, he⟩; have hk4 := Keep4.ext he hk2; rw [HP6.out] at hr; rw [HE6.out]; have HR1 := Aside.mk hr; obtain ⟨A1, c1, rfl, _⟩ := hr.form; clear hk2 hr he) | (go_at_call 86; refine natural_calls.mono ?_; rintro e w' ⟨rfl, rfl⟩) | (go_at_call 87; refine (Tryz.strings_Repeat ⟨#[48]⟩ s4.size _ HC1.out HC2.out).mono ?_; rintro e w5 ⟨rfl, he⟩; rw [HS7.out]; have hk5 := Keep4.ext he hk4; have HX5 := Aside.mk (show Ext _ _ from he); clear hk4 he) | (go_at_call 82; with_reducible refine (Parse_calls HL8.out).mono ?_; rintro e w6 ⟨r2, rfl, hr, he⟩; have hk6 := Keep4.ext he hk5; have HX6 := Aside.mk he; rw [HP8.out] at hr; rw [HE8.out]; have HR2 := Aside.mk hr; obtain ⟨A2, c2, rfl, _⟩ := hr.form; clear hk5 hr he) | (go_at_call 20; with_reducible refine (make_ok (NV.of (HR1.out.rv.ext (HX5.out.trans HX6.out)) HN1.out) (NV.of HR2.out.rv HN2.out) HQ.out).mono ?_; rintro e w7 ⟨r, rfl, hr, he⟩; have HZ := Aside.mk (World.block_lt_of_cell? _ _ hk6.2.1.1); have HR7 := Aside.mk hr; obtain ⟨A7, c7, B7, d7, rfl⟩ := hr.form; have hk7 := Keep4.ext ((Ext.refl w7).alloc (.cells #[.int .i64 q.f, .bool q.neg, .slice A7 q.num.length c7, .slice B7 q.den.length d7] 26)) (Keep4.ext he hk6); clear hk6 hr he))
            have HK := Aside.mk hk7
            refine bodyPost_ret (v := .tuple #[.agg #[.int .i64 0, .bool false, .slice none 0 0, .slice none 0 0], .int .i64 4]) (by simp [results, Tryz.results30, go_sem, hk7]) rfl ⟨_, rfl, RO.fq _ _ _, ext_set4 HK.out.1.out (Nat.le_refl _) _ _ _ _⟩
        · have hemp : s5.toList.isEmpty = true := by rw [Lib.toList_data]; exact hem
          have hne : s5.data.toList = [] := List.isEmpty_iff.1 hem
          rw [hsh, if_pos hne] at hp6 hv6
          have HE6 : Aside (perr (⟨#[48]⟩ : ByteArray).data.toList = 0) := ⟨hp6⟩
          have HP6 : Aside (pdig (⟨#[48]⟩ : ByteArray).data.toList = dig N) := ⟨(pdig_ok hp6).trans (by rw [hv6])⟩
          have HL6 : Aside ((⟨#[48]⟩ : ByteArray).size ≤ 1073741824) := ⟨by decide⟩
          clear hsh hne hp6 hv6 hem hs5l
          by_cases hqf : q.f = 0
          · have HM : Aside (m = (q, 0)) := ⟨by rw [← hm]; unfold fdecParts; rw [hq, if_pos hqf]⟩
            have hqf1 : (q.f == 0) = true := by rw [hqf]; rfl
            have hqf2 : (q.f != 0) = false := by rw [hqf]; rfl
            rw [HM.out]
            clear hm hqf hq
            go_enter Tryz.func30, Tryz.ntmps30
            go_wp2_with (first | (go_at_call 81; refine (Tryz.strings_Cut s ⟨#[46]⟩ _ _ HL0.out (Classical.choose_spec (HG.out.ext hk0.1.out).c4)).mono ?_; rintro e w1 ⟨rfl, hw⟩; rw [HS2.out, HS3.out, HTW.out]; have hk1 := Keep4.ext (Ext.of_drewN hw) hk0; clear hk0 hw) | (go_at_call 83; with_reducible refine (digits_calls HL2.out HD2.out).mono ?_; rintro e w2 ⟨rfl, he⟩; have hk2 := Keep4.ext he hk1; clear hk1 he) | (go_at_call 83; with_reducible refine (digits_calls HL3.out HD3.out).mono ?_; rintro e w3 ⟨rfl, he⟩; have hk3 := Keep4.ext he hk2; clear hk2 he) | (go_at_call 84; refine (Tryz.strings_TrimRight_one s3 48 (by decide) _ HL63.out).mono ?_; rintro e w' ⟨rfl, hw⟩; rw [hw, HS4.out]; clear hw) | (go_at_call 85; refine (Tryz.strings_TrimLeft_one (s2 ++ s4) 48 (by decide) _).mono ?_; rintro e w' ⟨rfl, hw⟩; rw [hw, HS5.out]; clear hw) | (go_at_call 82; with_reducible refine (Parse_calls HL6.out).mono ?_; rintro e w4 ⟨r1, rfl, hr, he⟩; have hk4 := Keep4.ext he hk2; rw [HP6.out] at hr; rw [HE6.out]; have HR1 := Aside.mk hr; obtain ⟨A1, c1, rfl, _⟩ := hr.form; clear hk2 hr he) | (go_at_call 86; refine natural_calls.mono ?_; rintro e w' ⟨rfl, rfl⟩) | (go_at_call 87; refine (Tryz.strings_Repeat ⟨#[48]⟩ s4.size _ HC1.out HC2.out).mono ?_; rintro e w5 ⟨rfl, he⟩; rw [HS7.out]; have hk5 := Keep4.ext he hk4; have HX5 := Aside.mk (show Ext _ _ from he); clear hk4 he) | (go_at_call 82; with_reducible refine (Parse_calls HL8.out).mono ?_; rintro e w6 ⟨r2, rfl, hr, he⟩; have hk6 := Keep4.ext he hk5; have HX6 := Aside.mk he; rw [HP8.out] at hr; rw [HE8.out]; have HR2 := Aside.mk hr; obtain ⟨A2, c2, rfl, _⟩ := hr.form; clear hk5 hr he) | (go_at_call 20; with_reducible refine (make_ok (NV.of (HR1.out.rv.ext (HX5.out.trans HX6.out)) HN1.out) (NV.of HR2.out.rv HN2.out) HQ.out).mono ?_; rintro e w7 ⟨r, rfl, hr, he⟩; have HZ := Aside.mk (World.block_lt_of_cell? _ _ hk6.2.1.1); have HR7 := Aside.mk hr; obtain ⟨A7, c7, B7, d7, rfl⟩ := hr.form; have hk7 := Keep4.ext ((Ext.refl w7).alloc (.cells #[.int .i64 q.f, .bool q.neg, .slice A7 q.num.length c7, .slice B7 q.den.length d7] 26)) (Keep4.ext he hk6); clear hk6 hr he))
            have HK := Aside.mk hk7
            refine bodyPost_ret (v := .tuple #[.agg #[.int .i64 q.f, .bool q.neg, .slice A7 q.num.length c7, .slice B7 q.den.length d7], .int .i64 0]) (by simp [results, Tryz.results30, go_sem, hk7]) rfl ⟨_, rfl, ((HR7.out.ext ((Ext.refl w7).alloc _)).set4 HZ.out _ _ _ _).mono (Nat.le_of_lt HZ.out), ext_set4 HK.out.1.out (Nat.le_refl _) _ _ _ _⟩
          · have HM : Aside (m = (fq 0, 4)) := ⟨by rw [← hm]; unfold fdecParts; rw [hq, if_neg hqf]⟩
            have hqf1 : (q.f == 0) = false := beq_eq_false_iff_ne.2 hqf
            have hqf2 : (q.f != 0) = true := by simp [bne, hqf1]
            rw [HM.out]
            clear hm hqf hq
            go_enter Tryz.func30, Tryz.ntmps30
            go_wp2_with (first | (go_at_call 81; refine (Tryz.strings_Cut s ⟨#[46]⟩ _ _ HL0.out (Classical.choose_spec (HG.out.ext hk0.1.out).c4)).mono ?_; rintro e w1 ⟨rfl, hw⟩; rw [HS2.out, HS3.out, HTW.out]; have hk1 := Keep4.ext (Ext.of_drewN hw) hk0; clear hk0 hw) | (go_at_call 83; with_reducible refine (digits_calls HL2.out HD2.out).mono ?_; rintro e w2 ⟨rfl, he⟩; have hk2 := Keep4.ext he hk1; clear hk1 he) | (go_at_call 83; with_reducible refine (digits_calls HL3.out HD3.out).mono ?_; rintro e w3 ⟨rfl, he⟩; have hk3 := Keep4.ext he hk2; clear hk2 he) | (go_at_call 84; refine (Tryz.strings_TrimRight_one s3 48 (by decide) _ HL63.out).mono ?_; rintro e w' ⟨rfl, hw⟩; rw [hw, HS4.out]; clear hw) | (go_at_call 85; refine (Tryz.strings_TrimLeft_one (s2 ++ s4) 48 (by decide) _).mono ?_; rintro e w' ⟨rfl, hw⟩; rw [hw, HS5.out]; clear hw) | (go_at_call 82; with_reducible refine (Parse_calls HL6.out).mono ?_; rintro e w4 ⟨r1, rfl, hr, he⟩; have hk4 := Keep4.ext he hk2; rw [HP6.out] at hr; rw [HE6.out]; have HR1 := Aside.mk hr; obtain ⟨A1, c1, rfl, _⟩ := hr.form; clear hk2 hr he) | (go_at_call 86; refine natural_calls.mono ?_; rintro e w' ⟨rfl, rfl⟩) | (go_at_call 87; refine (Tryz.strings_Repeat ⟨#[48]⟩ s4.size _ HC1.out HC2.out).mono ?_; rintro e w5 ⟨rfl, he⟩; rw [HS7.out]; have hk5 := Keep4.ext he hk4; have HX5 := Aside.mk (show Ext _ _ from he); clear hk4 he) | (go_at_call 82; with_reducible refine (Parse_calls HL8.out).mono ?_; rintro e w6 ⟨r2, rfl, hr, he⟩; have hk6 := Keep4.ext he hk5; have HX6 := Aside.mk he; rw [HP8.out] at hr; rw [HE8.out]; have HR2 := Aside.mk hr; obtain ⟨A2, c2, rfl, _⟩ := hr.form; clear hk5 hr he) | (go_at_call 20; with_reducible refine (make_ok (NV.of (HR1.out.rv.ext (HX5.out.trans HX6.out)) HN1.out) (NV.of HR2.out.rv HN2.out) HQ.out).mono ?_; rintro e w7 ⟨r, rfl, hr, he⟩; have HZ := Aside.mk (World.block_lt_of_cell? _ _ hk6.2.1.1); have HR7 := Aside.mk hr; obtain ⟨A7, c7, B7, d7, rfl⟩ := hr.form; have hk7 := Keep4.ext ((Ext.refl w7).alloc (.cells #[.int .i64 q.f, .bool q.neg, .slice A7 q.num.length c7, .slice B7 q.den.length d7] 26)) (Keep4.ext he hk6); clear hk6 hr he))
            have HK := Aside.mk hk7
            refine bodyPost_ret (v := .tuple #[.agg #[.int .i64 0, .bool false, .slice none 0 0, .slice none 0 0], .int .i64 4]) (by simp [results, Tryz.results30, go_sem, hk7]) rfl ⟨_, rfl, RO.fq _ _ _, ext_set4 HK.out.1.out (Nat.le_refl _) _ _ _ _⟩
      · cases d3
        · have HM : Aside (m = (fq 0, 5)) := ⟨by rw [← hm]; rfl⟩
          rw [HM.out]
          clear hm hd2 hd3 hcl
          go_enter Tryz.func30, Tryz.ntmps30
          go_wp2_with (first | (go_at_call 81; refine (Tryz.strings_Cut s ⟨#[46]⟩ _ _ HL0.out (Classical.choose_spec (HG.out.ext hk0.1.out).c4)).mono ?_; rintro e w1 ⟨rfl, hw⟩; rw [HS2.out, HS3.out, HTW.out]; have hk1 := Keep4.ext (Ext.of_drewN hw) hk0; clear hk0 hw) | (go_at_call 83; with_reducible refine (digits_calls HL2.out HD2.out).mono ?_; rintro e w2 ⟨rfl, he⟩; have hk2 := Keep4.ext he hk1; clear hk1 he) | (go_at_call 83; with_reducible refine (digits_calls HL3.out HD3.out).mono ?_; rintro e w3 ⟨rfl, he⟩; have hk3 := Keep4.ext he hk2; clear hk2 he))
          have HK := Aside.mk hk3
          refine bodyPost_ret (v := .tuple #[.agg #[.int .i64 0, .bool false, .slice none 0 0, .slice none 0 0], .int .i64 5]) (by simp [results, Tryz.results30, go_sem, hk3]) rfl ⟨_, rfl, RO.fq _ _ _, ext_set4 HK.out.1.out (Nat.le_refl _) _ _ _ _⟩
        · have hm : fdecParts s2.data.toList (Lib.trimRightB s3.data.toList 48) = m := hm
          have h3 : s3.data.toList.all isd = true := (isDs_all hd3).1
          obtain ⟨s4, hs4⟩ : ∃ s4 : ByteArray, (⟨(Lib.trimRightB s3.data.toList 48).toArray⟩ : ByteArray) = s4 := ⟨_, rfl⟩
          have hs4l : Lib.trimRightB s3.data.toList 48 = s4.data.toList := by rw [← hs4]
          rw [hs4l] at hm
          obtain ⟨ha2, hl2⟩ := isDs_all hd2
          have ha4 := trimR_all h3
          rw [hs4l, ← Lib.size_eq, ← Lib.size_eq] at ha4
          rw [← Lib.size_eq] at hl2
          obtain ⟨ha4, hl4⟩ := ha4
          obtain ⟨s5, hs5⟩ : ∃ s5 : ByteArray, (⟨(Lib.trimLeftB (s2 ++ s4).data.toList 48).toArray⟩ : ByteArray) = s5 := ⟨_, rfl⟩
          have hs5l : Lib.trimLeftB (s2 ++ s4).data.toList 48 = s5.data.toList := by rw [← hs5]
          have hall : (s2.data.toList ++ s4.data.toList).all isd = true := by rw [List.all_append, ha2, ha4]; rfl
          obtain ⟨hp6, hv6⟩ := shown_ok hall (by rw [List.length_append, ← Lib.size_eq, ← Lib.size_eq]; omega)
          have hlen6 := dval_len hall
          rw [List.length_append, ← Lib.size_eq, ← Lib.size_eq] at hlen6
          obtain ⟨s7, hs7⟩ : ∃ s7 : ByteArray, (⟨(Lib.repeatL (⟨#[48]⟩ : ByteArray).data.toList s4.size).toArray⟩ : ByteArray) = s7 := ⟨_, rfl⟩
          have hs7l : s7.data.toList = List.replicate s4.size 48 := by rw [← hs7, mk_toList]; exact repeat_one _
          have hs7z : s7.size = s4.size := by rw [Lib.size_eq, hs7l]; simp
          have h8l : (⟨#[49]⟩ ++ s7 : ByteArray).data.toList = 49 :: List.replicate s4.size 48 := by rw [append_toList, hs7l]; rfl
          have HE8 : Aside (perr (⟨#[49]⟩ ++ s7 : ByteArray).data.toList = 0) := ⟨by rw [h8l]; exact perr_ones (by omega)⟩
          have HP8 : Aside (pdig (⟨#[49]⟩ ++ s7 : ByteArray).data.toList = dig (10 ^ s4.size)) := ⟨by rw [pdig_ok HE8.out, h8l, dval_ones]⟩
          have HL8 : Aside ((⟨#[49]⟩ ++ s7 : ByteArray).size ≤ 1073741824) := ⟨by rw [append_sz, hs7z, show (⟨#[49]⟩ : ByteArray).size = 1 from rfl]; omega⟩
          have hlen8 : (dig (10 ^ s4.size)).length ≤ 512 := dec_len (by omega)
          have hlen6' : (dig (dval (s2.data.toList ++ s4.data.toList))).length ≤ 512 := dval_512 hall (by rw [List.length_append, ← Lib.size_eq, ← Lib.size_eq]; omega)
          obtain ⟨N, hN⟩ : ∃ N, dval (s2.data.toList ++ s4.data.toList) = N := ⟨_, rfl⟩
          rw [hN] at hlen6' hv6
          obtain ⟨q, hq⟩ : ∃ q, ratio false (dval (s2.data.toList ++ s4.data.toList)) (10 ^ s4.data.toList.length) = q := ⟨_, rfl⟩
          have HQ : Aside (ratio false N (10 ^ s4.size) = q) := ⟨by rw [← hN, Lib.size_eq s4]; exact hq⟩
          have HN1 := Aside.mk hlen6'
          have HN2 := Aside.mk hlen8
          have HS4 := Aside.mk hs4
          have HS5 := Aside.mk hs5
          have HS7 := Aside.mk hs7
          have hsz4 : s4.size ≤ 4899 := by omega
          have hsz2 : s2.size ≤ 4900 := by omega
          have hmin : min (s4.size : Int) 4899 = (s4.size : Int) := by omega
          have HC1 : Aside (s4.size ≤ 9223372036854775807) := ⟨by omega⟩
          have HC2 : Aside ((⟨#[48]⟩ : ByteArray).size * s4.size ≤ 140737488355328) := ⟨by rw [show (⟨#[48]⟩ : ByteArray).size = 1 from rfl]; omega⟩
          have HL63 : Aside (s3.size ≤ 9223372036854775807) := ⟨by have := HL3.out; omega⟩
          have hsh : shown (s2.data.toList ++ s4.data.toList) = if s5.data.toList = [] then [48] else s5.data.toList := by unfold shown; rw [← append_toList, hs5l]
          clear hlen6 hlen6' hlen8 hs4 hs5 hs7 h8l hall ha2 ha4 hN hs4l hd2 hd3 h3 hcl hl4 hs7l
          cases hem : s5.data.toList.isEmpty
          · have hemp : s5.toList.isEmpty = false := by rw [Lib.toList_data]; exact hem
            have hne : s5.data.toList ≠ [] := by intro h; rw [h] at hem; cases hem
            rw [hsh, if_neg hne] at hp6 hv6
            have HE6 := Aside.mk hp6
            have HP6 : Aside (pdig s5.data.toList = dig N) := ⟨by rw [pdig_ok hp6, hv6]⟩
            have HL6 : Aside (s5.size ≤ 1073741824) := ⟨by
              have : perr s5.data.toList ≠ 3 := by rw [hp6]; decide
              rw [Lib.size_eq]
              rcases Nat.lt_or_ge 4900 s5.data.toList.length with h | h
              · exfalso; apply this; unfold perr; rw [if_pos h]
              · omega⟩
            clear hsh hne hp6 hv6 hem hs5l
            by_cases hqf : q.f = 0
            · have HM : Aside (m = (q, 0)) := ⟨by rw [← hm]; unfold fdecParts; rw [hq, if_pos hqf]⟩
              have hqf1 : (q.f == 0) = true := by rw [hqf]; rfl
              have hqf2 : (q.f != 0) = false := by rw [hqf]; rfl
              rw [HM.out]
              clear hm hqf hq
              go_enter Tryz.func30, Tryz.ntmps30
              go_wp2_with (first | (go_at_call 81; refine (Tryz.strings_Cut s ⟨#[46]⟩ _ _ HL0.out (Classical.choose_spec (HG.out.ext hk0.1.out).c4)).mono ?_; rintro e w1 ⟨rfl, hw⟩; rw [HS2.out, HS3.out, HTW.out]; have hk1 := Keep4.ext (Ext.of_drewN hw) hk0; clear hk0 hw) | (go_at_call 83; with_reducible refine (digits_calls HL2.out HD2.out).mono ?_; rintro e w2 ⟨rfl, he⟩; have hk2 := Keep4.ext he hk1; clear hk1 he) | (go_at_call 83; with_reducible refine (digits_calls HL3.out HD3.out).mono ?_; rintro e w3 ⟨rfl, he⟩; have hk3 := Keep4.ext he hk2; clear hk2 he) | (go_at_call 84; refine (Tryz.strings_TrimRight_one s3 48 (by decide) _ HL63.out).mono ?_; rintro e w' ⟨rfl, hw⟩; rw [hw, HS4.out]; clear hw) | (go_at_call 85; refine (Tryz.strings_TrimLeft_one (s2 ++ s4) 48 (by decide) _).mono ?_; rintro e w' ⟨rfl, hw⟩; rw [hw, HS5.out]; clear hw) | (go_at_call 82; with_reducible refine (Parse_calls HL6.out).mono ?_; rintro e w4 ⟨r1, rfl, hr, he⟩; have hk4 := Keep4.ext he hk3; rw [HP6.out] at hr; rw [HE6.out]; have HR1 := Aside.mk hr; obtain ⟨A1, c1, rfl, _⟩ := hr.form; clear hk3 hr he) | (go_at_call 86; refine natural_calls.mono ?_; rintro e w' ⟨rfl, rfl⟩) | (go_at_call 87; refine (Tryz.strings_Repeat ⟨#[48]⟩ s4.size _ HC1.out HC2.out).mono ?_; rintro e w5 ⟨rfl, he⟩; rw [HS7.out]; have hk5 := Keep4.ext he hk4; have HX5 := Aside.mk (show Ext _ _ from he); clear hk4 he) | (go_at_call 82; with_reducible refine (Parse_calls HL8.out).mono ?_; rintro e w6 ⟨r2, rfl, hr, he⟩; have hk6 := Keep4.ext he hk5; have HX6 := Aside.mk he; rw [HP8.out] at hr; rw [HE8.out]; have HR2 := Aside.mk hr; obtain ⟨A2, c2, rfl, _⟩ := hr.form; clear hk5 hr he) | (go_at_call 20; with_reducible refine (make_ok (NV.of (HR1.out.rv.ext (HX5.out.trans HX6.out)) HN1.out) (NV.of HR2.out.rv HN2.out) HQ.out).mono ?_; rintro e w7 ⟨r, rfl, hr, he⟩; have HZ := Aside.mk (World.block_lt_of_cell? _ _ hk6.2.1.1); have HR7 := Aside.mk hr; obtain ⟨A7, c7, B7, d7, rfl⟩ := hr.form; have hk7 := Keep4.ext ((Ext.refl w7).alloc (.cells #[.int .i64 q.f, .bool q.neg, .slice A7 q.num.length c7, .slice B7 q.den.length d7] 26)) (Keep4.ext he hk6); clear hk6 hr he))
              have HK := Aside.mk hk7
              refine bodyPost_ret (v := .tuple #[.agg #[.int .i64 q.f, .bool q.neg, .slice A7 q.num.length c7, .slice B7 q.den.length d7], .int .i64 0]) (by simp [results, Tryz.results30, go_sem, hk7]) rfl ⟨_, rfl, ((HR7.out.ext ((Ext.refl w7).alloc _)).set4 HZ.out _ _ _ _).mono (Nat.le_of_lt HZ.out), ext_set4 HK.out.1.out (Nat.le_refl _) _ _ _ _⟩
            · have HM : Aside (m = (fq 0, 4)) := ⟨by rw [← hm]; unfold fdecParts; rw [hq, if_neg hqf]⟩
              have hqf1 : (q.f == 0) = false := beq_eq_false_iff_ne.2 hqf
              have hqf2 : (q.f != 0) = true := by simp [bne, hqf1]
              rw [HM.out]
              clear hm hqf hq
              go_enter Tryz.func30, Tryz.ntmps30
              go_wp2_with (first | (go_at_call 81; refine (Tryz.strings_Cut s ⟨#[46]⟩ _ _ HL0.out (Classical.choose_spec (HG.out.ext hk0.1.out).c4)).mono ?_; rintro e w1 ⟨rfl, hw⟩; rw [HS2.out, HS3.out, HTW.out]; have hk1 := Keep4.ext (Ext.of_drewN hw) hk0; clear hk0 hw) | (go_at_call 83; with_reducible refine (digits_calls HL2.out HD2.out).mono ?_; rintro e w2 ⟨rfl, he⟩; have hk2 := Keep4.ext he hk1; clear hk1 he) | (go_at_call 83; with_reducible refine (digits_calls HL3.out HD3.out).mono ?_; rintro e w3 ⟨rfl, he⟩; have hk3 := Keep4.ext he hk2; clear hk2 he) | (go_at_call 84; refine (Tryz.strings_TrimRight_one s3 48 (by decide) _ HL63.out).mono ?_; rintro e w' ⟨rfl, hw⟩; rw [hw, HS4.out]; clear hw) | (go_at_call 85; refine (Tryz.strings_TrimLeft_one (s2 ++ s4) 48 (by decide) _).mono ?_; rintro e w' ⟨rfl, hw⟩; rw [hw, HS5.out]; clear hw) | (go_at_call 82; with_reducible refine (Parse_calls HL6.out).mono ?_; rintro e w4 ⟨r1, rfl, hr, he⟩; have hk4 := Keep4.ext he hk3; rw [HP6.out] at hr; rw [HE6.out]; have HR1 := Aside.mk hr; obtain ⟨A1, c1, rfl, _⟩ := hr.form; clear hk3 hr he) | (go_at_call 86; refine natural_calls.mono ?_; rintro e w' ⟨rfl, rfl⟩) | (go_at_call 87; refine (Tryz.strings_Repeat ⟨#[48]⟩ s4.size _ HC1.out HC2.out).mono ?_; rintro e w5 ⟨rfl, he⟩; rw [HS7.out]; have hk5 := Keep4.ext he hk4; have HX5 := Aside.mk (show Ext _ _ from he); clear hk4 he) | (go_at_call 82; with_reducible refine (Parse_calls HL8.out).mono ?_; rintro e w6 ⟨r2, rfl, hr, he⟩; have hk6 := Keep4.ext he hk5; have HX6 := Aside.mk he; rw [HP8.out] at hr; rw [HE8.out]; have HR2 := Aside.mk hr; obtain ⟨A2, c2, rfl, _⟩ := hr.form; clear hk5 hr he) | (go_at_call 20; with_reducible refine (make_ok (NV.of (HR1.out.rv.ext (HX5.out.trans HX6.out)) HN1.out) (NV.of HR2.out.rv HN2.out) HQ.out).mono ?_; rintro e w7 ⟨r, rfl, hr, he⟩; have HZ := Aside.mk (World.block_lt_of_cell? _ _ hk6.2.1.1); have HR7 := Aside.mk hr; obtain ⟨A7, c7, B7, d7, rfl⟩ := hr.form; have hk7 := Keep4.ext ((Ext.refl w7).alloc (.cells #[.int .i64 q.f, .bool q.neg, .slice A7 q.num.length c7, .slice B7 q.den.length d7] 26)) (Keep4.ext he hk6); clear hk6 hr he))
              have HK := Aside.mk hk7
              refine bodyPost_ret (v := .tuple #[.agg #[.int .i64 0, .bool false, .slice none 0 0, .slice none 0 0], .int .i64 4]) (by simp [results, Tryz.results30, go_sem, hk7]) rfl ⟨_, rfl, RO.fq _ _ _, ext_set4 HK.out.1.out (Nat.le_refl _) _ _ _ _⟩
          · have hemp : s5.toList.isEmpty = true := by rw [Lib.toList_data]; exact hem
            have hne : s5.data.toList = [] := List.isEmpty_iff.1 hem
            rw [hsh, if_pos hne] at hp6 hv6
            have HE6 : Aside (perr (⟨#[48]⟩ : ByteArray).data.toList = 0) := ⟨hp6⟩
            have HP6 : Aside (pdig (⟨#[48]⟩ : ByteArray).data.toList = dig N) := ⟨(pdig_ok hp6).trans (by rw [hv6])⟩
            have HL6 : Aside ((⟨#[48]⟩ : ByteArray).size ≤ 1073741824) := ⟨by decide⟩
            clear hsh hne hp6 hv6 hem hs5l
            by_cases hqf : q.f = 0
            · have HM : Aside (m = (q, 0)) := ⟨by rw [← hm]; unfold fdecParts; rw [hq, if_pos hqf]⟩
              have hqf1 : (q.f == 0) = true := by rw [hqf]; rfl
              have hqf2 : (q.f != 0) = false := by rw [hqf]; rfl
              rw [HM.out]
              clear hm hqf hq
              go_enter Tryz.func30, Tryz.ntmps30
              go_wp2_with (first | (go_at_call 81; refine (Tryz.strings_Cut s ⟨#[46]⟩ _ _ HL0.out (Classical.choose_spec (HG.out.ext hk0.1.out).c4)).mono ?_; rintro e w1 ⟨rfl, hw⟩; rw [HS2.out, HS3.out, HTW.out]; have hk1 := Keep4.ext (Ext.of_drewN hw) hk0; clear hk0 hw) | (go_at_call 83; with_reducible refine (digits_calls HL2.out HD2.out).mono ?_; rintro e w2 ⟨rfl, he⟩; have hk2 := Keep4.ext he hk1; clear hk1 he) | (go_at_call 83; with_reducible refine (digits_calls HL3.out HD3.out).mono ?_; rintro e w3 ⟨rfl, he⟩; have hk3 := Keep4.ext he hk2; clear hk2 he) | (go_at_call 84; refine (Tryz.strings_TrimRight_one s3 48 (by decide) _ HL63.out).mono ?_; rintro e w' ⟨rfl, hw⟩; rw [hw, HS4.out]; clear hw) | (go_at_call 85; refine (Tryz.strings_TrimLeft_one (s2 ++ s4) 48 (by decide) _).mono ?_; rintro e w' ⟨rfl, hw⟩; rw [hw, HS5.out]; clear hw) | (go_at_call 82; with_reducible refine (Parse_calls HL6.out).mono ?_; rintro e w4 ⟨r1, rfl, hr, he⟩; have hk4 := Keep4.ext he hk3; rw [HP6.out] at hr; rw [HE6.out]; have HR1 := Aside.mk hr; obtain ⟨A1, c1, rfl, _⟩ := hr.form; clear hk3 hr he) | (go_at_call 86; refine natural_calls.mono ?_; rintro e w' ⟨rfl, rfl⟩) | (go_at_call 87; refine (Tryz.strings_Repeat ⟨#[48]⟩ s4.size _ HC1.out HC2.out).mono ?_; rintro e w5 ⟨rfl, he⟩; rw [HS7.out]; have hk5 := Keep4.ext he hk4; have HX5 := Aside.mk (show Ext _ _ from he); clear hk4 he) | (go_at_call 82; with_reducible refine (Parse_calls HL8.out).mono ?_; rintro e w6 ⟨r2, rfl, hr, he⟩; have hk6 := Keep4.ext he hk5; have HX6 := Aside.mk he; rw [HP8.out] at hr; rw [HE8.out]; have HR2 := Aside.mk hr; obtain ⟨A2, c2, rfl, _⟩ := hr.form; clear hk5 hr he) | (go_at_call 20; with_reducible refine (make_ok (NV.of (HR1.out.rv.ext (HX5.out.trans HX6.out)) HN1.out) (NV.of HR2.out.rv HN2.out) HQ.out).mono ?_; rintro e w7 ⟨r, rfl, hr, he⟩; have HZ := Aside.mk (World.block_lt_of_cell? _ _ hk6.2.1.1); have HR7 := Aside.mk hr; obtain ⟨A7, c7, B7, d7, rfl⟩ := hr.form; have hk7 := Keep4.ext ((Ext.refl w7).alloc (.cells #[.int .i64 q.f, .bool q.neg, .slice A7 q.num.length c7, .slice B7 q.den.length d7] 26)) (Keep4.ext he hk6); clear hk6 hr he))
              have HK := Aside.mk hk7
              refine bodyPost_ret (v := .tuple #[.agg #[.int .i64 q.f, .bool q.neg, .slice A7 q.num.length c7, .slice B7 q.den.length d7], .int .i64 0]) (by simp [results, Tryz.results30, go_sem, hk7]) rfl ⟨_, rfl, ((HR7.out.ext ((Ext.refl w7).alloc _)).set4 HZ.out _ _ _ _).mono (Nat.le_of_lt HZ.out), ext_set4 HK.out.1.out (Nat.le_refl _) _ _ _ _⟩
            · have HM : Aside (m = (fq 0, 4)) := ⟨by rw [← hm]; unfold fdecParts; rw [hq, if_neg hqf]⟩
              have hqf1 : (q.f == 0) = false := beq_eq_false_iff_ne.2 hqf
              have hqf2 : (q.f != 0) = true := by simp [bne, hqf1]
              rw [HM.out]
              clear hm hqf hq
              go_enter Tryz.func30, Tryz.ntmps30
              go_wp2_with (first | (go_at_call 81; refine (Tryz.strings_Cut s ⟨#[46]⟩ _ _ HL0.out (Classical.choose_spec (HG.out.ext hk0.1.out).c4)).mono ?_; rintro e w1 ⟨rfl, hw⟩; rw [HS2.out, HS3.out, HTW.out]; have hk1 := Keep4.ext (Ext.of_drewN hw) hk0; clear hk0 hw) | (go_at_call 83; with_reducible refine (digits_calls HL2.out HD2.out).mono ?_; rintro e w2 ⟨rfl, he⟩; have hk2 := Keep4.ext he hk1; clear hk1 he) | (go_at_call 83; with_reducible refine (digits_calls HL3.out HD3.out).mono ?_; rintro e w3 ⟨rfl, he⟩; have hk3 := Keep4.ext he hk2; clear hk2 he) | (go_at_call 84; refine (Tryz.strings_TrimRight_one s3 48 (by decide) _ HL63.out).mono ?_; rintro e w' ⟨rfl, hw⟩; rw [hw, HS4.out]; clear hw) | (go_at_call 85; refine (Tryz.strings_TrimLeft_one (s2 ++ s4) 48 (by decide) _).mono ?_; rintro e w' ⟨rfl, hw⟩; rw [hw, HS5.out]; clear hw) | (go_at_call 82; with_reducible refine (Parse_calls HL6.out).mono ?_; rintro e w4 ⟨r1, rfl, hr, he⟩; have hk4 := Keep4.ext he hk3; rw [HP6.out] at hr; rw [HE6.out]; have HR1 := Aside.mk hr; obtain ⟨A1, c1, rfl, _⟩ := hr.form; clear hk3 hr he) | (go_at_call 86; refine natural_calls.mono ?_; rintro e w' ⟨rfl, rfl⟩) | (go_at_call 87; refine (Tryz.strings_Repeat ⟨#[48]⟩ s4.size _ HC1.out HC2.out).mono ?_; rintro e w5 ⟨rfl, he⟩; rw [HS7.out]; have hk5 := Keep4.ext he hk4; have HX5 := Aside.mk (show Ext _ _ from he); clear hk4 he) | (go_at_call 82; with_reducible refine (Parse_calls HL8.out).mono ?_; rintro e w6 ⟨r2, rfl, hr, he⟩; have hk6 := Keep4.ext he hk5; have HX6 := Aside.mk he; rw [HP8.out] at hr; rw [HE8.out]; have HR2 := Aside.mk hr; obtain ⟨A2, c2, rfl, _⟩ := hr.form; clear hk5 hr he) | (go_at_call 20; with_reducible refine (make_ok (NV.of (HR1.out.rv.ext (HX5.out.trans HX6.out)) HN1.out) (NV.of HR2.out.rv HN2.out) HQ.out).mono ?_; rintro e w7 ⟨r, rfl, hr, he⟩; have HZ := Aside.mk (World.block_lt_of_cell? _ _ hk6.2.1.1); have HR7 := Aside.mk hr; obtain ⟨A7, c7, B7, d7, rfl⟩ := hr.form; have hk7 := Keep4.ext ((Ext.refl w7).alloc (.cells #[.int .i64 q.f, .bool q.neg, .slice A7 q.num.length c7, .slice B7 q.den.length d7] 26)) (Keep4.ext he hk6); clear hk6 hr he))
              have HK := Aside.mk hk7
              refine bodyPost_ret (v := .tuple #[.agg #[.int .i64 0, .bool false, .slice none 0 0, .slice none 0 0], .int .i64 4]) (by simp [results, Tryz.results30, go_sem, hk7]) rfl ⟨_, rfl, RO.fq _ _ _, ext_set4 HK.out.1.out (Nat.le_refl _) _ _ _ _⟩
end Go.Proofs.YtgfkachfbnbikaaGreatDoor
