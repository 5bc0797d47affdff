/- Contracts of fluxionlaw03: fit. Contracts of fluxionlaw03: fit. -/
import Derived.Test.YtcbaipnphepbeaaGreatDoorNy
import Derived.Shelf.RegionOpenPlain
namespace Go.Proofs.YtcbaipnphepbeaaGreatDoor
open Go.RowKit
attribute [local go_sem ↓] Go.wp_at_zero Go.wp_at_succ

/-- The number that fit takes at a place. -/
def fitQ (ns : List Rq) (i : Nat) : Rq := match ns[i]? with | some q => if okq q = true then q else q0 | none => q0
def fitN (ns : List Rq) (j m : Nat) : List Rq := (List.range m).map fun i => if i < j then fitQ ns i else q0
def fitB1 (bs : List Bq) (i : Nat) : Bq := match bs[i]? with | some b => if okb b.f b.on = true then b else ⟨0, false⟩ | none => ⟨0, false⟩
def fitB (bs : List Bq) (j m : Nat) : List Bq := (List.range m).map fun i => if i < j then fitB1 bs i else ⟨0, false⟩
theorem fitN_len (ns : List Rq) (j m : Nat) : (fitN ns j m).length = m := by simp [fitN]
theorem fitB_len (bs : List Bq) (j m : Nat) : (fitB bs j m).length = m := by simp [fitB]
theorem fitN_zero (ns : List Rq) (m : Nat) : fitN ns 0 m = List.replicate m q0 := by
  apply List.ext_getElem <;> simp [fitN]
theorem fitB_zero (bs : List Bq) (m : Nat) : fitB bs 0 m = List.replicate m ⟨0, false⟩ := by
  apply List.ext_getElem <;> simp [fitB]
theorem fitN_succ (ns : List Rq) (j m : Nat) : fitN ns (j + 1) m = (fitN ns j m).set j (fitQ ns j) := by
  apply List.ext_getElem
  · simp [fitN]
  · intro i h1 h2
    simp only [fitN, List.getElem_map, List.getElem_range, List.getElem_set]
    by_cases e : j = i
    · subst e; simp
    · rw [if_neg e]
      by_cases hi : i < j
      · rw [if_pos hi, if_pos (by omega)]
      · rw [if_neg hi, if_neg (by omega)]
theorem fitB_succ (bs : List Bq) (j m : Nat) : fitB bs (j + 1) m = (fitB bs j m).set j (fitB1 bs j) := by
  apply List.ext_getElem
  · simp [fitB]
  · intro i h1 h2
    simp only [fitB, List.getElem_map, List.getElem_range, List.getElem_set]
    by_cases e : j = i
    · subst e; simp
    · rw [if_neg e]
      by_cases hi : i < j
      · rw [if_pos hi, if_pos (by omega)]
      · rw [if_neg hi, if_neg (by omega)]
theorem fitN_same (ns : List Rq) {j m : Nat} (h : fitQ ns j = q0) : fitN ns (j + 1) m = fitN ns j m := by
  unfold fitN
  apply List.map_congr_left
  intro i _
  by_cases e : i = j
  · subst e; simp [h]
  · by_cases hi : i < j
    · rw [if_pos hi, if_pos (by omega)]
    · rw [if_neg hi, if_neg (by omega)]
theorem fitB_same (bs : List Bq) {j m : Nat} (h : fitB1 bs j = ⟨0, false⟩) : fitB bs (j + 1) m = fitB bs j m := by
  unfold fitB
  apply List.map_congr_left
  intro i _
  by_cases e : i = j
  · subst e; simp [h]
  · by_cases hi : i < j
    · rw [if_pos hi, if_pos (by omega)]
    · rw [if_neg hi, if_neg (by omega)]
theorem fitN_end (ns : List Rq) {j m : Nat} (h : m ≤ j ∨ ns.length ≤ j) : fitN ns j m = fitN ns m m := by
  unfold fitN
  apply List.map_congr_left
  intro i hi
  have hi := List.mem_range.1 hi
  by_cases e : i < j
  · rw [if_pos e, if_pos hi]
  · rw [if_neg e, if_pos hi]
    unfold fitQ
    rw [List.getElem?_eq_none (by omega)]
theorem fitB_end (bs : List Bq) {j m : Nat} (h : m ≤ j ∨ bs.length ≤ j) : fitB bs j m = fitB bs m m := by
  unfold fitB
  apply List.map_congr_left
  intro i hi
  have hi := List.mem_range.1 hi
  by_cases e : i < j
  · rw [if_pos e, if_pos hi]
  · rw [if_neg e, if_pos hi]
    unfold fitB1
    rw [List.getElem?_eq_none (by omega)]
/-- How many Bits a value of a type has. -/
def bQ (q : Int × List Int) : Nat := if q.1 = 1 then 0 else (prodI q.2).toNat
/-- What fit returns; on the way there too. -/
def fitS (k : Int) (ds : List Int) (ns : List Rq) (bs : List Bq) (i j : Nat) : Vq := ⟨k, ds, fitN ns i (nQ (k, ds)), fitB bs j (bQ (k, ds))⟩
def fitV (k : Int) (ds : List Int) (ns : List Rq) (bs : List Bq) : Vq := fitS k ds ns bs (nQ (k, ds)) (bQ (k, ds))
theorem fitS_zero (k : Int) (ds : List Int) (ns : List Rq) (bs : List Bq) : fitS k ds ns bs 0 0 = zeroQ k ds := by
  unfold fitS zeroQ
  rw [fitN_zero, fitB_zero]
  unfold nQ bQ
  by_cases h : k = 1 <;> simp [h]
theorem fitQ_ok {ns : List Rq} {j : Nat} {x : Rq} (h : ns[j]? = some x) (ho : okq x = true) : fitQ ns j = x := by unfold fitQ; rw [h]; simp [ho]
theorem fitQ_bad {ns : List Rq} {j : Nat} {x : Rq} (h : ns[j]? = some x) (ho : okq x = false) : fitQ ns j = q0 := by unfold fitQ; rw [h]; simp [ho]
theorem fitB1_ok {bs : List Bq} {j : Nat} {x : Bq} (h : bs[j]? = some x) (ho : okb x.f x.on = true) : fitB1 bs j = x := by unfold fitB1; rw [h]; simp [ho]
theorem fitB1_bad {bs : List Bq} {j : Nat} {x : Bq} (h : bs[j]? = some x) (ho : okb x.f x.on = false) : fitB1 bs j = ⟨0, false⟩ := by unfold fitB1; rw [h]; simp [ho]
/-! A Bit is stored -/
theorem Rows.set2 {α : Type} {R : List Value → α → Prop} {v0 v1 : Value} {a : α} (ha : R [v0, v1] a) : ∀ {xs : List Value} {l : List α} (j : Nat), Rows 2 R xs l → j < l.length → Rows 2 R ((xs.set (j * 2) v0).set (j * 2 + 1) v1) (l.set j a)
  | xs, [], j, h, hj => by simp at hj
  | xs, b :: l, 0, h, hj => by
    obtain ⟨c, t, rfl, hc, _, h⟩ := h
    obtain ⟨c0, c1, rfl⟩ : ∃ c0 c1, c = [c0, c1] := by
      match c, hc with
      | [c0, c1], _ => exact ⟨c0, c1, rfl⟩
    exact ⟨[v0, v1], t, by simp, rfl, ha, h⟩
  | xs, b :: l, j + 1, h, hj => by
    obtain ⟨c, t, rfl, hc, hb, h⟩ := h
    have ih := Rows.set2 ha j h (by simpa using hj)
    refine ⟨c, _, ?_, hc, hb, ih⟩
    have e : ∀ (u : List Value) (i : Nat) (v : Value), (c ++ u).set ((j + 1) * 2 + i) v = c ++ u.set (j * 2 + i) v := fun u i v => by
      rw [List.set_append_right _ _ (by omega)]
      congr 2
      omega
    have e0 : ∀ (u : List Value) (v : Value), (c ++ u).set ((j + 1) * 2) v = c ++ u.set (j * 2) v := fun u v => e u 0 v
    rw [e0, e]
theorem Elm.putB {base : Nat} {w : World} {h : Hd} {v : Vq} (E : Elm base w h v) {i : Nat} (hi : i < v.bits.length) {g n c : Nat} (hn : h.b = .slice (some ⟨g, 0, none⟩) n c) (b : Bq) :
    Elm base ((w.setCell ⟨g, i * 2, none⟩ (.int .i64 b.f)).setCell ⟨g, i * 2 + 1, none⟩ (.bool b.on)) h { v with bits := v.bits.set i b } := by
  have hb := E.bits
  rw [hn] at hb
  have hf : ∀ {α : Type} {e : TypeId} {k : Nat} {R : World → List Value → α → Prop} {x : Value} {l : List α}, SO base e k R w x l → e ≠ 46 → (∀ c a, R w c a → R ((w.setCell ⟨g, i * 2, none⟩ (.int .i64 b.f)).setCell ⟨g, i * 2 + 1, none⟩ (.bool b.on)) c a) →
      SO base e k R ((w.setCell ⟨g, i * 2, none⟩ (.int .i64 b.f)).setCell ⟨g, i * 2 + 1, none⟩ (.bool b.on)) x l := fun H hne hR => by
    have hg := H.apart hb hne
    obtain ⟨xs, ho, hl, hr⟩ := H
    exact ⟨xs, ownsRow_set (p := ⟨g, i * 2 + 1, none⟩) (ownsRow_set (p := ⟨g, i * 2, none⟩) ho hg _) hg _, hl, hr.mono hR⟩
  refine ⟨E.kind, hf E.dims (by decide) (fun _ _ h => h), hf E.nums (by decide) ?_, ?_⟩
  · obtain ⟨cs', fr, hg⟩ := hb.type
    rintro cs q ⟨x, y, h1, h2, h3⟩
    refine ⟨x, y, h1, ⟨h2.1, ?_⟩, ⟨h3.1, ?_⟩⟩
    · have hne := own_ne h2.2 hg (by decide)
      exact ownsRow_set (p := ⟨g, i * 2 + 1, none⟩) (ownsRow_set (p := ⟨g, i * 2, none⟩) h2.2 hne _) hne _
    · have hne := own_ne h3.2 hg (by decide)
      exact ownsRow_set (p := ⟨g, i * 2 + 1, none⟩) (ownsRow_set (p := ⟨g, i * 2, none⟩) h3.2 hne _) hne _
  · rw [hn]
    obtain ⟨xs, ho, hl, hr⟩ := hb
    have hnn : n = v.bits.length := by
      rcases ho.2 with ⟨h', _⟩ | ⟨g', cap', cur, h', _⟩
      · cases h'
      · injection h'
    subst hnn
    have o1 := (ho.stored (i * 2) (.int .i64 b.f)).1
    have o2 := (o1.stored (i * 2 + 1) (.bool b.on)).1
    exact ⟨_, by simpa using o2, by simpa using hl, Rows.set2 (R := BitC _) (show BitC _ _ b from rfl) i hr hi⟩
theorem Elm.headB {base : Nat} {w : World} {k : Int} {d b : Value} {X : Option Addr} {n x : Nat} {v : Vq} (E : Elm base w ⟨k, d, b, .slice X n x⟩ v) (hp : 0 < v.bits.length) : ∃ g, X = some ⟨g, 0, none⟩ ∧ base ≤ g ∧ g < w.heap.size := by
  obtain ⟨xs, ho⟩ := E.bits.row
  rcases ho.2 with ⟨h', h0⟩ | ⟨g, cap, cur, h', _⟩
  · omega
  · have h' : (Value.slice X n x) = .slice (some ⟨g, 0, none⟩) v.bits.length cap := h'
    have hl := ho.lt g (by show (Value.slice X n x).ownBlock = some g; rw [h']; rfl)
    injection h' with h' _ _
    exact ⟨g, h', hl⟩
/-- Two cells that may be stored. -/
abbrev F2 (w : World) (g o : Nat) : Prop := Fits w ⟨g, o, none⟩ ∧ Fits w ⟨g, o + 1, none⟩
theorem SO.fits2 {α : Type} {base : Nat} {e : TypeId} {R : World → List Value → α → Prop} {w : World} {g n c : Nat} {l : List α} (h : SO base e 2 R w (.slice (some ⟨g, 0, none⟩) n c) l) (i : Nat) (hi : i < l.length) : F2 w g (i * 2) := by
  obtain ⟨xs, ho, hl, hr⟩ := h
  have hlen := hr.length
  have hf : ∀ j, w.frozen? ⟨g, j, none⟩ = false := fun j => by
    rcases ho.2 with ⟨h', _⟩ | ⟨g', cap', cur, h', _, hh, _⟩
    · cases h'
    · injection h' with h'; injection h' with h'; injection h' with h'
      subst h'
      simp [World.frozen?, hh]
  have hn : n = l.length := by
    rcases ho.2 with ⟨h', _⟩ | ⟨g', cap', cur, h', _⟩
    · cases h'
    · injection h'
  subst hn
  have hc : ∀ j, j < xs.length → Fits w ⟨g, j, none⟩ := fun j hj => Fits.of ((ho.cellAt j (by omega)).trans (List.getElem?_eq_getElem hj)) (hf j)
  exact ⟨hc _ (by omega), hc _ (by omega)⟩
end Go.Proofs.YtcbaipnphepbeaaGreatDoor

namespace Go.Proofs.YtcbaipnphepbeaaGreatDoor
open Go.RowKit
attribute [local go_sem ↓] Go.wp_at_zero Go.wp_at_succ

theorem F2.ext {w w' : World} {g o : Nat} (h : F2 w g o) (hg : g < w.heap.size) (e : Ext w w') : F2 w' g o := by
  have hF : ∀ {j : Nat}, Fits w ⟨g, j, none⟩ → Fits w' ⟨g, j, none⟩ := fun h => Fits.of ((Below.cell e hg).trans h.1) ((Below.frozen e hg).trans h.2)
  exact ⟨hF h.1, hF h.2⟩
set_option maxRecDepth 10000 in
set_option maxHeartbeats 16000000 in
theorem fit_calls {w : World} {tv xv yv : Value} {k : Int} {ds : List Int} {ns : List Rq} {bts : List Bq} (ht : TV w tv k ds) (hd : Dims ds) (hn : QV w xv ns) (hb : BV w yv bts) :
    Calls Tryz.prog 23 #[tv, xv, yv] w fun e w' => ∃ r, e = .returned r ∧ VO w.heap.size w' r (fitV k ds ns bts) ∧ Ext w w' := by
  have HTV := Aside.mk ht
  obtain ⟨u, rfl, hi⟩ := ht
  obtain ⟨D, cd, rfl, _⟩ := hi.form
  obtain ⟨XA, xc, rfl, hxc, hx30⟩ := hn.form
  obtain ⟨YA, yc, rfl, hyc, hy30⟩ := hb.form
  have HN := Aside.mk hn
  have HB := Aside.mk hb
  have HDD := Aside.mk hd
  obtain ⟨nd, hnd⟩ : ∃ n, ds.length = n := ⟨_, rfl⟩
  obtain ⟨N, hNN⟩ : ∃ n, ns.length = n := ⟨_, rfl⟩
  obtain ⟨NB, hNB⟩ : ∃ n, bts.length = n := ⟨_, rfl⟩
  have HNL := Aside.mk hNN
  have HBL := Aside.mk hNB
  rw [hnd] at HTV ⊢
  rw [hNN] at HN hxc hx30 ⊢
  rw [hNB] at HB hyc hy30 ⊢
  obtain ⟨z, hz⟩ : ∃ z, zeroQ k ds = z := ⟨_, rfl⟩
  have HZ := Aside.mk hz
  have HZE : Aside (fitS k ds ns bts 0 0 = z) := ⟨by rw [fitS_zero]; exact hz⟩
  obtain ⟨l1, hl1⟩ : ∃ n, z.ds.length = n := ⟨_, rfl⟩
  obtain ⟨l2, hl2⟩ : ∃ n, z.nums.length = n := ⟨_, rfl⟩
  obtain ⟨l3, hl3⟩ : ∃ n, z.bits.length = n := ⟨_, rfl⟩
  have HL1 := Aside.mk hl1
  have HL2 := Aside.mk hl2
  have HL3 := Aside.mk hl3
  have HNK : Aside (nQ (k, ds) = l2) := ⟨by rw [← hl2, ← HZE.out]; exact (fitN_len _ _ _).symm⟩
  have HBK : Aside (bQ (k, ds) = l3) := ⟨by rw [← hl3, ← HZE.out]; exact (fitB_len _ _ _).symm⟩
  have hpd := hd.prod
  have hl25 : l2 ≤ 512 := by rw [← HNK.out]; show (if k = 1 then (prodI ds).toNat else 0) ≤ 512; split <;> omega
  have hl35 : l3 ≤ 512 := by rw [← HBK.out]; show (if k = 1 then 0 else (prodI ds).toNat) ≤ 512; split <;> omega
  have HFV : Aside (fitV k ds ns bts = fitS k ds ns bts l2 l3) := ⟨by unfold fitV; rw [HNK.out, HBK.out]⟩
  rw [HFV.out]
  have hk0 := KZ.init w (.int .i64 k) (.slice D nd cd) (.int .i64 0) (.slice none 0 0) (.slice none 0 0) (.slice none 0 0) 25 29
  clear hi hn hb hd hnd hNN hNB hz hl1 hl2 hl3 hpd
  go_enter Tryz.func23, Tryz.ntmps23
  go_upto_block 0 with (go_at_call 41; (with_reducible refine (rzero_to (HTV.out.ext hk0.1.out) HDD.out HZ.out HL1.out HL2.out HL3.out).mono ?_); rintro e w4 ⟨D2, e2, A2, a2, B2, b2, rfl, hr, he⟩; have hk4 := KZ.ext (he.alloc (.cells #[.int .i64 z.k, .slice D2 l1 e2, .slice A2 l2 a2, .slice B2 l3 b2] 29)) hk0; have hb4 := B4.new (w := w4) rfl (.int .i64 z.k) (.slice D2 l1 e2) (.slice A2 l2 a2) (.slice B2 l3 b2) 29; have HEL := Aside.mk ((hr.mono hk0.lt).ext ((Ext.refl w4).alloc (.cells #[.int .i64 z.k, .slice D2 l1 e2, .slice A2 l2 a2, .slice B2 l3 b2] 29))); have HXG := Aside.mk (fun hp => (hr.mono hk0.lt).head hp); have HXB := Aside.mk (fun hp => (hr.mono hk0.lt).headB hp); clear hr he)
  obtain ⟨gb, hgb⟩ : ∃ g, w4.heap.size = g := ⟨_, rfl⟩
  have HGB := Aside.mk hgb
  rw [hgb] at hb4
  try rw [hgb]
  have HEL0 : Aside (Elm (w.heap.size + 2) (w4.alloc (.cells #[.int .i64 z.k, .slice D2 l1 e2, .slice A2 l2 a2, .slice B2 l3 b2] 29)) (⟨z.k, .slice D2 l1 e2, .slice A2 l2 a2, .slice B2 l3 b2⟩ : Hd) (fitS k ds ns bts 0 0)) := ⟨by rw [HZE.out]; exact HEL.out⟩
  clear hgb HEL
  go_cut [] from 8 to 38 (fun wx => KZ w (.int .i64 k) (.slice D nd cd) wx ∧ B4 wx gb (.int .i64 z.k) (.slice D2 l1 e2) (.slice A2 l2 a2) (.slice B2 l3 b2) ∧ Aside (Elm (w.heap.size + 2) wx (⟨z.k, .slice D2 l1 e2, .slice A2 l2 a2, .slice B2 l3 b2⟩ : Hd) (fitS k ds ns bts l2 0)))
  case first =>
    go_wp2
    go_loopw [8] (fun i wr => ∃ j : Nat, j ≤ l2 ∧ i = .int .i64 (j : Int) ∧ KZ w (.int .i64 k) (.slice D nd cd) wr ∧ B4 wr gb (.int .i64 z.k) (.slice D2 l1 e2) (.slice A2 l2 a2) (.slice B2 l3 b2) ∧ Aside (Elm (w.heap.size + 2) wr (⟨z.k, .slice D2 l1 e2, .slice A2 l2 a2, .slice B2 l3 b2⟩ : Hd) (fitS k ds ns bts j 0))) (fun i _ => l2 - (intOf i).toNat)
    case atStart => exact ⟨0, by omega, rfl, hk4, hb4, HEL0⟩
    case round =>
      clear hk4 hb4 HEL0
      obtain ⟨j, hj, rfl, hki, hbi, HELI⟩ := hrel
      by_cases hc : j < l2 ∧ j < N
      · obtain ⟨hlt, hltN⟩ := hc
        obtain ⟨g, rfl, hg1, hg2⟩ := HXG.out (by rw [HL2.out]; omega)
        have hgb2 : g < gb := by have := HGB.out; omega
        obtain ⟨x, hx⟩ : ∃ x, ns[j]? = some x := ⟨ns[j]'(by rw [HNL.out]; exact hltN), List.getElem?_eq_getElem _⟩
        obtain ⟨bx, ox, y0, z0, hXB, hx0, hx1, hx2, hx3, hrx⟩ := QV.at' HN.out j hx
        obtain ⟨PA, pc, PB, pd, ev⟩ := hrx.form
        simp only [Value.agg.injEq, Array.mk.injEq, List.cons.injEq, true_and, and_true] at ev
        obtain ⟨rfl, rfl⟩ := ev
        subst hXB
        have HRX := Aside.mk hrx
        have HXI := Aside.mk hx
        have hbxw : bx < w.heap.size := World.block_lt_of_cell? w ⟨bx, ox + j * 4, none⟩ hx0
        have HNE := Aside.mk (show g ≠ gb ∧ g ≠ bx ∧ w.heap.size + 2 ≤ g ∧ w.heap.size ≤ g by omega)
        have HGI : Aside (g < wr.heap.size) := ⟨Nat.lt_trans hgb2 hbi.lt⟩
        have hcx : C4 wr bx (ox + j * 4) (.int .i64 x.f) (.bool x.neg) (.slice PA x.num.length pc) (.slice PB x.den.length pd) := ⟨hki.1.out.cell hx0, hki.1.out.cell hx1, hki.1.out.cell hx2, hki.1.out.cell hx3⟩
        have HF4 : Aside (F4 wr g (j * 4)) := ⟨HELI.out.nums.fits j (by show j < (fitN _ _ _).length; rw [fitN_len, HNK.out]; exact hlt)⟩
        have HJ := Aside.mk hlt
        have hp0 : (0 : Int) ≤ (j : Int) := Int.natCast_nonneg _
        have hp1 : (j : Int) < (l2 : Int) := by omega
        have hp2 : (j : Int) < (N : Int) := by omega
        obtain ⟨ok, hok⟩ : ∃ b, okq x = b := ⟨_, rfl⟩
        have HOX := Aside.mk hok
        clear hx hx0 hx1 hx2 hx3 hrx hbxw hgb2 hg1 hg2 hok
        cases ok
        · have HEQ : Aside (fitS k ds ns bts (j + 1) 0 = fitS k ds ns bts j 0) := ⟨by unfold fitS; rw [fitN_same ns (fitQ_bad HXI.out HOX.out)]⟩
          go_wp2_with (go_at_call 51; (with_reducible refine (risrat_calls (HRX.out.ext hki.1.out) HOX.out).mono ?_); rintro e w7 ⟨rfl, he⟩; have HE7 := Aside.mk he; have hk7 := KZ.ext he hki; have hb7 := hbi.ext he; have hc7 := C4.ext he hcx; clear he)
          have HB7 := Aside.mk hb7
          have HK7 := Aside.mk hk7
          go_roundw
          case rel => exact ⟨j + 1, by have := HJ.out; omega, by go_num, HK7.out, HB7.out, ⟨by rw [HEQ.out]; exact HELI.out.ext HE7.out⟩⟩
          case measure => have := HJ.out; simp [intOf]; omega
        · have HEQ : Aside (fitS k ds ns bts (j + 1) 0 = { fitS k ds ns bts j 0 with nums := (fitS k ds ns bts j 0).nums.set j x }) := ⟨by unfold fitS; rw [fitN_succ ns j, fitQ_ok HXI.out HOX.out]⟩
          go_wp2_with (go_at_call 51; (with_reducible refine (risrat_calls (HRX.out.ext hki.1.out) HOX.out).mono ?_); rintro e w7 ⟨rfl, he⟩; have HE7 := Aside.mk he; have hk7 := KZ.ext he hki; have hb7 := hbi.ext he; have hc7 := C4.ext he hcx; clear he)
          have hs7 : S25 w gb g (j * 4) bx (ox + j * 4) (.int .i64 z.k) (.slice D2 l1 e2) (.slice (some ⟨g, 0, none⟩) l2 a2) (.slice B2 l3 b2) (.int .i64 x.f) (.bool x.neg) (.slice PA x.num.length pc) (.slice PB x.den.length pd) w7.drew := S25.ext ((Ext.refl w7).drew) ⟨hk7.1, ⟨HNE.out.2.2.2, Nat.lt_of_lt_of_le HGI.out HE7.out.size, HNE.out.1, HNE.out.2.1⟩, hb7, hc7, HF4.out.ext HGI.out HE7.out⟩
          go_region_held3 (fun w' => S25 w gb g (j * 4) bx (ox + j * 4) (.int .i64 z.k) (.slice D2 l1 e2) (.slice (some ⟨g, 0, none⟩) l2 a2) (.slice B2 l3 b2) (.int .i64 x.f) (.bool x.neg) (.slice PA x.num.length pc) (.slice PB x.den.length pd) w') ((first | assumption | exact S25.ext (by assumption) (by assumption) | exact (((S25.set (by assumption) _ _).set _ _).set _ _).set _ _)) ((go_at_call 74; (with_reducible refine (rcopy_to (HRX.out.ext ((hk7.1.out.trans ((Ext.refl w7).drew))))).mono ?_); rintro e w8 ⟨A8, c8, B8, d8, rfl, hx8, hy8, he⟩; have HX8 := Aside.mk hx8; have HY8 := Aside.mk hy8; have HE8 := Aside.mk he; clear hx8 hy8))
          all_goals
            have hbase : w.heap.size + 2 ≤ w7.drew.heap.size := hk7.lt
            have HEL9 : Aside (Elm (w.heap.size + 2) ((((w8.setCell ⟨g, j * 4, none⟩ (.int .i64 x.f)).setCell ⟨g, j * 4 + 1, none⟩ (.bool x.neg)).setCell ⟨g, j * 4 + 2, none⟩ (.slice A8 x.num.length c8)).setCell ⟨g, j * 4 + 3, none⟩ (.slice B8 x.den.length d8)) (⟨z.k, .slice D2 l1 e2, .slice (some ⟨g, 0, none⟩) l2 a2, .slice B2 l3 b2⟩ : Hd) (fitS k ds ns bts (j + 1) 0)) := ⟨by
              have hE := HELI.out.ext (HE7.out.trans (((Ext.refl w7).drew).trans HE8.out))
              have h9 := hE.put (i := j) (by show j < (fitN _ _ _).length; rw [fitN_len, HNK.out]; exact HJ.out) rfl (HX8.out.mono hbase) (HY8.out.mono hbase)
              rw [HEQ.out]
              exact h9⟩
            have HK9 : Aside (KZ w (.int .i64 k) (.slice D nd cd) ((((w8.setCell ⟨g, j * 4, none⟩ (.int .i64 x.f)).setCell ⟨g, j * 4 + 1, none⟩ (.bool x.neg)).setCell ⟨g, j * 4 + 2, none⟩ (.slice A8 x.num.length c8)).setCell ⟨g, j * 4 + 3, none⟩ (.slice B8 x.den.length d8))) := ⟨(KZ.ext (((Ext.refl w7).drew).trans HE8.out) hk7).below (Below.setCell (Below.setCell (Below.setCell (Below.setCell (Below.refl _ _) HNE.out.2.2.1 _) HNE.out.2.2.1 _) HNE.out.2.2.1 _) HNE.out.2.2.1 _)⟩
            have HB9 : Aside (B4 ((((w8.setCell ⟨g, j * 4, none⟩ (.int .i64 x.f)).setCell ⟨g, j * 4 + 1, none⟩ (.bool x.neg)).setCell ⟨g, j * 4 + 2, none⟩ (.slice A8 x.num.length c8)).setCell ⟨g, j * 4 + 3, none⟩ (.slice B8 x.den.length d8)) gb (.int .i64 z.k) (.slice D2 l1 e2) (.slice (some ⟨g, 0, none⟩) l2 a2) (.slice B2 l3 b2)) := ⟨((((hb7.ext (((Ext.refl w7).drew).trans HE8.out)).other HNE.out.1 _).other HNE.out.1 _).other HNE.out.1 _).other HNE.out.1 _⟩
            clear hbase hs7 hb7 hc7 hk7
            go_wp2_with fail
            go_roundw
            case rel => exact ⟨j + 1, by have := HJ.out; omega, by go_num, HK9.out, HB9.out, HEL9⟩
            case measure => have := HJ.out; simp [intOf]; omega
      · have HEQ : Aside (fitS k ds ns bts l2 0 = fitS k ds ns bts j 0) := ⟨by
          unfold fitS
          rw [HNK.out, fitN_end ns (j := j) (m := l2) (by rw [HNL.out]; omega)]⟩
        have HB7 := Aside.mk hbi
        have HK7 := Aside.mk hki
        by_cases hlt : j < l2
        · have hp1 : (j : Int) < (l2 : Int) := by omega
          have hp2 : ¬ (j : Int) < (N : Int) := by omega
          clear hc
          go_wp2_with fail
          go_meet
          exact ⟨HK7.out, HB7.out, ⟨by rw [HEQ.out]; exact HELI.out⟩⟩
        · have hp1 : ¬ (j : Int) < (l2 : Int) := by omega
          clear hc
          go_wp2_with fail
          go_meet
          exact ⟨HK7.out, HB7.out, ⟨by rw [HEQ.out]; exact HELI.out⟩⟩
  case rest =>
    clear hk4 hb4 HEL0
    obtain ⟨hki, hbi, HELI⟩ := hcut
    go_upto_block 2 with fail
    go_cut [] from 9 to 64 (fun wx => KZ w (.int .i64 k) (.slice D nd cd) wx ∧ B4 wx gb (.int .i64 z.k) (.slice D2 l1 e2) (.slice A2 l2 a2) (.slice B2 l3 b2) ∧ Aside (Elm (w.heap.size + 2) wx (⟨z.k, .slice D2 l1 e2, .slice A2 l2 a2, .slice B2 l3 b2⟩ : Hd) (fitS k ds ns bts l2 l3)))
    case first =>
      go_wp2
      go_loopw [9] (fun i wr => ∃ j : Nat, j ≤ l3 ∧ i = .int .i64 (j : Int) ∧ KZ w (.int .i64 k) (.slice D nd cd) wr ∧ B4 wr gb (.int .i64 z.k) (.slice D2 l1 e2) (.slice A2 l2 a2) (.slice B2 l3 b2) ∧ Aside (Elm (w.heap.size + 2) wr (⟨z.k, .slice D2 l1 e2, .slice A2 l2 a2, .slice B2 l3 b2⟩ : Hd) (fitS k ds ns bts l2 j))) (fun i _ => l3 - (intOf i).toNat)
      case atStart => exact ⟨0, by omega, rfl, hki, hbi, HELI⟩
      case round =>
        clear hki hbi HELI
        obtain ⟨j, hj, rfl, hki, hbi, HELI⟩ := hrel
        by_cases hc : j < l3 ∧ j < NB
        · obtain ⟨hlt, hltN⟩ := hc
          obtain ⟨g, rfl, hg1, hg2⟩ := HXB.out (by rw [HL3.out]; omega)
          have hgb2 : g < gb := by have := HGB.out; omega
          obtain ⟨x, hx⟩ : ∃ x, bts[j]? = some x := ⟨bts[j]'(by rw [HBL.out]; exact hltN), List.getElem?_eq_getElem _⟩
          obtain ⟨bx, ox, hXB, hx0, hx1⟩ := BV.at' HB.out j hx
          subst hXB
          have HXI := Aside.mk hx
          have hbxw : bx < w.heap.size := World.block_lt_of_cell? w ⟨bx, ox + j * 2, none⟩ hx0
          have HNE := Aside.mk (show g ≠ gb ∧ g ≠ bx ∧ w.heap.size + 2 ≤ g ∧ w.heap.size ≤ g by omega)
          have HGI : Aside (g < wr.heap.size) := ⟨Nat.lt_trans hgb2 hbi.lt⟩
          replace hx0 := hki.1.out.cell hx0
          replace hx1 := hki.1.out.cell hx1
          have HF2 : Aside (F2 wr g (j * 2)) := ⟨HELI.out.bits.fits2 j (by show j < (fitB _ _ _).length; rw [fitB_len, HBK.out]; exact hlt)⟩
          have HJ := Aside.mk hlt
          have hp0 : (0 : Int) ≤ (j : Int) := Int.natCast_nonneg _
          have hp1 : (j : Int) < (l3 : Int) := by omega
          have hp2 : (j : Int) < (NB : Int) := by omega
          obtain ⟨ok, hok⟩ : ∃ b, okb x.f x.on = b := ⟨_, rfl⟩
          have HOX := Aside.mk hok
          clear hx hbxw hgb2 hg1 hg2 hok
          cases ok
          · have HEQ : Aside (fitS k ds ns bts l2 (j + 1) = fitS k ds ns bts l2 j) := ⟨by unfold fitS; rw [fitB_same bts (fitB1_bad HXI.out HOX.out)]⟩
            go_wp2_with (go_at_call 57; (with_reducible refine (risbit_calls HOX.out).mono ?_); rintro e w7 ⟨rfl, he⟩; have HE7 := Aside.mk he; have hk7 := KZ.ext he hki; have hb7 := hbi.ext he; have hc7 := And.intro (he.cell hx0) (he.cell hx1); clear he)
            have HB7 := Aside.mk hb7
            have HK7 := Aside.mk hk7
            go_roundw
            case rel => exact ⟨j + 1, by have := HJ.out; omega, by go_num, HK7.out, HB7.out, ⟨by rw [HEQ.out]; exact HELI.out.ext HE7.out⟩⟩
            case measure => have := HJ.out; simp [intOf]; omega
          · have HEQ : Aside (fitS k ds ns bts l2 (j + 1) = { fitS k ds ns bts l2 j with bits := (fitS k ds ns bts l2 j).bits.set j x }) := ⟨by unfold fitS; rw [fitB_succ bts j, fitB1_ok HXI.out HOX.out]⟩
            go_wp2_with (go_at_call 57; (with_reducible refine (risbit_calls HOX.out).mono ?_); rintro e w7 ⟨rfl, he⟩; have HE7 := Aside.mk he; have hk7 := KZ.ext he hki; have hb7 := hbi.ext he; have hc7 := And.intro (he.cell hx0) (he.cell hx1); clear he)
            have mixed : Tryz.prog.follows Departure.mixedOrders = true := by kernel_rfl
            have hf7 := HF2.out.ext HGI.out HE7.out
            go_region_o
            have HEL9 : Aside (Elm (w.heap.size + 2) ((w7.drew.setCell ⟨g, j * 2, none⟩ (.int .i64 x.f)).setCell ⟨g, j * 2 + 1, none⟩ (.bool x.on)) (⟨z.k, .slice D2 l1 e2, .slice A2 l2 a2, .slice (some ⟨g, 0, none⟩) l3 b2⟩ : Hd) (fitS k ds ns bts l2 (j + 1))) := ⟨by
              have hE := HELI.out.ext (HE7.out.drew)
              have h9 := hE.putB (i := j) (by show j < (fitB _ _ _).length; rw [fitB_len, HBK.out]; exact HJ.out) rfl x
              rw [HEQ.out]
              exact h9⟩
            have HK9 : Aside (KZ w (.int .i64 k) (.slice D nd cd) ((w7.drew.setCell ⟨g, j * 2, none⟩ (.int .i64 x.f)).setCell ⟨g, j * 2 + 1, none⟩ (.bool x.on))) := ⟨(KZ.ext ((Ext.refl w7).drew) hk7).below (Below.setCell (Below.setCell (Below.refl _ _) HNE.out.2.2.1 _) HNE.out.2.2.1 _)⟩
            have HB9 : Aside (B4 ((w7.drew.setCell ⟨g, j * 2, none⟩ (.int .i64 x.f)).setCell ⟨g, j * 2 + 1, none⟩ (.bool x.on)) gb (.int .i64 z.k) (.slice D2 l1 e2) (.slice A2 l2 a2) (.slice (some ⟨g, 0, none⟩) l3 b2)) := ⟨((hb7.ext ((Ext.refl w7).drew)).other HNE.out.1 _).other HNE.out.1 _⟩
            clear hb7 hc7 hk7 hf7 mixed
            go_wp2_with fail
            go_roundw
            case rel => exact ⟨j + 1, by have := HJ.out; omega, by go_num, HK9.out, HB9.out, HEL9⟩
            case measure => have := HJ.out; simp [intOf]; omega
        · have HEQ : Aside (fitS k ds ns bts l2 l3 = fitS k ds ns bts l2 j) := ⟨by
            unfold fitS
            rw [HBK.out, fitB_end bts (j := j) (m := l3) (by rw [HBL.out]; omega)]⟩
          have HB7 := Aside.mk hbi
          have HK7 := Aside.mk hki
          by_cases hlt : j < l3
          · have hp1 : (j : Int) < (l3 : Int) := by omega
            have hp2 : ¬ (j : Int) < (NB : Int) := by omega
            clear hc
            go_wp2_with fail
            go_meet
            exact ⟨HK7.out, HB7.out, ⟨by rw [HEQ.out]; exact HELI.out⟩⟩
          · have hp1 : ¬ (j : Int) < (l3 : Int) := by omega
            clear hc
            go_wp2_with fail
            go_meet
            exact ⟨HK7.out, HB7.out, ⟨by rw [HEQ.out]; exact HELI.out⟩⟩
    case rest =>
      clear hki hbi HELI
      obtain ⟨hki, hbi, HELI⟩ := hcut
      have HK := Aside.mk hki
      go_wp2_with fail
      refine bodyPost_ret (v := .agg #[.int .i64 z.k, .slice D2 l1 e2, .slice A2 l2 a2, .slice B2 l3 b2]) (by simp [results, Tryz.results23, go_sem, hki]) rfl ⟨_, rfl, ?_, ext_set4 HK.out.1.out (Nat.le_succ _) _ _ _ _⟩
      exact (HELI.out.vo.set4 (Nat.lt_succ_self _) _ _ _ _).mono (Nat.le_succ_of_le (Nat.le_succ _))
end Go.Proofs.YtcbaipnphepbeaaGreatDoor
