/- Contracts of package frac: long, natural, fault, isFault, of, times. Contracts of package frac: plus. Contracts of package frac: quotient, Make, Of. Contracts of package frac: size, Of, Make. Contracts of package fluxionref02: Fault, one, Long, Exact, Bound, Ratio, size, Of. Contracts of package frac: IsRat, IsBit, least. Contracts of package frac: IsBit, least, made. Contracts of package fluxionref02: Bound, Ratio, size, Of. Contracts: fluxionref02.Of, digits, Equal; fluxionlaw02.gives, zero, cut. Contract of fluxionlaw02.rat. Contracts of package frac: sum, opposite, and what is computed of two numbers. Contracts of package frac: the closures of Mul and Div. Contracts of package frac: Add, Mul, Div. -/
import Derived.Test.YtcbaipnphepbeaaGreatDoorNc
import Derived.Deep.RegionHeld
import Derived.Test.YtcbaipnphepbeaaGreatDoorNd
namespace Go.Proofs.YtcbaipnphepbeaaGreatDoor
open Go.RowKit


/-- Too long: more than 4096 binary digits. -/
def isLong (a : Nat) : Bool := decide (4096 < blen a)
theorem isLong_false {a : Nat} : isLong a = false ↔ (dig a).length ≤ 128 := by
  unfold isLong
  have h := @blen_le a 4096
  rw [dig_length_iff, show (4294967296 : Nat) = 2 ^ 32 from rfl, ← Nat.pow_mul, show 32 * 128 = 4096 from rfl, ← h]
  constructor
  · intro hh; have := of_decide_eq_false hh; omega
  · intro hh; exact decide_eq_false (by omega)

theorem long_calls {w : World} {u : Value} {a : Nat} (h : RV w u (dig a)) :
    Calls Tryz.prog 105 #[u] w fun e w' => e = .returned (.bool (isLong a)) ∧ Ext w w' := by
  have H := Aside.mk h
  have hd : (512 < (dig a).length → isLong a = true) := by
    intro h5
    cases hh : isLong a
    · have := isLong_false.1 hh; omega
    · rfl
  have hb : decide ((4096 : Int) < (blen a : Int)) = isLong a := by
    unfold isLong
    by_cases hh : 4096 < blen a
    · rw [decide_eq_true hh, decide_eq_true (by omega)]
    · rw [decide_eq_false hh, decide_eq_false (by omega)]
  generalize isLong a = d at *
  clear h
  have HD := Aside.mk hd
  obtain ⟨m, hbl⟩ : ∃ m, blen a = m := ⟨_, rfl⟩
  rw [hbl] at hb
  rcases Nat.lt_or_ge 512 (dig a).length with h5 | h5
  · have hdd : d = true := hd h5
    subst hdd
    have HN := Aside.mk (show ¬ (dig a).length ≤ 512 by omega)
    clear hd hb h5
    go_enter Tryz.func105, Tryz.ntmps105
    go_wp2_with (go_at_call 137; refine (bits_calls H.out).mono ?_; rw [if_neg HN.out]; rintro e w' ⟨rfl, he⟩; have HE := Aside.mk he; clear he)
    go_ret
    exact ⟨rfl, HE.out⟩
  · have HN := Aside.mk h5
    have HB := Aside.mk hbl
    clear hd h5 hbl
    go_enter Tryz.func105, Tryz.ntmps105
    go_wp2_with (go_at_call 137; refine (bits_calls H.out).mono ?_; rw [if_pos HN.out, HB.out]; rintro e w' ⟨rfl, he⟩; have HE := Aside.mk he; clear he)
    go_ret
    exact ⟨rfl, HE.out⟩

theorem isfault_calls {w : World} {f : Int} : Calls Tryz.prog 103 #[.int .i64 f] w fun e w' => e = .returned (.bool (f == 4 || f == 11)) ∧ w = w' := by
  cases h1 : (f == 4)
  · go_enter Tryz.func103, Tryz.ntmps103
    go_wp2
    go_ret
    exact ⟨rfl, rfl⟩
  · go_enter Tryz.func103, Tryz.ntmps103
    go_wp2
    go_ret
    exact ⟨rfl, rfl⟩

theorem fault_calls {w : World} {f : Int} :
    Calls Tryz.prog 115 #[.int .i64 f] w fun e w' => e = .returned (.agg #[.int .i64 f, .bool false, .slice none 0 0, .slice none 0 0]) ∧ Ext w w' := by
  go_enter Tryz.func115, Tryz.ntmps115
  go_wp2
  refine bodyPost_ret (v := .agg #[.int .i64 f, .bool false, .slice none 0 0, .slice none 0 0]) (by simp [results, Tryz.results115, go_sem]) rfl ?_
  exact ⟨rfl, (Ext.refl w).alloc _⟩


/-- What a cell holds. -/
def cellAt (w : World) (p : Addr) : Value := (w.cell? p).getD undef
/-- A cell is there, and may be written. -/
abbrev Fits (w : World) (p : Addr) : Prop := w.cell? p = some (cellAt w p) ∧ w.frozen? p = false
theorem Fits.of {w : World} {p : Addr} {v : Value} (h : w.cell? p = some v) (hf : w.frozen? p = false) : Fits w p := ⟨by rw [cellAt, h]; rfl, hf⟩
theorem Fits.ext {a b : World} (e : Ext a b) {g j : Nat} (h : Fits a ⟨g, j, none⟩) : Fits b ⟨g, j, none⟩ :=
  Fits.of (e.cell h.1) (by rw [e.frees g j (World.block_lt_of_cell? a _ h.1)]; exact h.2)
theorem Fits.set {a : World} {p : Addr} (h : Fits a p) (q : Addr) (v : Value) : Fits (a.setCell q v) p := by
  by_cases e : q = p
  · subst e
    exact Fits.of (World.cell?_setCell_same a q v h.1) (by rw [World.frozen?_setCell]; exact h.2)
  · exact Fits.of ((World.cell?_setCell_other a q p v e).trans h.1) (by rw [World.frozen?_setCell]; exact h.2)

/-- What a region with calls keeps: the world is `w`, grown; a box of two cells in block `w.heap.size`; a result of two cells in the block behind it. -/
abbrev Keep2 (w : World) (x0 x1 : Value) (w' : World) : Prop :=
  Aside (Ext w w') ∧ w'.cell? ⟨w.heap.size, 0, none⟩ = some x0 ∧ w'.cell? ⟨w.heap.size, 1, none⟩ = some x1 ∧ Fits w' ⟨w.heap.size + 1, 0, none⟩ ∧ Fits w' ⟨w.heap.size + 1, 1, none⟩
theorem Keep2.ext {w w1 w2 : World} {x0 x1 : Value} (e : Ext w1 w2) (h : Keep2 w x0 x1 w1) : Keep2 w x0 x1 w2 :=
  ⟨⟨h.1.out.trans e⟩, e.cell h.2.1, e.cell h.2.2.1, h.2.2.2.1.ext e, h.2.2.2.2.ext e⟩
theorem Keep2.set {w w1 : World} {x0 x1 : Value} (h : Keep2 w x0 x1 w1) (j : Nat) (v : Value) : Keep2 w x0 x1 (w1.setCell ⟨w.heap.size + 1, j, none⟩ v) :=
  ⟨⟨h.1.out.set (by show w.heap.size ≤ w.heap.size + 1; omega) v⟩, (World.cell?_setCell_other _ _ _ v (by intro hh; injection hh with hh; omega)).trans h.2.1, (World.cell?_setCell_other _ _ _ v (by intro hh; injection hh with hh; omega)).trans h.2.2.1, h.2.2.2.1.set _ _, h.2.2.2.2.set _ _⟩
theorem Keep2.init (w : World) (x0 x1 z0 z1 : Value) (t t' : TypeId) : Keep2 w x0 x1 (((w.alloc (.cells #[x0, x1] t)).alloc (.cells #[z0, z1] t')).drew) := by
  refine ⟨⟨(((Ext.refl w).alloc _).alloc _).drew⟩, by simp, by simp, Fits.of (v := z0) (by simp) (by simp), Fits.of (v := z1) (by simp) (by simp)⟩


end Go.Proofs.YtcbaipnphepbeaaGreatDoor

namespace Go.Proofs.YtcbaipnphepbeaaGreatDoor
open Go.RowKit

theorem cell_other {w : World} {g j g' j' : Nat} {v u : Value} (h : w.cell? ⟨g, j, none⟩ = some u) (hg : g' ≠ g) : (w.setCell ⟨g', j', none⟩ v).cell? ⟨g, j, none⟩ = some u :=
  (World.cell?_setCell_other _ _ _ v (by intro hh; injection hh with hh; omega)).trans h
theorem cell_old {w : World} {o : Obj} {g j : Nat} {v : Value} (h : w.cell? ⟨g, j, none⟩ = some v) : (w.alloc o).cell? ⟨g, j, none⟩ = some v := ((Ext.refl w).alloc o).cell h
theorem cell_new {w : World} {cs : Array Value} {t : TypeId} {g j : Nat} {v : Value} (hg : g = w.heap.size) (h : cs[j]? = some v) : (w.alloc (.cells cs t)).cell? ⟨g, j, none⟩ = some v := by
  subst hg; rw [World.cell?_alloc_new]; exact h
theorem fits_new {w : World} {cs : Array Value} {t : TypeId} {g j : Nat} {v : Value} (hg : g = w.heap.size) (h : cs[j]? = some v) : Fits (w.alloc (.cells cs t)) ⟨g, j, none⟩ :=
  Fits.of (cell_new hg h) (by subst hg; simp)
theorem cell_same {w : World} {p : Addr} {v u : Value} (h : w.cell? p = some u) : (w.setCell p v).cell? p = some v := World.cell?_setCell_same w p v h
end Go.Proofs.YtcbaipnphepbeaaGreatDoor

namespace Go.Proofs.YtcbaipnphepbeaaGreatDoor
open Go.RowKit

theorem NV.of {w : World} {v : Value} {a : Nat} (h : RV w v (dig a)) (h' : (dig a).length ≤ 512) : NV w v a := ⟨h, h'⟩

/-- A Rat's fields. -/
structure Rq where
  f : Int
  neg : Bool
  num : List Nat
  den : List Nat
deriving DecidableEq
/-- A fault. -/
def fq (f : Int) : Rq := ⟨f, false, [], []⟩
/-- A value that reads as a Rat. -/
def RR (w : World) (v : Value) (q : Rq) : Prop := ∃ x y, v = .agg #[.int .i64 q.f, .bool q.neg, x, y] ∧ RV w x q.num ∧ RV w y q.den
/-- .. the lists of which are the call's own. -/
def RO (b : Nat) (w : World) (v : Value) (q : Rq) : Prop := ∃ x y, v = .agg #[.int .i64 q.f, .bool q.neg, x, y] ∧ OV b w x q.num ∧ OV b w y q.den
theorem RO.rr {b : Nat} {w : World} {v : Value} {q : Rq} (h : RO b w v q) : RR w v q := let ⟨x, y, e, h1, h2⟩ := h; ⟨x, y, e, h1.rv, h2.rv⟩
theorem RO.mono {b b' : Nat} {w : World} {v : Value} {q : Rq} (h : RO b w v q) (hb : b' ≤ b) : RO b' w v q := let ⟨x, y, e, h1, h2⟩ := h; ⟨x, y, e, h1.mono hb, h2.mono hb⟩
theorem RO.ext {b : Nat} {w w' : World} {v : Value} {q : Rq} (h : RO b w v q) (e : Ext w w') : RO b w' v q := let ⟨x, y, e', h1, h2⟩ := h; ⟨x, y, e', h1.ext e, h2.ext e⟩
theorem RO.set {b : Nat} {w : World} {v : Value} {q : Rq} (h : RO b w v q) {p : Addr} (hp : p.block < b) (u : Value) : RO b (w.setCell p u) v q := let ⟨x, y, e', h1, h2⟩ := h; ⟨x, y, e', h1.set hp u, h2.set hp u⟩
theorem RR.ext {w w' : World} {v : Value} {q : Rq} (h : RR w v q) (e : Ext w w') : RR w' v q := let ⟨x, y, e', h1, h2⟩ := h; ⟨x, y, e', h1.ext e, h2.ext e⟩
theorem RO.fq (b : Nat) (w : World) (f : Int) : RO b w (.agg #[.int .i64 f, .bool false, .slice none 0 0, .slice none 0 0]) (fq f) := ⟨_, _, rfl, OV.nil _ _, OV.nil _ _⟩

/-- The number num / den, or a fault. -/
def ratio (neg : Bool) (a b : Nat) : Rq :=
  if b = 0 then fq 11
  else if isLong (a / Nat.gcd a b) || isLong (b / Nat.gcd a b) then fq 4
  else ⟨0, neg && decide (0 < a), dig (a / Nat.gcd a b), dig (b / Nat.gcd a b)⟩

theorem ext_set4 {w w1 : World} {g : Nat} (h : Ext w w1) (hg : w.heap.size ≤ g) (v0 v1 v2 v3 : Value) :
    Ext w ((((w1.setCell ⟨g, 0, none⟩ v0).setCell ⟨g, 1, none⟩ v1).setCell ⟨g, 2, none⟩ v2).setCell ⟨g, 3, none⟩ v3) := (((h.set hg v0).set hg v1).set hg v2).set hg v3
theorem OV.set4 {b : Nat} {w : World} {v : Value} {xs : List Nat} (h : OV b w v xs) {g : Nat} (hg : g < b) (v0 v1 v2 v3 : Value) :
    OV b ((((w.setCell ⟨g, 0, none⟩ v0).setCell ⟨g, 1, none⟩ v1).setCell ⟨g, 2, none⟩ v2).setCell ⟨g, 3, none⟩ v3) v xs := (((h.set hg v0).set hg v1).set hg v2).set hg v3


end Go.Proofs.YtcbaipnphepbeaaGreatDoor

namespace Go.Proofs.YtcbaipnphepbeaaGreatDoor
open Go.RowKit

/-- A result of four cells in block g. -/
abbrev Keep4 (w : World) (g : Nat) (w' : World) : Prop :=
  Aside (Ext w w') ∧ Fits w' ⟨g, 0, none⟩ ∧ Fits w' ⟨g, 1, none⟩ ∧ Fits w' ⟨g, 2, none⟩ ∧ Fits w' ⟨g, 3, none⟩
theorem Keep4.ext {w w1 w2 : World} {g : Nat} (e : Ext w1 w2) (h : Keep4 w g w1) : Keep4 w g w2 :=
  ⟨⟨h.1.out.trans e⟩, h.2.1.ext e, h.2.2.1.ext e, h.2.2.2.1.ext e, h.2.2.2.2.ext e⟩
theorem Keep4.init {w w0 : World} (h : Ext w w0) (z0 z1 z2 z3 : Value) (t : TypeId) : Keep4 w w0.heap.size (w0.alloc (.cells #[z0, z1, z2, z3] t)) :=
  ⟨⟨h.alloc _⟩, fits_new (v := z0) rfl rfl, fits_new (v := z1) rfl rfl, fits_new (v := z2) rfl rfl, fits_new (v := z3) rfl rfl⟩
theorem RO.form {b : Nat} {w : World} {v : Value} {q : Rq} (h : RO b w v q) : ∃ A c B d, v = .agg #[.int .i64 q.f, .bool q.neg, .slice A q.num.length c, .slice B q.den.length d] := by
  obtain ⟨x, y, rfl, h1, h2⟩ := h
  obtain ⟨A, c, rfl, _⟩ := h1.form
  obtain ⟨B, d, rfl, _⟩ := h2.form
  exact ⟨A, c, B, d, rfl⟩
theorem RO.set4 {b : Nat} {w : World} {v : Value} {q : Rq} (h : RO b w v q) {g : Nat} (hg : g < b) (v0 v1 v2 v3 : Value) :
    RO b ((((w.setCell ⟨g, 0, none⟩ v0).setCell ⟨g, 1, none⟩ v1).setCell ⟨g, 2, none⟩ v2).setCell ⟨g, 3, none⟩ v3) v q := (((h.set hg v0).set hg v1).set hg v2).set hg v3



theorem nv64 {a : Nat} (h : a < 18446744073709551616) : (dig a).length ≤ 512 := Nat.le_trans (dig_length_le (k := 2) (by omega)) (by omega)



end Go.Proofs.YtcbaipnphepbeaaGreatDoor

namespace Go.Proofs.YtcbaipnphepbeaaGreatDoor
open Go.RowKit

theorem rfault_calls {w : World} {f : Int} :
    Calls Tryz.prog 119 #[.int .i64 f] w fun e w' => e = .returned (.agg #[.int .i64 f, .bool false, .slice none 0 0, .slice none 0 0]) ∧ Ext w w' := by
  go_enter Tryz.func119, Tryz.ntmps119
  go_wp2
  refine bodyPost_ret (v := .agg #[.int .i64 f, .bool false, .slice none 0 0, .slice none 0 0]) (by simp [results, Tryz.results119, go_sem]) rfl ?_
  exact ⟨rfl, (Ext.refl w).alloc _⟩
theorem dig_one : dig 1 = [1] := by rw [dig_pos (by decide), show (1 : Nat) / 4294967296 = 0 from rfl, dig_zero]
theorem rone_calls {w : World} :
    Calls Tryz.prog 122 #[] w fun e w' => ∃ r, e = .returned r ∧ OV w.heap.size w' r (dig 1) ∧ Ext w w' := by
  have hol := OV.lit w [1] (by simp) (Ds.cons (by decide) Ds.nil)
  simp only [u32s, List.map_cons, List.map_nil, List.length_cons, List.length_nil] at hol
  have HO := Aside.mk hol
  clear hol
  go_enter Tryz.func122, Tryz.ntmps122
  go_wp2
  go_ret
  exact ⟨_, rfl, by rw [dig_one]; exact HO.out, (Ext.refl w).alloc _⟩
theorem rlong_calls {w : World} {u : Value} {a : Nat} {d : Bool} (h : RV w u (dig a)) (hd : isLong a = d) :
    Calls Tryz.prog 153 #[u] w fun e w' => e = .returned (.bool d) ∧ w = w' := by
  obtain ⟨m, hm⟩ : ∃ m, blen a = m := ⟨_, rfl⟩
  have hb : decide ((4096 : Int) < (m : Int)) = d := by
    rw [← hd, ← hm]; unfold isLong
    by_cases hh : 4096 < blen a
    · rw [decide_eq_true hh, decide_eq_true (by omega)]
    · rw [decide_eq_false hh, decide_eq_false (by omega)]
  have H := Aside.mk h
  have HM := Aside.mk hm
  have HB := Aside.mk hb
  clear h hm hd hb
  go_enter Tryz.func153, Tryz.ntmps153
  go_wp2_with (go_at_call 170; with_reducible refine (rbits_calls H.out HM.out).mono ?_; rintro e w' ⟨rfl, rfl⟩)
  go_ret
  exact ⟨by rw [← HB.out]; rfl, rfl⟩

/-- The number num / den, long or not. -/
def exactq (neg : Bool) (a b : Nat) : Rq := if a = 0 then ⟨0, false, [], dig 1⟩ else ⟨0, neg, dig (a / Nat.gcd a b), dig (b / Nat.gcd a b)⟩
theorem RV.first2 {w : World} {v : Value} {X : Nat} (h : RV w v (dig X)) (h0 : 0 < X) : ∃ ad n c x, v = .slice (some ad) (n + 1) c ∧ w.cell? ad = some (.int .u32 ((x : Nat) : Int)) ∧ x = X % 4294967296 ∧ n + 1 ≤ c ∧ (dig X).length = n + 1 := by
  obtain ⟨A, c, rfl, hc, hd, hr⟩ := h
  have hl := dig_length_pos h0
  obtain ⟨ad, rfl, hcell⟩ := hr.at32 0 hl
  have e : ad.add 0 = ad := by simp [Addr.add]
  rw [e, getD_dig, Nat.pow_zero, Nat.div_one] at hcell
  exact ⟨ad, (dig X).length - 1, c, _, by congr 1; omega, hcell, rfl, by omega, by omega⟩

set_option maxRecDepth 10000 in
set_option maxHeartbeats 2000000 in
theorem rexact_calls {w : World} {neg : Bool} {u v : Value} {a b : Nat} (hu : RV w u (dig a)) (hv : RV w v (dig b)) (hla : (dig a).length < 1073741824) (hlb : (dig b).length < 1073741824) (hb : 0 < b) :
    Calls Tryz.prog 135 #[.bool neg, u, v] w fun e w' => ∃ r, e = .returned r ∧ RO w.heap.size w' r (exactq neg a b) ∧ Ext w w' := by
  have HU := Aside.mk hu
  have HV := Aside.mk hv
  have hk0 := Keep4.init (Ext.refl w) (.int .i64 0) (.bool false) (.slice none 0 0) (.slice none 0 0) 83
  rcases Nat.eq_zero_or_pos a with rfl | ha
  · obtain ⟨A, c, rfl, _⟩ := hu
    obtain ⟨B, d, rfl, _⟩ := hv
    have h0 : (dig 0).length = 0 := by rw [dig_zero]; rfl
    have HQ : Aside (exactq neg 0 b = ⟨0, false, [], dig 1⟩) := ⟨by simp [exactq]⟩
    rw [h0, HQ.out]
    clear h0 hla hlb hb
    go_enter Tryz.func135, Tryz.ntmps135
    go_wp2_with (go_at_call 122; with_reducible refine rone_calls.mono ?_; rintro e w1 ⟨r, rfl, hr, he⟩; have hk1 := Keep4.ext he hk0; have HS := Aside.mk (World.block_lt_of_cell? _ _ hk0.2.1.1); have HR := Aside.mk hr; obtain ⟨A1, c1, rfl, _⟩ := hr.form; clear hk0 hr he)
    have HK := Aside.mk hk1
    refine bodyPost_ret (v := .agg #[.int .i64 0, .bool false, .slice none 0 0, .slice A1 (dig 1).length c1]) (by simp [results, Tryz.results135, go_sem, hk1]) rfl ⟨_, rfl, ⟨_, _, rfl, OV.nil _ _, ?_⟩, ext_set4 HK.out.1.out (Nat.le_refl _) _ _ _ _⟩
    exact (HR.out.set4 HS.out _ _ _ _).mono (Nat.le_of_lt HS.out)
  · obtain ⟨au, nu, cu, _, rfl, _, _, hcu, hnu⟩ := hu.first2 ha
    obtain ⟨av, nv, cv, _, rfl, _, _, hcv, hnv⟩ := hv.first2 hb
    have hne : ((nu : Int) + 1 == 0) = false := beq_eq_false_iff_ne.2 (by omega)
    obtain ⟨g, hg⟩ : ∃ g, Nat.gcd a b = g := ⟨_, rfl⟩
    have hgp : 0 < g := by rw [← hg]; exact Nat.gcd_pos_of_pos_left _ ha
    have HG := Aside.mk hg
    have HGP := Aside.mk hgp
    have HQ : Aside (exactq neg a b = ⟨0, neg, dig (a / g), dig (b / g)⟩) := ⟨by unfold exactq; rw [if_neg (by omega), hg]⟩
    have HLB := Aside.mk hlb
    have HLG : Aside ((dig g).length < 1073741824) := ⟨Nat.lt_of_le_of_lt (dig_len_mono (by rw [← hg]; exact Nat.le_of_dvd hb (Nat.gcd_dvd_right _ _))) hlb⟩
    rw [HQ.out]
    clear hla hlb hb ha hg hgp hnu hnv
    rcases Nat.lt_or_ge g 4294967296 with hgB | hgB
    · have hdl : (dig g).length = 1 := by rw [dig_pos (by have := HGP.out; omega), Nat.div_eq_of_lt hgB, dig_zero]; rfl
      have HN0 : Aside (∀ n, (dig g).length = n + 1 → n = 0) := ⟨fun n h => by omega⟩
      rcases Nat.lt_or_ge 1 g with hg1 | hg1
      · have HX1 : Aside (∀ x, x = g % 4294967296 → (1 : Int) < (x : Int)) := ⟨fun x h => by rw [Nat.mod_eq_of_lt hgB] at h; omega⟩
        clear hdl hgB hg1
        go_enter Tryz.func135, Tryz.ntmps135
        go_wp2_with (first | ((go_at_call 99; with_reducible refine (rgcd_calls (HU.out.ext hk0.1.out) (HV.out.ext hk0.1.out) HLB.out HG.out).mono ?_; rintro e w1 ⟨r, rfl, hr, he⟩; have hk1 := Keep4.ext he hk0; have HR1 := Aside.mk hr.rv; obtain ⟨ad, n, c1, x, rfl, hcell, hx, hcn, hdl⟩ := hr.rv.first2 HGP.out; have HX := Aside.mk hx; have HDL := Aside.mk hdl; have HK1E := hk1.1; clear hk0 hr he hx hdl); obtain rfl : n = 0 := HN0.out n HDL.out; have hx1 : (1 : Int) < (x : Int) := HX1.out x HX.out) | (go_at_call 154; with_reducible refine (rdiv_calls (HU.out.ext hk1.1.out) HR1.out HGP.out HLG.out).mono ?_; rintro e w2 ⟨q2, r2, rfl, hq, hr, he⟩; have hk2 := Keep4.ext he hk1; have HQ2 := Aside.mk hq.rv; have HE2 := Aside.mk he; clear hk1 hq hr he) | (go_at_call 154; with_reducible refine (rdiv_calls (HV.out.ext hk2.1.out) (HR1.out.ext HE2.out) HGP.out HLG.out).mono ?_; rintro e w3 ⟨q3, r3, rfl, hq, hr, he⟩; have hk3 := Keep4.ext he hk2; have HQ3 := Aside.mk hq.rv; have HQ2' := Aside.mk (HQ2.out.ext he); clear hk2 hq hr he) | (at_builtin; (refine copy_rv rfl _ _ rfl _ _ (HQ2'.out) rfl rfl ?_; intro v6 w6 h6 e6; have hk6 := Keep4.ext e6 hk3; have HV6 := Aside.mk h6; have HS6 := Aside.mk (World.block_lt_of_cell? _ _ hk3.2.1.1); have HE6 := Aside.mk e6; obtain ⟨A6, c6, rfl, _⟩ := h6.form; clear hk3 h6 e6)) | (at_builtin; (refine copy_rv rfl _ _ rfl _ _ (RV.ext (HQ3.out) HE6.out) rfl rfl ?_; intro v7 w7 h7 e7; have hk7 := Keep4.ext e7 hk6; have HV7 := Aside.mk h7; have HS7 := Aside.mk (World.block_lt_of_cell? _ _ hk6.2.1.1); have HE7 := Aside.mk e7; obtain ⟨A7, c7, rfl, _⟩ := h7.form; clear hk6 h7 e7)))
        have HK := Aside.mk hk7
        refine bodyPost_ret (v := .agg #[.int .i64 0, .bool neg, .slice A6 (dig (a / g)).length c6, .slice A7 (dig (b / g)).length c7]) (by simp [results, Tryz.results135, go_sem, hk7]) rfl ⟨_, rfl, ⟨_, _, rfl, ?_, ?_⟩, ext_set4 HK.out.1.out (Nat.le_refl _) _ _ _ _⟩
        · exact ((HV6.out.ext HE7.out).set4 HS6.out _ _ _ _).mono (Nat.le_of_lt HS6.out)
        · exact (HV7.out.set4 HS7.out _ _ _ _).mono (Nat.le_of_lt HS7.out)
      · obtain rfl : g = 1 := by have := HGP.out; omega
        have HX1 : Aside (∀ x, x = 1 % 4294967296 → x = 1) := ⟨fun x h => by rw [h]⟩
        rw [Nat.div_one, Nat.div_one]
        clear hdl hgB hg1
        go_enter Tryz.func135, Tryz.ntmps135
        go_wp2_with (first | ((go_at_call 99; with_reducible refine (rgcd_calls (HU.out.ext hk0.1.out) (HV.out.ext hk0.1.out) HLB.out HG.out).mono ?_; rintro e w1 ⟨r, rfl, hr, he⟩; have hk1 := Keep4.ext he hk0; have HR1 := Aside.mk hr.rv; obtain ⟨ad, n, c1, x, rfl, hcell, hx, hcn, hdl⟩ := hr.rv.first2 HGP.out; have HX := Aside.mk hx; have HDL := Aside.mk hdl; have HK1E := hk1.1; clear hk0 hr he hx hdl); obtain rfl : n = 0 := HN0.out n HDL.out; obtain rfl : x = 1 := HX1.out x HX.out) | (at_builtin; (refine copy_rv rfl _ _ rfl _ _ (HU.out.ext HK1E.out) rfl rfl ?_; intro v6 w6 h6 e6; have hk6 := Keep4.ext e6 hk1; have HV6 := Aside.mk h6; have HS6 := Aside.mk (World.block_lt_of_cell? _ _ hk1.2.1.1); have HE6 := Aside.mk e6; obtain ⟨A6, c6, rfl, _⟩ := h6.form; clear hk1 h6 e6)) | (at_builtin; (refine copy_rv rfl _ _ rfl _ _ (RV.ext (HV.out.ext HK1E.out) HE6.out) rfl rfl ?_; intro v7 w7 h7 e7; have hk7 := Keep4.ext e7 hk6; have HV7 := Aside.mk h7; have HS7 := Aside.mk (World.block_lt_of_cell? _ _ hk6.2.1.1); have HE7 := Aside.mk e7; obtain ⟨A7, c7, rfl, _⟩ := h7.form; clear hk6 h7 e7)))
        have HK := Aside.mk hk7
        refine bodyPost_ret (v := .agg #[.int .i64 0, .bool neg, .slice A6 (dig (a)).length c6, .slice A7 (dig (b)).length c7]) (by simp [results, Tryz.results135, go_sem, hk7]) rfl ⟨_, rfl, ⟨_, _, rfl, ?_, ?_⟩, ext_set4 HK.out.1.out (Nat.le_refl _) _ _ _ _⟩
        · exact ((HV6.out.ext HE7.out).set4 HS6.out _ _ _ _).mono (Nat.le_of_lt HS6.out)
        · exact (HV7.out.set4 HS7.out _ _ _ _).mono (Nat.le_of_lt HS7.out)
    · have HN0 : Aside (∀ n, (dig g).length = n + 1 → (1 : Int) < (n : Int) + 1) := ⟨fun n h => by
        have h1 := lt_of_dig_length (Nat.le_of_eq h)
        rcases Nat.eq_zero_or_pos n with rfl | h2
        · rw [Nat.zero_add, Nat.pow_one] at h1; omega
        · omega⟩
      clear hgB
      go_enter Tryz.func135, Tryz.ntmps135
      go_wp2_with (first | ((go_at_call 99; with_reducible refine (rgcd_calls (HU.out.ext hk0.1.out) (HV.out.ext hk0.1.out) HLB.out HG.out).mono ?_; rintro e w1 ⟨r, rfl, hr, he⟩; have hk1 := Keep4.ext he hk0; have HR1 := Aside.mk hr.rv; obtain ⟨ad, n, c1, x, rfl, hcell, hx, hcn, hdl⟩ := hr.rv.first2 HGP.out; have HX := Aside.mk hx; have HDL := Aside.mk hdl; have HK1E := hk1.1; clear hk0 hr he hx hdl); have hn1 : (1 : Int) < (n : Int) + 1 := HN0.out n HDL.out) | (go_at_call 154; with_reducible refine (rdiv_calls (HU.out.ext hk1.1.out) HR1.out HGP.out HLG.out).mono ?_; rintro e w2 ⟨q2, r2, rfl, hq, hr, he⟩; have hk2 := Keep4.ext he hk1; have HQ2 := Aside.mk hq.rv; have HE2 := Aside.mk he; clear hk1 hq hr he) | (go_at_call 154; with_reducible refine (rdiv_calls (HV.out.ext hk2.1.out) (HR1.out.ext HE2.out) HGP.out HLG.out).mono ?_; rintro e w3 ⟨q3, r3, rfl, hq, hr, he⟩; have hk3 := Keep4.ext he hk2; have HQ3 := Aside.mk hq.rv; have HQ2' := Aside.mk (HQ2.out.ext he); clear hk2 hq hr he) | (at_builtin; (refine copy_rv rfl _ _ rfl _ _ (HQ2'.out) rfl rfl ?_; intro v6 w6 h6 e6; have hk6 := Keep4.ext e6 hk3; have HV6 := Aside.mk h6; have HS6 := Aside.mk (World.block_lt_of_cell? _ _ hk3.2.1.1); have HE6 := Aside.mk e6; obtain ⟨A6, c6, rfl, _⟩ := h6.form; clear hk3 h6 e6)) | (at_builtin; (refine copy_rv rfl _ _ rfl _ _ (RV.ext (HQ3.out) HE6.out) rfl rfl ?_; intro v7 w7 h7 e7; have hk7 := Keep4.ext e7 hk6; have HV7 := Aside.mk h7; have HS7 := Aside.mk (World.block_lt_of_cell? _ _ hk6.2.1.1); have HE7 := Aside.mk e7; obtain ⟨A7, c7, rfl, _⟩ := h7.form; clear hk6 h7 e7)))
      have HK := Aside.mk hk7
      refine bodyPost_ret (v := .agg #[.int .i64 0, .bool neg, .slice A6 (dig (a / g)).length c6, .slice A7 (dig (b / g)).length c7]) (by simp [results, Tryz.results135, go_sem, hk7]) rfl ⟨_, rfl, ⟨_, _, rfl, ?_, ?_⟩, ext_set4 HK.out.1.out (Nat.le_refl _) _ _ _ _⟩
      · exact ((HV6.out.ext HE7.out).set4 HS6.out _ _ _ _).mono (Nat.le_of_lt HS6.out)
      · exact (HV7.out.set4 HS7.out _ _ _ _).mono (Nat.le_of_lt HS7.out)
end Go.Proofs.YtcbaipnphepbeaaGreatDoor

namespace Go.Proofs.YtcbaipnphepbeaaGreatDoor
open Go.RowKit

/-- Is a Rat valid? -/
def okq (q : Rq) : Bool :=
  if q.f = 0 then decide (natErr q.num = 0) && decide (natErr q.den = 0) && !isLong (val q.num) && !isLong (val q.den) && !(decide (q.den.length = 0)) && !(q.neg && decide (q.num.length = 0)) && (Nat.gcd (val q.num) (val q.den) == 1)
  else (q.f == 4 || q.f == 11) && !q.neg && decide (q.num.length + q.den.length = 0)

/-- A box of four cells. -/
abbrev KeepB (w : World) (x0 x1 x2 x3 : Value) (w' : World) : Prop :=
  Aside (Ext w w') ∧ w'.cell? ⟨w.heap.size, 0, none⟩ = some x0 ∧ w'.cell? ⟨w.heap.size, 1, none⟩ = some x1 ∧ w'.cell? ⟨w.heap.size, 2, none⟩ = some x2 ∧ w'.cell? ⟨w.heap.size, 3, none⟩ = some x3
theorem KeepB.ext {w w1 w2 : World} {x0 x1 x2 x3 : Value} (e : Ext w1 w2) (h : KeepB w x0 x1 x2 x3 w1) : KeepB w x0 x1 x2 x3 w2 :=
  ⟨⟨h.1.out.trans e⟩, e.cell h.2.1, e.cell h.2.2.1, e.cell h.2.2.2.1, e.cell h.2.2.2.2⟩
theorem KeepB.init (w : World) (x0 x1 x2 x3 : Value) (t : TypeId) : KeepB w x0 x1 x2 x3 (w.alloc (.cells #[x0, x1, x2, x3] t)) :=
  ⟨⟨(Ext.refl w).alloc _⟩, cell_new rfl rfl, cell_new rfl rfl, cell_new rfl rfl, cell_new rfl rfl⟩

theorem isnat_b {w : World} {v : Value} {xs : List Nat} {b : Bool} (h : RV w v xs) (hb : decide (natErr xs = 0) = b) :
    Calls Tryz.prog 104 #[v] w fun e w' => e = .returned (.bool b) ∧ Ext w w' := by subst hb; exact isnat_calls h
theorem long_b {w : World} {u : Value} {xs : List Nat} {b : Bool} (h : RV w u xs) (hn : natErr xs = 0) (hb : isLong (val xs) = b) :
    Calls Tryz.prog 105 #[u] w fun e w' => e = .returned (.bool b) ∧ Ext w w' := by
  subst hb
  have hx := (natErr_zero h.dg.2 hn).2
  rw [hx] at h
  exact long_calls h
theorem gcd_b {w : World} {u v : Value} {xs ys : List Nat} {g : Nat} (hu : RV w u xs) (hv : RV w v ys) (hx : natErr xs = 0) (hy : natErr ys = 0) (hg : Nat.gcd (val xs) (val ys) = g) :
    Calls Tryz.prog 106 #[u, v] w fun e w' => ∃ r, e = .returned (.tuple #[r, .int .i64 0]) ∧ OV w.heap.size w' r (dig g) ∧ Ext w w' := by
  subst hg
  obtain ⟨h1, h2⟩ := natErr_zero hu.dg.2 hx
  obtain ⟨k1, k2⟩ := natErr_zero hv.dg.2 hy
  rw [h2] at hu h1
  rw [k2] at hv k1
  exact Gcd_calls ⟨hu, h1⟩ ⟨hv, k1⟩

set_option maxHeartbeats 1000000 in
theorem israt_calls {w : World} {v : Value} {q : Rq} (h : RR w v q) :
    Calls Tryz.prog 61 #[v] w fun e w' => e = .returned (.bool (okq q)) ∧ Ext w w' := by
  obtain ⟨x, y, rfl, hx, hy⟩ := h
  obtain ⟨f, neg, xs, ys⟩ := q
  have HX := Aside.mk hx
  have HY := Aside.mk hy
  obtain ⟨A, c, rfl, _, hdx, _⟩ := hx
  obtain ⟨B, d, rfl, _, hdy, _⟩ := hy
  have hlx : xs.length ≤ 1073741824 := hdx.1
  have hly : ys.length ≤ 1073741824 := hdy.1
  clear hdx hdy
  dsimp only at *
  have hk0 := KeepB.init w (.int .i64 f) (.bool neg) (.slice A xs.length c) (.slice B ys.length d) 83
  by_cases hf : f = 0
  · subst hf
    have HS : Aside (okq ⟨0, neg, xs, ys⟩ = (decide (natErr xs = 0) && decide (natErr ys = 0) && !isLong (val xs) && !isLong (val ys) && !(decide (ys.length = 0)) && !(neg && decide (xs.length = 0)) && (Nat.gcd (val xs) (val ys) == 1))) := ⟨by simp [okq]⟩
    rw [HS.out]
    clear HS
    obtain ⟨g, hg⟩ : ∃ g, Nat.gcd (val xs) (val ys) = g := ⟨_, rfl⟩
    rw [hg]
    have HG := Aside.mk hg
    clear hg
    obtain ⟨b1, hb1⟩ : ∃ b, decide (natErr xs = 0) = b := ⟨_, rfl⟩
    obtain ⟨b2, hb2⟩ : ∃ b, decide (natErr ys = 0) = b := ⟨_, rfl⟩
    obtain ⟨l1, hl1⟩ : ∃ b, isLong (val xs) = b := ⟨_, rfl⟩
    obtain ⟨l2, hl2⟩ : ∃ b, isLong (val ys) = b := ⟨_, rfl⟩
    rw [hb1, hb2, hl1, hl2]
    have HB1 := Aside.mk hb1
    have HB2 := Aside.mk hb2
    have HL1 := Aside.mk hl1
    have HL2 := Aside.mk hl2
    clear hb1 hb2 hl1 hl2
    generalize hxn : xs.length = nx at *
    generalize hyn : ys.length = ny at *
    have HXN := Aside.mk hxn
    have HYN := Aside.mk hyn
    clear hxn hyn
    cases b1
    · go_enter Tryz.func61, Tryz.ntmps61
      go_wp2_with (go_at_call 104; with_reducible refine (isnat_b (HX.out.ext hk0.1.out) HB1.out).mono ?_; rintro e w1 ⟨rfl, he⟩; have hk1 := KeepB.ext he hk0; clear hk0 he)
      go_ret
      exact ⟨by simp, hk1.1.out⟩
    have HN1 : Aside (natErr xs = 0) := ⟨of_decide_eq_true HB1.out⟩
    cases b2
    · go_enter Tryz.func61, Tryz.ntmps61
      go_wp2_with (first | (go_at_call 104; with_reducible refine (isnat_b (HX.out.ext hk0.1.out) HB1.out).mono ?_; rintro e w1 ⟨rfl, he⟩; have hk1 := KeepB.ext he hk0; clear hk0 he) | (go_at_call 104; with_reducible refine (isnat_b (HY.out.ext hk1.1.out) HB2.out).mono ?_; rintro e w2 ⟨rfl, he⟩; have hk2 := KeepB.ext he hk1; clear hk1 he))
      go_ret
      exact ⟨by simp, hk2.1.out⟩
    have HN2 : Aside (natErr ys = 0) := ⟨of_decide_eq_true HB2.out⟩
    cases l1
    rotate_left
    · go_enter Tryz.func61, Tryz.ntmps61
      go_wp2_with (first | (go_at_call 104; with_reducible refine (isnat_b (HX.out.ext hk0.1.out) HB1.out).mono ?_; rintro e w1 ⟨rfl, he⟩; have hk1 := KeepB.ext he hk0; clear hk0 he) | (go_at_call 104; with_reducible refine (isnat_b (HY.out.ext hk1.1.out) HB2.out).mono ?_; rintro e w2 ⟨rfl, he⟩; have hk2 := KeepB.ext he hk1; clear hk1 he) | (go_at_call 105; with_reducible refine (long_b (HX.out.ext hk2.1.out) HN1.out HL1.out).mono ?_; rintro e w3 ⟨rfl, he⟩; have hk3 := KeepB.ext he hk2; clear hk2 he))
      go_ret
      exact ⟨by simp, hk3.1.out⟩
    cases l2
    rotate_left
    · go_enter Tryz.func61, Tryz.ntmps61
      go_wp2_with (first | (go_at_call 104; with_reducible refine (isnat_b (HX.out.ext hk0.1.out) HB1.out).mono ?_; rintro e w1 ⟨rfl, he⟩; have hk1 := KeepB.ext he hk0; clear hk0 he) | (go_at_call 104; with_reducible refine (isnat_b (HY.out.ext hk1.1.out) HB2.out).mono ?_; rintro e w2 ⟨rfl, he⟩; have hk2 := KeepB.ext he hk1; clear hk1 he) | (go_at_call 105; with_reducible refine (long_b (HX.out.ext hk2.1.out) HN1.out HL1.out).mono ?_; rintro e w3 ⟨rfl, he⟩; have hk3 := KeepB.ext he hk2; clear hk2 he) | (go_at_call 105; with_reducible refine (long_b (HY.out.ext hk3.1.out) HN2.out HL2.out).mono ?_; rintro e w4 ⟨rfl, he⟩; have hk4 := KeepB.ext he hk3; clear hk3 he))
      go_ret
      exact ⟨by simp, hk4.1.out⟩
    rcases Nat.eq_zero_or_pos ny with rfl | hy0
    · go_enter Tryz.func61, Tryz.ntmps61
      go_wp2_with (first | (go_at_call 104; with_reducible refine (isnat_b (HX.out.ext hk0.1.out) HB1.out).mono ?_; rintro e w1 ⟨rfl, he⟩; have hk1 := KeepB.ext he hk0; clear hk0 he) | (go_at_call 104; with_reducible refine (isnat_b (HY.out.ext hk1.1.out) HB2.out).mono ?_; rintro e w2 ⟨rfl, he⟩; have hk2 := KeepB.ext he hk1; clear hk1 he) | (go_at_call 105; with_reducible refine (long_b (HX.out.ext hk2.1.out) HN1.out HL1.out).mono ?_; rintro e w3 ⟨rfl, he⟩; have hk3 := KeepB.ext he hk2; clear hk2 he) | (go_at_call 105; with_reducible refine (long_b (HY.out.ext hk3.1.out) HN2.out HL2.out).mono ?_; rintro e w4 ⟨rfl, he⟩; have hk4 := KeepB.ext he hk3; clear hk3 he))
      go_ret
      exact ⟨by simp, hk4.1.out⟩
    have hyz : ((ny : Int) == 0) = false := by simp; omega
    have hyd : decide (ny = 0) = false := by simp; omega
    rw [hyd]
    clear hyd
    have hx0 : neg = true → nx = 0 → decide (nx = 0) = true := fun _ h => by simp [h]
    by_cases hbad : neg = true ∧ nx = 0
    · obtain ⟨rfl, rfl⟩ := hbad
      go_enter Tryz.func61, Tryz.ntmps61
      go_wp2_with (first | (go_at_call 104; with_reducible refine (isnat_b (HX.out.ext hk0.1.out) HB1.out).mono ?_; rintro e w1 ⟨rfl, he⟩; have hk1 := KeepB.ext he hk0; clear hk0 he) | (go_at_call 104; with_reducible refine (isnat_b (HY.out.ext hk1.1.out) HB2.out).mono ?_; rintro e w2 ⟨rfl, he⟩; have hk2 := KeepB.ext he hk1; clear hk1 he) | (go_at_call 105; with_reducible refine (long_b (HX.out.ext hk2.1.out) HN1.out HL1.out).mono ?_; rintro e w3 ⟨rfl, he⟩; have hk3 := KeepB.ext he hk2; clear hk2 he) | (go_at_call 105; with_reducible refine (long_b (HY.out.ext hk3.1.out) HN2.out HL2.out).mono ?_; rintro e w4 ⟨rfl, he⟩; have hk4 := KeepB.ext he hk3; clear hk3 he))
      go_ret
      exact ⟨by simp, hk4.1.out⟩
    have hnn : (neg && decide (nx = 0)) = false := by
      cases neg
      · rfl
      · simp at hbad; simp [hbad]
    rw [hnn]
    have hxz : neg = true → ((nx : Int) == 0) = false := by intro h; subst h; simp at hbad; simp [hbad]
    clear hnn hbad hx0
    obtain ⟨n5, hn5⟩ : ∃ n, (dig g).length = n := ⟨_, rfl⟩
    have HDG : Aside (Dg (dig g)) := ⟨by
      have h1 := (HX.out).dg.1
      refine ⟨?_, ds_dig g⟩
      rw [← HG.out]
      rcases Nat.eq_zero_or_pos (val xs) with h0 | h0
      · rw [h0, Nat.gcd_zero_left]
        have h2 := HY.out.dg
        rw [(natErr_zero h2.2 HN2.out).2] at h2; simpa [val_dig] using h2.1
      · have h2 := HX.out.dg
        rw [(natErr_zero h2.2 HN1.out).2] at h2
        exact Nat.le_trans (dig_len_mono (Nat.gcd_le_left _ h0)) (by simpa [val_dig] using h2.1)⟩
    have hn5b : n5 ≤ 1073741824 := by rw [← hn5]; exact HDG.out.1
    have HN5 := Aside.mk hn5
    by_cases hone : n5 = 1
    · subst hone
      obtain ⟨t, ht⟩ : ∃ t, (dig g).getD 0 0 = t := ⟨_, rfl⟩
      have hgt : g = t := by
        have h1 := val_dig g
        have : dig g = [t] := by
          rw [List.length_eq_one_iff] at hn5
          obtain ⟨z, hz⟩ := hn5
          rw [hz] at ht ⊢
          simp at ht
          rw [ht]
        rw [this] at h1
        simp [val] at h1
        exact h1.symm
      have HT := Aside.mk ht
      have hti : ((t : Int) == 1) = (t == 1) := by
        by_cases h : t = 1
        · subst h; rfl
        · rw [show (t == 1) = false from by simp [h]]; simp; omega
      rw [hgt]
      clear hn5 ht hgt
      cases neg
      · go_enter Tryz.func61, Tryz.ntmps61
        go_wp2_with (first | (go_at_call 104; with_reducible refine (isnat_b (HX.out.ext hk0.1.out) HB1.out).mono ?_; rintro e w1 ⟨rfl, he⟩; have hk1 := KeepB.ext he hk0; clear hk0 he) | (go_at_call 104; with_reducible refine (isnat_b (HY.out.ext hk1.1.out) HB2.out).mono ?_; rintro e w2 ⟨rfl, he⟩; have hk2 := KeepB.ext he hk1; clear hk1 he) | (go_at_call 105; with_reducible refine (long_b (HX.out.ext hk2.1.out) HN1.out HL1.out).mono ?_; rintro e w3 ⟨rfl, he⟩; have hk3 := KeepB.ext he hk2; clear hk2 he) | (go_at_call 105; with_reducible refine (long_b (HY.out.ext hk3.1.out) HN2.out HL2.out).mono ?_; rintro e w4 ⟨rfl, he⟩; have hk4 := KeepB.ext he hk3; clear hk3 he) | (go_at_call 106; with_reducible refine (gcd_b (HX.out.ext hk4.1.out) (HY.out.ext hk4.1.out) HN1.out HN2.out HG.out).mono ?_; rintro e w5 ⟨r, rfl, hr, he⟩; have hk5 := KeepB.ext he hk4; obtain ⟨g5, c5, rfl, _, _, hc5, _⟩ := hr.row (by rw [HN5.out]; exact Nat.one_pos); rw [HN5.out] at hr ⊢; have hcell := hr.cell 0 (by rw [HN5.out]; exact Nat.one_pos); rw [HT.out] at hcell; clear hk4 hr he))
        go_ret
        exact ⟨by simp, hk5.1.out⟩
      · have hxz' := hxz rfl
        go_enter Tryz.func61, Tryz.ntmps61
        go_wp2_with (first | (go_at_call 104; with_reducible refine (isnat_b (HX.out.ext hk0.1.out) HB1.out).mono ?_; rintro e w1 ⟨rfl, he⟩; have hk1 := KeepB.ext he hk0; clear hk0 he) | (go_at_call 104; with_reducible refine (isnat_b (HY.out.ext hk1.1.out) HB2.out).mono ?_; rintro e w2 ⟨rfl, he⟩; have hk2 := KeepB.ext he hk1; clear hk1 he) | (go_at_call 105; with_reducible refine (long_b (HX.out.ext hk2.1.out) HN1.out HL1.out).mono ?_; rintro e w3 ⟨rfl, he⟩; have hk3 := KeepB.ext he hk2; clear hk2 he) | (go_at_call 105; with_reducible refine (long_b (HY.out.ext hk3.1.out) HN2.out HL2.out).mono ?_; rintro e w4 ⟨rfl, he⟩; have hk4 := KeepB.ext he hk3; clear hk3 he) | (go_at_call 106; with_reducible refine (gcd_b (HX.out.ext hk4.1.out) (HY.out.ext hk4.1.out) HN1.out HN2.out HG.out).mono ?_; rintro e w5 ⟨r, rfl, hr, he⟩; have hk5 := KeepB.ext he hk4; obtain ⟨g5, c5, rfl, _, _, hc5, _⟩ := hr.row (by rw [HN5.out]; exact Nat.one_pos); rw [HN5.out] at hr ⊢; have hcell := hr.cell 0 (by rw [HN5.out]; exact Nat.one_pos); rw [HT.out] at hcell; clear hk4 hr he))
        go_ret
        exact ⟨by simp, hk5.1.out⟩
    · have hn51 : ((n5 : Int) == 1) = false := by simp; omega
      have hg1 : (g == 1) = false := by
        have : g ≠ 1 := by
          intro h; subst h
          apply hone
          rw [← hn5, dig_pos (by omega), show (1 : Nat) / 4294967296 = 0 from rfl, dig_zero]; rfl
        simp [this]
      rw [hg1]
      clear hn5 hone hg1
      cases neg
      · go_enter Tryz.func61, Tryz.ntmps61
        go_wp2_with (first | (go_at_call 104; with_reducible refine (isnat_b (HX.out.ext hk0.1.out) HB1.out).mono ?_; rintro e w1 ⟨rfl, he⟩; have hk1 := KeepB.ext he hk0; clear hk0 he) | (go_at_call 104; with_reducible refine (isnat_b (HY.out.ext hk1.1.out) HB2.out).mono ?_; rintro e w2 ⟨rfl, he⟩; have hk2 := KeepB.ext he hk1; clear hk1 he) | (go_at_call 105; with_reducible refine (long_b (HX.out.ext hk2.1.out) HN1.out HL1.out).mono ?_; rintro e w3 ⟨rfl, he⟩; have hk3 := KeepB.ext he hk2; clear hk2 he) | (go_at_call 105; with_reducible refine (long_b (HY.out.ext hk3.1.out) HN2.out HL2.out).mono ?_; rintro e w4 ⟨rfl, he⟩; have hk4 := KeepB.ext he hk3; clear hk3 he) | (go_at_call 106; with_reducible refine (gcd_b (HX.out.ext hk4.1.out) (HY.out.ext hk4.1.out) HN1.out HN2.out HG.out).mono ?_; rintro e w5 ⟨r, rfl, hr, he⟩; have hk5 := KeepB.ext he hk4; have HR := Aside.mk hr; obtain ⟨A5, c5, rfl, _⟩ := hr.form; rw [HN5.out] at HR ⊢; clear hk4 hr he))
        go_ret
        exact ⟨by simp, hk5.1.out⟩
      · have hxz' := hxz rfl
        go_enter Tryz.func61, Tryz.ntmps61
        go_wp2_with (first | (go_at_call 104; with_reducible refine (isnat_b (HX.out.ext hk0.1.out) HB1.out).mono ?_; rintro e w1 ⟨rfl, he⟩; have hk1 := KeepB.ext he hk0; clear hk0 he) | (go_at_call 104; with_reducible refine (isnat_b (HY.out.ext hk1.1.out) HB2.out).mono ?_; rintro e w2 ⟨rfl, he⟩; have hk2 := KeepB.ext he hk1; clear hk1 he) | (go_at_call 105; with_reducible refine (long_b (HX.out.ext hk2.1.out) HN1.out HL1.out).mono ?_; rintro e w3 ⟨rfl, he⟩; have hk3 := KeepB.ext he hk2; clear hk2 he) | (go_at_call 105; with_reducible refine (long_b (HY.out.ext hk3.1.out) HN2.out HL2.out).mono ?_; rintro e w4 ⟨rfl, he⟩; have hk4 := KeepB.ext he hk3; clear hk3 he) | (go_at_call 106; with_reducible refine (gcd_b (HX.out.ext hk4.1.out) (HY.out.ext hk4.1.out) HN1.out HN2.out HG.out).mono ?_; rintro e w5 ⟨r, rfl, hr, he⟩; have hk5 := KeepB.ext he hk4; have HR := Aside.mk hr; obtain ⟨A5, c5, rfl, _⟩ := hr.form; rw [HN5.out] at HR ⊢; clear hk4 hr he))
        go_ret
        exact ⟨by simp, hk5.1.out⟩
  · have hf0 : (f == 0) = false := by simp [hf]
    have HS : Aside (okq ⟨f, neg, xs, ys⟩ = ((f == 4 || f == 11) && !neg && decide (xs.length + ys.length = 0))) := ⟨by simp [okq, hf]⟩
    have HK := Aside.mk hk0.1.out
    have hsum : (((xs.length : Int) + (ys.length : Int)) == 0) = decide (xs.length + ys.length = 0) := by
      by_cases h0 : xs.length + ys.length = 0
      · rw [decide_eq_true h0]; simp; omega
      · rw [decide_eq_false h0]; simp; omega
    generalize hdd : decide (xs.length + ys.length = 0) = dd at *
    rw [HS.out]
    clear hdd HS
    generalize hxn : xs.length = nx at *
    generalize hyn : ys.length = ny at *
    have HXN := Aside.mk hxn
    have HYN := Aside.mk hyn
    clear hf hxn hyn
    cases hif : (f == 4 || f == 11)
    · go_enter Tryz.func61, Tryz.ntmps61
      go_wp2_with (go_at_call 103; refine isfault_calls.mono ?_; rw [hif]; rintro e w1 ⟨rfl, rfl⟩)
      go_ret
      exact ⟨rfl, HK.out⟩
    · cases neg
      · go_enter Tryz.func61, Tryz.ntmps61
        go_wp2_with (go_at_call 103; refine isfault_calls.mono ?_; rw [hif]; rintro e w1 ⟨rfl, rfl⟩)
        go_ret
        exact ⟨by simp, HK.out⟩
      · go_enter Tryz.func61, Tryz.ntmps61
        go_wp2_with (go_at_call 103; refine isfault_calls.mono ?_; rw [hif]; rintro e w1 ⟨rfl, rfl⟩)
        go_ret
        exact ⟨rfl, HK.out⟩
end Go.Proofs.YtcbaipnphepbeaaGreatDoor

namespace Go.Proofs.YtcbaipnphepbeaaGreatDoor
open Go.RowKit

/-- Is a bit valid? -/
def okb (f : Int) (on : Bool) : Bool := f == 0 || (f == 4 || f == 11) && !on

theorem isbit_calls {w : World} {f : Int} {on : Bool} :
    Calls Tryz.prog 64 #[.agg #[.int .i64 f, .bool on]] w fun e w' => e = .returned (.bool (okb f on)) ∧ Ext w w' := by
  unfold okb
  cases h0 : (f == 0)
  · cases hif : (f == 4 || f == 11)
    · go_enter Tryz.func64, Tryz.ntmps64
      go_wp2_with (go_at_call 103; refine isfault_calls.mono ?_; rw [hif]; rintro e w1 ⟨rfl, rfl⟩)
      go_ret
      exact ⟨by simp, (Ext.refl w).alloc _⟩
    · cases on
      · go_enter Tryz.func64, Tryz.ntmps64
        go_wp2_with (go_at_call 103; refine isfault_calls.mono ?_; rw [hif]; rintro e w1 ⟨rfl, rfl⟩)
        go_ret
        exact ⟨by simp, (Ext.refl w).alloc _⟩
      · go_enter Tryz.func64, Tryz.ntmps64
        go_wp2_with (go_at_call 103; refine isfault_calls.mono ?_; rw [hif]; rintro e w1 ⟨rfl, rfl⟩)
        go_ret
        exact ⟨by simp, (Ext.refl w).alloc _⟩
  · go_enter Tryz.func64, Tryz.ntmps64
    go_wp2
    go_ret
    exact ⟨by simp, (Ext.refl w).alloc _⟩

theorem RR.form {w : World} {v : Value} {q : Rq} (h : RR w v q) : ∃ A c B d, v = .agg #[.int .i64 q.f, .bool q.neg, .slice A q.num.length c, .slice B q.den.length d] := by
  obtain ⟨x, y, rfl, ⟨A, c, rfl, _⟩, ⟨B, d, rfl, _⟩⟩ := h
  exact ⟨A, c, B, d, rfl⟩

theorem israt_b {w : World} {v : Value} {q : Rq} {b : Bool} (h : RR w v q) (hb : okq q = b) :
    Calls Tryz.prog 61 #[v] w fun e w' => e = .returned (.bool b) ∧ Ext w w' := by subst hb; exact israt_calls h


end Go.Proofs.YtcbaipnphepbeaaGreatDoor

namespace Go.Proofs.YtcbaipnphepbeaaGreatDoor
open Go.RowKit

abbrev KeepBR (w : World) (x0 x1 x2 x3 : Value) (w' : World) : Prop :=
  Aside (Ext w w') ∧ (w'.cell? ⟨w.heap.size, 0, none⟩ = some x0 ∧ w'.cell? ⟨w.heap.size, 1, none⟩ = some x1 ∧ w'.cell? ⟨w.heap.size, 2, none⟩ = some x2 ∧ w'.cell? ⟨w.heap.size, 3, none⟩ = some x3) ∧
    (Fits w' ⟨w.heap.size + 1, 0, none⟩ ∧ Fits w' ⟨w.heap.size + 1, 1, none⟩ ∧ Fits w' ⟨w.heap.size + 1, 2, none⟩ ∧ Fits w' ⟨w.heap.size + 1, 3, none⟩)
theorem KeepBR.ext {w w1 w2 : World} {x0 x1 x2 x3 : Value} (e : Ext w1 w2) (h : KeepBR w x0 x1 x2 x3 w1) : KeepBR w x0 x1 x2 x3 w2 :=
  ⟨⟨h.1.out.trans e⟩, ⟨e.cell h.2.1.1, e.cell h.2.1.2.1, e.cell h.2.1.2.2.1, e.cell h.2.1.2.2.2⟩, ⟨h.2.2.1.ext e, h.2.2.2.1.ext e, h.2.2.2.2.1.ext e, h.2.2.2.2.2.ext e⟩⟩
theorem KeepBR.init (w : World) (x0 x1 x2 x3 z0 z1 z2 z3 : Value) (t t' : TypeId) : KeepBR w x0 x1 x2 x3 ((w.alloc (.cells #[x0, x1, x2, x3] t)).alloc (.cells #[z0, z1, z2, z3] t')) :=
  ⟨⟨((Ext.refl w).alloc _).alloc _⟩, ⟨cell_old (cell_new rfl rfl), cell_old (cell_new rfl rfl), cell_old (cell_new rfl rfl), cell_old (cell_new rfl rfl)⟩,
    ⟨fits_new (v := z0) (by simp) rfl, fits_new (v := z1) (by simp) rfl, fits_new (v := z2) (by simp) rfl, fits_new (v := z3) (by simp) rfl⟩⟩
set_option maxRecDepth 10000 in
set_option maxHeartbeats 1000000 in
theorem rbound_calls {w : World} {neg : Bool} {x y : Value} {a b : Nat} {base : Nat} {q : Rq} (hx : OV base w x (dig a)) (hy : OV base w y (dig b)) (hb : base ≤ w.heap.size) (hq : (if isLong a || isLong b then fq 4 else ⟨0, neg, dig a, dig b⟩) = q) :
    Calls Tryz.prog 134 #[.agg #[.int .i64 0, .bool neg, x, y]] w fun e w' => ∃ r, e = .returned r ∧ RO base w' r q ∧ Ext w w' := by
  have HX := Aside.mk hx
  have HY := Aside.mk hy
  have HBS := Aside.mk hb
  obtain ⟨A, c, rfl, _⟩ := hx.form
  obtain ⟨B, d, rfl, _⟩ := hy.form
  obtain ⟨la, hla⟩ : ∃ l, isLong a = l := ⟨_, rfl⟩
  obtain ⟨lb, hlb⟩ : ∃ l, isLong b = l := ⟨_, rfl⟩
  rw [hla, hlb] at hq
  have HLA := Aside.mk hla
  have HLB := Aside.mk hlb
  obtain ⟨na, hna⟩ : ∃ l, (dig a).length = l := ⟨_, rfl⟩
  obtain ⟨nb, hnb⟩ : ∃ l, (dig b).length = l := ⟨_, rfl⟩
  rw [hna] at HX ⊢
  rw [hnb] at HY ⊢
  have hk0 := KeepBR.init w (.int .i64 0) (.bool neg) (.slice A na c) (.slice B nb d) (.int .i64 0) (.bool false) (.slice none 0 0) (.slice none 0 0) 83 83
  clear hx hy hb hla hlb hna hnb
  cases la
  · cases lb
    · have HQ : Aside (q = ⟨0, neg, dig a, dig b⟩) := ⟨hq.symm⟩
      rw [HQ.out]
      clear hq
      go_enter Tryz.func134, Tryz.ntmps134
      go_wp2_with (first | (go_at_call 153; with_reducible refine (rlong_calls (HX.out.rv.ext hk0.1.out) HLA.out).mono ?_; rintro e w' ⟨rfl, rfl⟩) | (go_at_call 153; with_reducible refine (rlong_calls (HY.out.rv.ext hk0.1.out) HLB.out).mono ?_; rintro e w' ⟨rfl, rfl⟩))
      refine bodyPost_ret (v := .agg #[.int .i64 0, .bool neg, .slice A na c, .slice B nb d]) (by simp [results, Tryz.results134, go_sem]) rfl ⟨_, rfl, ⟨_, _, rfl, ?_, ?_⟩, ?_⟩
      · exact HX.out.ext (((Ext.refl w).alloc _).alloc _)
      · exact HY.out.ext (((Ext.refl w).alloc _).alloc _)
      · exact ((Ext.refl w).alloc _).alloc _
    · have HQ : Aside (q = fq 4) := ⟨hq.symm⟩
      rw [HQ.out]
      clear hq
      go_enter Tryz.func134, Tryz.ntmps134
      go_wp2_with (first | (go_at_call 153; with_reducible refine (rlong_calls (HX.out.rv.ext hk0.1.out) HLA.out).mono ?_; rintro e w' ⟨rfl, rfl⟩) | (go_at_call 153; with_reducible refine (rlong_calls (HY.out.rv.ext hk0.1.out) HLB.out).mono ?_; rintro e w' ⟨rfl, rfl⟩) | (go_at_call 119; with_reducible refine rfault_calls.mono ?_; rintro e w1 ⟨rfl, he⟩; have hk1 := KeepBR.ext he hk0; clear hk0 he))
      have HK := Aside.mk hk1
      refine bodyPost_ret (v := .agg #[.int .i64 4, .bool false, .slice none 0 0, .slice none 0 0]) (by simp [results, Tryz.results134, go_sem, hk1]) rfl ⟨_, rfl, RO.fq _ _ _, ext_set4 HK.out.1.out (by omega) _ _ _ _⟩
  · have HQ : Aside (q = fq 4) := ⟨hq.symm⟩
    rw [HQ.out]
    clear hq
    go_enter Tryz.func134, Tryz.ntmps134
    go_wp2_with (first | (go_at_call 153; with_reducible refine (rlong_calls (HX.out.rv.ext hk0.1.out) HLA.out).mono ?_; rintro e w' ⟨rfl, rfl⟩) | (go_at_call 119; with_reducible refine rfault_calls.mono ?_; rintro e w1 ⟨rfl, he⟩; have hk1 := KeepBR.ext he hk0; clear hk0 he))
    have HK := Aside.mk hk1
    refine bodyPost_ret (v := .agg #[.int .i64 4, .bool false, .slice none 0 0, .slice none 0 0]) (by simp [results, Tryz.results134, go_sem, hk1]) rfl ⟨_, rfl, RO.fq _ _ _, ext_set4 HK.out.1.out (by omega) _ _ _ _⟩

theorem RO.parts {b : Nat} {w : World} {v : Value} {f : Int} {neg : Bool} {xs ys : List Nat} (h : RO b w v ⟨f, neg, xs, ys⟩) : ∃ x y, v = .agg #[.int .i64 f, .bool neg, x, y] ∧ OV b w x xs ∧ OV b w y ys := h
theorem exact_ratio {neg : Bool} {a b : Nat} (hb : 0 < b) : ∃ n' a' b', exactq neg a b = ⟨0, n', dig a', dig b'⟩ ∧ (if isLong a' || isLong b' then fq 4 else ⟨0, n', dig a', dig b'⟩) = ratio neg a b := by
  unfold exactq ratio
  rw [if_neg (show ¬ b = 0 by omega)]
  rcases Nat.eq_zero_or_pos a with rfl | ha
  · refine ⟨false, 0, 1, by rw [if_pos rfl, dig_zero], ?_⟩
    rw [Nat.gcd_zero_left, Nat.zero_div, Nat.div_self hb]
    simp
  · refine ⟨neg, _, _, by rw [if_neg (show ¬ a = 0 by omega)], ?_⟩
    rw [decide_eq_true ha, Bool.and_true]
set_option maxRecDepth 10000 in
set_option maxHeartbeats 1000000 in
theorem rratio_calls {w : World} {neg : Bool} {u v : Value} {a b : Nat} {q : Rq} (hu : RV w u (dig a)) (hv : RV w v (dig b)) (hla : (dig a).length < 1073741824) (hlb : (dig b).length < 1073741824) (hq : ratio neg a b = q) :
    Calls Tryz.prog 100 #[.bool neg, u, v] w fun e w' => ∃ r, e = .returned r ∧ RO w.heap.size w' r q ∧ Ext w w' := by
  have HU := Aside.mk hu
  have HV := Aside.mk hv
  have HLA := Aside.mk hla
  have HLB := Aside.mk hlb
  have hk0 := Keep4.init (Ext.refl w) (.int .i64 0) (.bool false) (.slice none 0 0) (.slice none 0 0) 83
  obtain ⟨A, c, rfl, _⟩ := hu
  rcases Nat.eq_zero_or_pos b with rfl | hb
  · obtain ⟨B, d, rfl, _⟩ := hv
    have h0 : (dig 0).length = 0 := by rw [dig_zero]; rfl
    have HQ : Aside (q = fq 11) := ⟨by rw [← hq]; rfl⟩
    rw [h0, HQ.out]
    clear h0 hla hlb hq
    go_enter Tryz.func100, Tryz.ntmps100
    go_wp2_with (go_at_call 119; with_reducible refine rfault_calls.mono ?_; rintro e w1 ⟨rfl, he⟩; have hk1 := Keep4.ext he hk0; clear hk0 he)
    have HK := Aside.mk hk1
    refine bodyPost_ret (v := .agg #[.int .i64 11, .bool false, .slice none 0 0, .slice none 0 0]) (by simp [results, Tryz.results100, go_sem, hk1]) rfl ⟨_, rfl, RO.fq _ _ _, ext_set4 HK.out.1.out (Nat.le_refl _) _ _ _ _⟩
  · obtain ⟨av, nv, cv, _, rfl, _, _, hcv, hnv⟩ := hv.first2 hb
    have hne : ((nv : Int) + 1 == 0) = false := beq_eq_false_iff_ne.2 (by omega)
    obtain ⟨n', a', b', he, hr⟩ := @exact_ratio neg a b hb
    rw [hq] at hr
    have HE := Aside.mk he
    have HQ := Aside.mk hr
    have HB0 := Aside.mk hb
    clear hla hlb hq hb he hr hnv
    go_enter Tryz.func100, Tryz.ntmps100
    go_wp2_with (first | (go_at_call 135; with_reducible refine (rexact_calls (HU.out.ext hk0.1.out) (HV.out.ext hk0.1.out) HLA.out HLB.out HB0.out).mono ?_; rw [HE.out]; rintro e w1 ⟨r, rfl, hr, he⟩; have hk1 := Keep4.ext he hk0; have hz := World.block_lt_of_cell? _ _ hk0.2.1.1; obtain ⟨x1, y1, rfl, hx, hy⟩ := hr.parts; have HX := Aside.mk (hx.mono (Nat.succ_le_of_lt hz)); have HY := Aside.mk (hy.mono (Nat.succ_le_of_lt hz)); have HZ := Aside.mk (Nat.le_trans (Nat.succ_le_of_lt hz) he.size); clear hk0 hr he hx hy hz) | (go_at_call 134; with_reducible refine (rbound_calls HX.out HY.out HZ.out HQ.out).mono ?_; rintro e w2 ⟨r, rfl, hr, he⟩; have hk2 := Keep4.ext he hk1; have HR := Aside.mk hr; obtain ⟨A2, c2, B2, d2, rfl⟩ := hr.form; clear hk1 hr he))
    have HK := Aside.mk hk2
    refine bodyPost_ret (v := .agg #[.int .i64 q.f, .bool q.neg, .slice A2 q.num.length c2, .slice B2 q.den.length d2]) (by simp [results, Tryz.results100, go_sem, hk2]) rfl ⟨_, rfl, (HR.out.set4 (Nat.lt_succ_self _) _ _ _ _).mono (Nat.le_succ _), ext_set4 HK.out.1.out (Nat.le_refl _) _ _ _ _⟩

theorem rsize_calls {w : World} {n : Int} {a : Nat} (h1 : -9223372036854775808 ≤ n) (h2 : n ≤ 9223372036854775807) (ha : n.natAbs = a) :
    Calls Tryz.prog 101 #[.int .i64 n] w fun e w' => e = .returned (.int .u64 (a : Int)) ∧ w = w' := by
  rcases Int.lt_or_le n 0 with hn | hn
  · have e1 : IntKind.u64.wrap (0 - IntKind.u64.wrap n) = (a : Int) := by simp only [wrap_u64]; omega
    have e1' : IntKind.u64.wrap (-IntKind.u64.wrap n) = (a : Int) := by simp only [wrap_u64]; omega
    clear h1 h2 ha
    go_enter Tryz.func101, Tryz.ntmps101
    go_wp2
    go_ret
    exact ⟨rfl, rfl⟩
  · have e1 : IntKind.u64.wrap n = (a : Int) := by simp only [wrap_u64]; omega
    clear h1 h2 ha
    go_enter Tryz.func101, Tryz.ntmps101
    go_wp2
    go_ret
    exact ⟨rfl, rfl⟩
end Go.Proofs.YtcbaipnphepbeaaGreatDoor

namespace Go.Proofs.YtcbaipnphepbeaaGreatDoor
open Go.RowKit

set_option maxRecDepth 10000 in
set_option maxHeartbeats 1000000 in
theorem rOf_calls {w : World} {n d : Int} {q : Rq} (h1 : -9223372036854775808 ≤ n) (h2 : n ≤ 9223372036854775807) (h3 : -9223372036854775808 ≤ d) (h4 : d ≤ 9223372036854775807) (hq : ratio (decide (n < 0) != decide (d < 0)) n.natAbs d.natAbs = q) :
    Calls Tryz.prog 54 #[.int .i64 n, .int .i64 d] w fun e w' => ∃ r, e = .returned r ∧ RO w.heap.size w' r q ∧ Ext w w' := by
  obtain ⟨a, ha⟩ : ∃ a, n.natAbs = a := ⟨_, rfl⟩
  obtain ⟨b, hb⟩ : ∃ b, d.natAbs = b := ⟨_, rfl⟩
  have ha4 : a < 18446744073709551616 := by omega
  have hb4 : b < 18446744073709551616 := by omega
  rw [ha, hb] at hq
  have H1 := Aside.mk h1
  have H2 := Aside.mk h2
  have H3 := Aside.mk h3
  have H4 := Aside.mk h4
  have HA := Aside.mk ha
  have HB := Aside.mk hb
  have HA4 := Aside.mk ha4
  have HB4 := Aside.mk hb4
  have HLA : Aside ((dig a).length < 1073741824) := ⟨Nat.lt_of_le_of_lt (nv64 ha4) (by decide)⟩
  have HLB : Aside ((dig b).length < 1073741824) := ⟨Nat.lt_of_le_of_lt (nv64 hb4) (by decide)⟩
  generalize hx : decide (n < 0) = bn at *
  generalize hy : decide (d < 0) = bd at *
  have HQ : Aside (ratio (!bn == bd) a b = q) := ⟨by rw [← hq]; cases bn <;> cases bd <;> rfl⟩
  have hk0 := Keep4.init (Ext.refl w) (.int .i64 0) (.bool false) (.slice none 0 0) (.slice none 0 0) 83
  clear h1 h2 h3 h4 ha hb ha4 hb4 hq
  go_enter Tryz.func54, Tryz.ntmps54
  go_wp2_with (first | (go_at_call 101; with_reducible refine (rsize_calls H1.out H2.out HA.out).mono ?_; rintro e w' ⟨rfl, rfl⟩) | (go_at_call 101; with_reducible refine (rsize_calls H3.out H4.out HB.out).mono ?_; rintro e w' ⟨rfl, rfl⟩) | (go_at_call 89; with_reducible refine (rof_calls HA4.out).mono ?_; rintro e w1 ⟨r1, rfl, hr, he⟩; have hk1 := Keep4.ext he hk0; have HR1 := Aside.mk hr.rv; have HZ0 := Aside.mk (World.block_lt_of_cell? _ _ hk0.2.1.1); have HE1 := Aside.mk he; clear hk0 hr he) | (go_at_call 89; with_reducible refine (rof_calls HB4.out).mono ?_; rintro e w2 ⟨r2, rfl, hr, he⟩; have hk2 := Keep4.ext he hk1; have HR2 := Aside.mk hr.rv; have HR1' := Aside.mk (HR1.out.ext he); have HZ1 := Aside.mk (World.block_lt_of_cell? _ _ hk1.2.1.1); clear hk1 hr he) | (go_at_call 100; with_reducible refine (rratio_calls HR1'.out HR2.out HLA.out HLB.out HQ.out).mono ?_; rintro e w3 ⟨r, rfl, hr, he⟩; have hk3 := Keep4.ext he hk2; have HZ2 := Aside.mk (World.block_lt_of_cell? _ _ hk2.2.1.1); have HR := Aside.mk hr; obtain ⟨A2, c2, B2, d2, rfl⟩ := hr.form; clear hk2 hr he))
  have HK := Aside.mk hk3
  refine bodyPost_ret (v := .agg #[.int .i64 q.f, .bool q.neg, .slice A2 q.num.length c2, .slice B2 q.den.length d2]) (by simp [results, Tryz.results54, go_sem, hk3]) rfl ⟨_, rfl, (HR.out.set4 HZ2.out _ _ _ _).mono (Nat.le_of_lt HZ2.out), ext_set4 HK.out.1.out (Nat.le_refl _) _ _ _ _⟩

theorem getD_cons_eq {xs ys : List Nat} (h : xs.length = ys.length) (hall : ∀ j, j < xs.length → xs.getD j 0 = ys.getD j 0) : xs = ys := by
  apply List.ext_getElem h
  intro i h1 h2
  have := hall i h1
  rwa [List.getD_eq_getElem?_getD, List.getD_eq_getElem?_getD, List.getElem?_eq_getElem h1, List.getElem?_eq_getElem h2] at this
theorem rdigits_calls {w : World} {u v : Value} {xs ys : List Nat} {b : Bool} (hu : RV w u xs) (hv : RV w v ys) (hb : decide (xs = ys) = b) :
    Calls Tryz.prog 123 #[u, v] w fun e w' => e = .returned (.bool b) ∧ Ext w w' := by
  obtain ⟨A, c, rfl, hc, hd, hr⟩ := id hu
  obtain ⟨B, d, rfl, hc', hd', hr'⟩ := id hv
  have HU := Aside.mk hu
  have HV := Aside.mk hv
  have hl : xs.length ≤ 1073741824 := hd.1
  have HB := Aside.mk hb
  clear hu hv hd hd' hr hr' hb
  by_cases hll : xs.length = ys.length
  · have HLL := Aside.mk hll
    rw [← hll]
    rw [← hll] at hc'
    clear hll
    go_enter Tryz.func123, Tryz.ntmps123
    go_wp2
    go_loopw [5] (fun i wr => ∃ k : Nat, k ≤ xs.length ∧ i = .int .i64 (k : Int) ∧ Aside (∀ j, j < k → xs.getD j 0 = ys.getD j 0) ∧ Aside (∃ n, wr = w.drewN n)) (fun i _ => xs.length - (intOf i).toNat)
    case atStart => exact ⟨0, Nat.zero_le _, rfl, ⟨fun j h => by omega⟩, ⟨0, rfl⟩⟩
    case round =>
      obtain ⟨k, hk, rfl, HK, HW⟩ := hrel
      by_cases hlt : k < xs.length
      · obtain ⟨ad, rfl, hx⟩ := HU.out.at' k hlt
        obtain ⟨bd, rfl, hy⟩ := HV.out.at' k (by have := HLL.out; omega)
        obtain ⟨n, rfl⟩ := HW.out
        obtain ⟨x, hxx⟩ : ∃ x, xs.getD k 0 = x := ⟨_, rfl⟩
        obtain ⟨y, hyy⟩ : ∃ y, ys.getD k 0 = y := ⟨_, rfl⟩
        rw [hxx] at hx
        rw [hyy] at hy
        have HXX := Aside.mk hxx
        have HYY := Aside.mk hyy
        clear hxx hyy
        by_cases hxy : x = y
        · subst hxy
          go_wp2
          go_quiet (fail)
          go_wp2
          go_roundw
          case rel => exact ⟨k + 1, by omega, by go_num, ⟨fun j hj => by
            rcases Nat.lt_or_ge j k with h | h
            · exact HK.out j h
            · obtain rfl : j = k := by omega
              rw [HXX.out, HYY.out]⟩, ⟨_, rfl⟩⟩
          case measure => simp [intOf]; omega
        · have hne : ((x : Int) == (y : Int)) = false := beq_eq_false_iff_ne.2 (by omega)
          have hne' : ((x : Int) != (y : Int)) = true := by simp [bne, hne]
          have HF : Aside (b = false) := ⟨by rw [← HB.out]; apply decide_eq_false; intro h; apply hxy; rw [← HXX.out, ← HYY.out, h]⟩
          clear hxy
          go_wp2
          go_quiet (fail)
          go_wp2
          go_ret
          exact ⟨by rw [HF.out]; rfl, ((Ext.refl w).drewN _).drewN _⟩
      · have hkx : k = xs.length := by omega
        have HT : Aside (b = true) := ⟨by rw [← HB.out]; apply decide_eq_true; exact getD_cons_eq HLL.out (fun j hj => HK.out j (by omega))⟩
        subst hkx
        obtain ⟨n, rfl⟩ := HW.out
        go_wp2
        go_ret
        exact ⟨by rw [HT.out]; rfl, (Ext.refl w).drewN _⟩
  · have HF : Aside (b = false) := ⟨by rw [← HB.out]; apply decide_eq_false; intro h; apply hll; rw [h]⟩
    have hne : ((xs.length : Int) == (ys.length : Int)) = false := beq_eq_false_iff_ne.2 (by omega)
    have hne' : ((xs.length : Int) != (ys.length : Int)) = true := by simp [bne, hne]
    clear hll
    go_enter Tryz.func123, Tryz.ntmps123
    go_wp2
    go_ret
    exact ⟨by rw [HF.out]; rfl, Ext.refl w⟩

/-- Two boxes of four cells. -/
abbrev KeepE (w : World) (x0 x1 x2 x3 y0 y1 y2 y3 : Value) (w' : World) : Prop :=
  Aside (Ext w w') ∧ (w'.cell? ⟨w.heap.size, 0, none⟩ = some x0 ∧ w'.cell? ⟨w.heap.size, 1, none⟩ = some x1 ∧ w'.cell? ⟨w.heap.size, 2, none⟩ = some x2 ∧ w'.cell? ⟨w.heap.size, 3, none⟩ = some x3) ∧
    (w'.cell? ⟨w.heap.size + 1, 0, none⟩ = some y0 ∧ w'.cell? ⟨w.heap.size + 1, 1, none⟩ = some y1 ∧ w'.cell? ⟨w.heap.size + 1, 2, none⟩ = some y2 ∧ w'.cell? ⟨w.heap.size + 1, 3, none⟩ = some y3)
theorem KeepE.ext {w w1 w2 : World} {x0 x1 x2 x3 y0 y1 y2 y3 : Value} (e : Ext w1 w2) (h : KeepE w x0 x1 x2 x3 y0 y1 y2 y3 w1) : KeepE w x0 x1 x2 x3 y0 y1 y2 y3 w2 :=
  ⟨⟨h.1.out.trans e⟩, ⟨e.cell h.2.1.1, e.cell h.2.1.2.1, e.cell h.2.1.2.2.1, e.cell h.2.1.2.2.2⟩, ⟨e.cell h.2.2.1, e.cell h.2.2.2.1, e.cell h.2.2.2.2.1, e.cell h.2.2.2.2.2⟩⟩
theorem KeepE.init (w : World) (x0 x1 x2 x3 y0 y1 y2 y3 : Value) (t t' : TypeId) : KeepE w x0 x1 x2 x3 y0 y1 y2 y3 ((w.alloc (.cells #[x0, x1, x2, x3] t)).alloc (.cells #[y0, y1, y2, y3] t')) :=
  ⟨⟨((Ext.refl w).alloc _).alloc _⟩, ⟨cell_old (cell_new rfl rfl), cell_old (cell_new rfl rfl), cell_old (cell_new rfl rfl), cell_old (cell_new rfl rfl)⟩,
    ⟨cell_new (by simp) rfl, cell_new (by simp) rfl, cell_new (by simp) rfl, cell_new (by simp) rfl⟩⟩
set_option maxRecDepth 10000 in
set_option maxHeartbeats 1000000 in
/-- A Rat equals one with the same fields. -/
theorem requal_same {w : World} {u v : Value} {q : Rq} (hu : RR w u q) (hv : RR w v q) :
    Calls Tryz.prog 82 #[u, v] w fun e w' => e = .returned (.bool true) ∧ Ext w w' := by
  obtain ⟨x, y, rfl, hx, hy⟩ := hu
  obtain ⟨x', y', rfl, hx', hy'⟩ := hv
  obtain ⟨f, neg, xs, ys⟩ := q
  dsimp only at *
  have HX := Aside.mk hx
  have HY := Aside.mk hy
  have HX' := Aside.mk hx'
  have HY' := Aside.mk hy'
  obtain ⟨A, ca, rfl, _⟩ := hx
  obtain ⟨B, cb, rfl, _⟩ := hy
  obtain ⟨C, cc, rfl, _⟩ := hx'
  obtain ⟨D, cd, rfl, _⟩ := hy'
  have hk0 := KeepE.init w (.int .i64 f) (.bool neg) (.slice A xs.length ca) (.slice B ys.length cb) (.int .i64 f) (.bool neg) (.slice C xs.length cc) (.slice D ys.length cd) 83 83
  generalize xs.length = lx at *
  generalize ys.length = ly at *
  go_enter Tryz.func82, Tryz.ntmps82
  go_wp2_with (first | (go_at_call 123; with_reducible refine (rdigits_calls (HX.out.ext hk0.1.out) (HX'.out.ext hk0.1.out) (decide_eq_true rfl)).mono ?_; rintro e w1 ⟨rfl, he⟩; have hk1 := KeepE.ext he hk0; clear hk0 he) | (go_at_call 123; with_reducible refine (rdigits_calls (HY.out.ext hk1.1.out) (HY'.out.ext hk1.1.out) (decide_eq_true rfl)).mono ?_; rintro e w2 ⟨rfl, he⟩; have hk2 := KeepE.ext he hk1; clear hk1 he))
  go_ret
  exact ⟨by simp, hk2.1.out⟩


/-- A slice that reads as digits, of any length. -/
def RL (w : World) (v : Value) (xs : List Nat) : Prop := ∃ A c, v = .slice A xs.length c ∧ xs.length ≤ c ∧ xs.length ≤ maxLen ∧ (∀ x ∈ xs, x < 4294967296) ∧ Rd w A (u32s xs)
theorem RL.ext {a b : World} {v : Value} {xs : List Nat} (h : RL a v xs) (e : Ext a b) : RL b v xs := let ⟨A, c, h1, h2, h3, h4, h5⟩ := h; ⟨A, c, h1, h2, h3, h4, h5.ext e⟩
theorem RL.take {w : World} {A : Option Addr} {n c : Nat} {xs : List Nat} (h : RL w (.slice A n c) xs) (k : Nat) (hk : k ≤ xs.length) (hk' : k ≤ 1073741824) : RV w (.slice A k c) (xs.take k) := by
  obtain ⟨A', c', e, hc, _, hd, hr⟩ := h
  injection e with e1 e2 e3
  subst e1 e3
  have hl : (xs.take k).length = k := by simp; omega
  refine ⟨A, c, by rw [hl], by rw [hl]; omega, ⟨by rw [hl]; omega, fun x hx => hd x (List.mem_of_mem_take hx)⟩, ?_⟩
  intro j v hj
  refine hr j v ?_
  have : u32s (xs.take k) = (u32s xs).take k := by simp [u32s, List.map_take]
  rw [this, List.getElem?_take] at hj
  split at hj
  · exact hj
  · cases hj

end Go.Proofs.YtcbaipnphepbeaaGreatDoor

namespace Go.Proofs.YtcbaipnphepbeaaGreatDoor
open Go.RowKit



end Go.Proofs.YtcbaipnphepbeaaGreatDoor

namespace Go.Proofs.YtcbaipnphepbeaaGreatDoor
open Go.RowKit

/-- A valid Rat that is no fault. -/
structure IsNum (q : Rq) (a b : Nat) : Prop where
  f : q.f = 0
  num : q.num = dig a
  den : q.den = dig b
  la : (dig a).length ≤ 128
  lb : (dig b).length ≤ 128
  pos : 0 < b
  gcd : Nat.gcd a b = 1
  neg : q.neg = true → 0 < a
theorem okq_num {q : Rq} {xs ys : List Nat} (hx : q.num = xs) (hy : q.den = ys) (hdx : Ds xs) (hdy : Ds ys) (h : okq q = true) (hf : q.f = 0) : IsNum q (val xs) (val ys) := by
  unfold okq at h
  rw [if_pos hf, hx, hy] at h
  simp only [Bool.and_eq_true, decide_eq_true_eq, Bool.not_eq_true', beq_iff_eq] at h
  obtain ⟨⟨⟨⟨⟨⟨h1, h2⟩, h3⟩, h4⟩, h5⟩, h6⟩, h7⟩ := h
  have e1 := (natErr_zero hdx h1).2
  have e2 := (natErr_zero hdy h2).2
  refine ⟨hf, by rw [hx]; exact e1, by rw [hy]; exact e2, isLong_false.1 h3, isLong_false.1 h4, ?_, h7, ?_⟩
  · rcases Nat.eq_zero_or_pos (val ys) with h0 | h0
    · rw [h0, dig_zero] at e2; rw [e2] at h5; simp at h5
    · exact h0
  · intro hn
    rcases Nat.eq_zero_or_pos (val xs) with h0 | h0
    · rw [h0, dig_zero] at e1; rw [e1, hn] at h6; simp at h6
    · exact h0
theorem RR.ds {w : World} {v : Value} {q : Rq} (h : RR w v q) : Ds q.num ∧ Ds q.den := by
  obtain ⟨x, y, rfl, h1, h2⟩ := h
  exact ⟨h1.dg.2, h2.dg.2⟩

end Go.Proofs.YtcbaipnphepbeaaGreatDoor

namespace Go.Proofs.YtcbaipnphepbeaaGreatDoor
open Go.RowKit



end Go.Proofs.YtcbaipnphepbeaaGreatDoor

namespace Go.Proofs.YtcbaipnphepbeaaGreatDoor
open Go.RowKit

theorem okq_ds {q : Rq} (h : okq q = true) (hf : q.f = 0) (hd : Ds q.num ∧ Ds q.den) : IsNum q (val q.num) (val q.den) := okq_num rfl rfl hd.1 hd.2 h hf
end Go.Proofs.YtcbaipnphepbeaaGreatDoor
