/- Contracts of package frac: long, natural, fault, isFault, of, times. Contracts of package frac: plus. Contracts of package frac: quotient, Make, Of. Contracts of package frac: size, Of, Make. -/
import Derived.Test.YtgfkachfbnbikaaGreatDoorMd
import Derived.Deep.RegionHeld
namespace Go.Proofs.YtgfkachfbnbikaaGreatDoor
open Go.RowKit

theorem natural_calls {w : World} {u v : Value} : Calls Tryz.prog 86 #[u, v] w fun e w' => e = .returned u ∧ w = w' := by
  go_enter Tryz.func86, Tryz.ntmps86
  go_wp2
  go_ret
  exact ⟨rfl, rfl⟩

/-- Too long: more than 4096 binary digits. -/
def isLong (a : Nat) : Bool := decide (4096 < blen a)
theorem isLong_false {a : Nat} : isLong a = false ↔ (dig a).length ≤ 128 := by
  unfold isLong
  have h := @blen_le a 4096
  rw [dig_length_iff, show (4294967296 : Nat) = 2 ^ 32 from rfl, ← Nat.pow_mul, show 32 * 128 = 4096 from rfl, ← h]
  constructor
  · intro hh; have := of_decide_eq_false hh; omega
  · intro hh; exact decide_eq_false (by omega)

theorem long_calls {w : World} {u : Value} {a : Nat} (h : RV w u (dig a)) :
    Calls Tryz.prog 109 #[u] w fun e w' => e = .returned (.bool (isLong a)) ∧ Ext w w' := by
  have H := Aside.mk h
  have hd : (512 < (dig a).length → isLong a = true) := by
    intro h5
    cases hh : isLong a
    · have := isLong_false.1 hh; omega
    · rfl
  have hb : decide ((4096 : Int) < (blen a : Int)) = isLong a := by
    unfold isLong
    by_cases hh : 4096 < blen a
    · rw [decide_eq_true hh, decide_eq_true (by omega)]
    · rw [decide_eq_false hh, decide_eq_false (by omega)]
  generalize isLong a = d at *
  clear h
  have HD := Aside.mk hd
  obtain ⟨m, hbl⟩ : ∃ m, blen a = m := ⟨_, rfl⟩
  rw [hbl] at hb
  rcases Nat.lt_or_ge 512 (dig a).length with h5 | h5
  · have hdd : d = true := hd h5
    subst hdd
    have HN := Aside.mk (show ¬ (dig a).length ≤ 512 by omega)
    clear hd hb h5
    go_enter Tryz.func109, Tryz.ntmps109
    go_wp2_with (go_at_call 152; refine (bits_calls H.out).mono ?_; rw [if_neg HN.out]; rintro e w' ⟨rfl, he⟩; have HE := Aside.mk he; clear he)
    go_ret
    exact ⟨rfl, HE.out⟩
  · have HN := Aside.mk h5
    have HB := Aside.mk hbl
    clear hd h5 hbl
    go_enter Tryz.func109, Tryz.ntmps109
    go_wp2_with (go_at_call 152; refine (bits_calls H.out).mono ?_; rw [if_pos HN.out, HB.out]; rintro e w' ⟨rfl, he⟩; have HE := Aside.mk he; clear he)
    go_ret
    exact ⟨rfl, HE.out⟩

theorem isfault_calls {w : World} {f : Int} : Calls Tryz.prog 108 #[.int .i64 f] w fun e w' => e = .returned (.bool (f == 4 || f == 11)) ∧ w = w' := by
  cases h1 : (f == 4)
  · go_enter Tryz.func108, Tryz.ntmps108
    go_wp2
    go_ret
    exact ⟨rfl, rfl⟩
  · go_enter Tryz.func108, Tryz.ntmps108
    go_wp2
    go_ret
    exact ⟨rfl, rfl⟩

theorem fault_calls {w : World} {f : Int} :
    Calls Tryz.prog 79 #[.int .i64 f] w fun e w' => e = .returned (.agg #[.int .i64 f, .bool false, .slice none 0 0, .slice none 0 0]) ∧ Ext w w' := by
  go_enter Tryz.func79, Tryz.ntmps79
  go_wp2
  refine bodyPost_ret (v := .agg #[.int .i64 f, .bool false, .slice none 0 0, .slice none 0 0]) (by simp [results, Tryz.results79, go_sem]) rfl ?_
  exact ⟨rfl, (Ext.refl w).alloc _⟩

theorem whole_of {w : World} {f : Int} {neg : Bool} {x y : Value} {a : Nat} {ys : List Nat} (hx : RV w x (dig a)) (hy : RV w y ys) :
    Calls Tryz.prog 116 #[.agg #[.int .i64 f, .bool neg, x, y]] w fun e w' => e = .returned (.agg #[.bool neg, x]) ∧ Ext w w' := by
  obtain ⟨A, c, rfl, _⟩ := hx
  obtain ⟨B, d, rfl, _⟩ := hy
  go_enter Tryz.func116, Tryz.ntmps116
  go_wp2
  refine bodyPost_ret (v := .agg #[.bool neg, .slice A (dig a).length c]) (by simp [results, Tryz.results116, go_sem]) rfl ?_
  exact ⟨rfl, ((Ext.refl w).alloc _).alloc _⟩

/-- What a cell holds. -/
def cellAt (w : World) (p : Addr) : Value := (w.cell? p).getD undef
/-- A cell is there, and may be written. -/
abbrev Fits (w : World) (p : Addr) : Prop := w.cell? p = some (cellAt w p) ∧ w.frozen? p = false
theorem Fits.of {w : World} {p : Addr} {v : Value} (h : w.cell? p = some v) (hf : w.frozen? p = false) : Fits w p := ⟨by rw [cellAt, h]; rfl, hf⟩
theorem Fits.ext {a b : World} (e : Ext a b) {g j : Nat} (h : Fits a ⟨g, j, none⟩) : Fits b ⟨g, j, none⟩ :=
  Fits.of (e.cell h.1) (by rw [e.frees g j (World.block_lt_of_cell? a _ h.1)]; exact h.2)
theorem Fits.set {a : World} {p : Addr} (h : Fits a p) (q : Addr) (v : Value) : Fits (a.setCell q v) p := by
  by_cases e : q = p
  · subst e
    exact Fits.of (World.cell?_setCell_same a q v h.1) (by rw [World.frozen?_setCell]; exact h.2)
  · exact Fits.of ((World.cell?_setCell_other a q p v e).trans h.1) (by rw [World.frozen?_setCell]; exact h.2)

/-- What a region with calls keeps: the world is `w`, grown; a box of two cells in block `w.heap.size`; a result of two cells in the block behind it. -/
abbrev Keep2 (w : World) (x0 x1 : Value) (w' : World) : Prop :=
  Aside (Ext w w') ∧ w'.cell? ⟨w.heap.size, 0, none⟩ = some x0 ∧ w'.cell? ⟨w.heap.size, 1, none⟩ = some x1 ∧ Fits w' ⟨w.heap.size + 1, 0, none⟩ ∧ Fits w' ⟨w.heap.size + 1, 1, none⟩
theorem Keep2.ext {w w1 w2 : World} {x0 x1 : Value} (e : Ext w1 w2) (h : Keep2 w x0 x1 w1) : Keep2 w x0 x1 w2 :=
  ⟨⟨h.1.out.trans e⟩, e.cell h.2.1, e.cell h.2.2.1, h.2.2.2.1.ext e, h.2.2.2.2.ext e⟩
theorem Keep2.set {w w1 : World} {x0 x1 : Value} (h : Keep2 w x0 x1 w1) (j : Nat) (v : Value) : Keep2 w x0 x1 (w1.setCell ⟨w.heap.size + 1, j, none⟩ v) :=
  ⟨⟨h.1.out.set (by show w.heap.size ≤ w.heap.size + 1; omega) v⟩, (World.cell?_setCell_other _ _ _ v (by intro hh; injection hh with hh; omega)).trans h.2.1, (World.cell?_setCell_other _ _ _ v (by intro hh; injection hh with hh; omega)).trans h.2.2.1, h.2.2.2.1.set _ _, h.2.2.2.2.set _ _⟩
theorem Keep2.init (w : World) (x0 x1 z0 z1 : Value) (t t' : TypeId) : Keep2 w x0 x1 (((w.alloc (.cells #[x0, x1] t)).alloc (.cells #[z0, z1] t')).drew) := by
  refine ⟨⟨(((Ext.refl w).alloc _).alloc _).drew⟩, by simp, by simp, Fits.of (v := z0) (by simp) (by simp), Fits.of (v := z1) (by simp) (by simp)⟩

set_option maxRecDepth 10000 in
theorem whole_times {w : World} {neg : Bool} {x y : Value} {a b : Nat} (hx : NV w x a) (hy : NV w y b) :
    Calls Tryz.prog 117 #[.agg #[.bool neg, x], y] w fun e w' => ∃ r, e = .returned (.agg #[.bool neg, r]) ∧ OV w.heap.size w' r (dig (a * b)) ∧ Ext w w' := by
  obtain ⟨A, c, n, rfl, _, _⟩ := hx.form
  obtain ⟨B, d, m, rfl, _, _⟩ := hy.form
  have HX := Aside.mk hx
  have HY := Aside.mk hy
  clear hx hy
  go_enter Tryz.func117, Tryz.ntmps117
  go_wp2
  go_region_held (fun w' => Keep2 w (.bool neg) (.slice A n c) w')
    (first | assumption | exact Keep2.init _ _ _ _ _ _ _ | exact Keep2.ext (by assumption) (by assumption) | exact (Keep2.set (by assumption) _ _).set _ _) (first | (go_at_call 100; refine (Mul_calls (HX.out.ext (Aside.out (And.left (show Keep2 w (.bool neg) (.slice A n c) _ from by assumption)))) (HY.out.ext (Aside.out (And.left (show Keep2 w (.bool neg) (.slice A n c) _ from by assumption))))).mono ?_; rintro e w1 ⟨r, rfl, hr, he⟩; have HR := Aside.mk hr; obtain ⟨A1, c1, rfl, _⟩ := hr.form; clear hr) | (go_at_call 86; refine natural_calls.mono ?_; rintro e w' ⟨rfl, rfl⟩))
  have hk : Keep2 w (.bool neg) (.slice A n c) w1 := Keep2.ext he (Keep2.init _ _ _ _ _ _ _)
  have hc0 := hk.2.2.2.1.1
  have hc1 := hk.2.2.2.2.1
  go_wp2
  refine bodyPost_ret (v := .agg #[.bool neg, .slice A1 (dig (a * b)).length c1]) (by simp [results, Tryz.results117, go_sem, hc0, hc1]) rfl ⟨_, rfl, ?_, ?_⟩
  · refine ((HR.out.set ?_ _).set ?_ _).mono ?_
    · simp
    · simp
    · simp; omega
  · exact (hk.1.out.set (by show w.heap.size ≤ w.heap.size + 1; omega) _).set (by show w.heap.size ≤ w.heap.size + 1; omega) _
end Go.Proofs.YtgfkachfbnbikaaGreatDoor

namespace Go.Proofs.YtgfkachfbnbikaaGreatDoor
open Go.RowKit

/-- The sum of two whole numbers with signs. -/
def ssum (n1 : Bool) (a : Nat) (n2 : Bool) (b : Nat) : Bool × Nat := if n1 = n2 then (n1, a + b) else if a < b then (n2, b - a) else (n1, a - b)

/-- Two boxes of two cells, and a result of two. -/
abbrev Keep22 (w : World) (x0 x1 y0 y1 : Value) (w' : World) : Prop :=
  Aside (Ext w w') ∧ w'.cell? ⟨w.heap.size, 0, none⟩ = some x0 ∧ w'.cell? ⟨w.heap.size, 1, none⟩ = some x1 ∧ w'.cell? ⟨w.heap.size + 1, 0, none⟩ = some y0 ∧ w'.cell? ⟨w.heap.size + 1, 1, none⟩ = some y1 ∧ Fits w' ⟨w.heap.size + 2, 0, none⟩ ∧ Fits w' ⟨w.heap.size + 2, 1, none⟩
theorem Keep22.ext {w w1 w2 : World} {x0 x1 y0 y1 : Value} (e : Ext w1 w2) (h : Keep22 w x0 x1 y0 y1 w1) : Keep22 w x0 x1 y0 y1 w2 :=
  ⟨⟨h.1.out.trans e⟩, e.cell h.2.1, e.cell h.2.2.1, e.cell h.2.2.2.1, e.cell h.2.2.2.2.1, h.2.2.2.2.2.1.ext e, h.2.2.2.2.2.2.ext e⟩
theorem cell_other {w : World} {g j g' j' : Nat} {v u : Value} (h : w.cell? ⟨g, j, none⟩ = some u) (hg : g' ≠ g) : (w.setCell ⟨g', j', none⟩ v).cell? ⟨g, j, none⟩ = some u :=
  (World.cell?_setCell_other _ _ _ v (by intro hh; injection hh with hh; omega)).trans h
theorem Keep22.set {w w1 : World} {x0 x1 y0 y1 : Value} (h : Keep22 w x0 x1 y0 y1 w1) (j : Nat) (v : Value) : Keep22 w x0 x1 y0 y1 (w1.setCell ⟨w.heap.size + 2, j, none⟩ v) :=
  ⟨⟨h.1.out.set (by show w.heap.size ≤ w.heap.size + 2; omega) v⟩, cell_other h.2.1 (by omega), cell_other h.2.2.1 (by omega), cell_other h.2.2.2.1 (by omega), cell_other h.2.2.2.2.1 (by omega), h.2.2.2.2.2.1.set _ _, h.2.2.2.2.2.2.set _ _⟩
theorem cell_old {w : World} {o : Obj} {g j : Nat} {v : Value} (h : w.cell? ⟨g, j, none⟩ = some v) : (w.alloc o).cell? ⟨g, j, none⟩ = some v := ((Ext.refl w).alloc o).cell h
theorem cell_new {w : World} {cs : Array Value} {t : TypeId} {g j : Nat} {v : Value} (hg : g = w.heap.size) (h : cs[j]? = some v) : (w.alloc (.cells cs t)).cell? ⟨g, j, none⟩ = some v := by
  subst hg; rw [World.cell?_alloc_new]; exact h
theorem fits_new {w : World} {cs : Array Value} {t : TypeId} {g j : Nat} {v : Value} (hg : g = w.heap.size) (h : cs[j]? = some v) : Fits (w.alloc (.cells cs t)) ⟨g, j, none⟩ :=
  Fits.of (cell_new hg h) (by subst hg; simp)
theorem Keep22.init (w : World) (x0 x1 y0 y1 z0 z1 : Value) (t t' t'' : TypeId) : Keep22 w x0 x1 y0 y1 (((w.alloc (.cells #[x0, x1] t)).alloc (.cells #[y0, y1] t')).alloc (.cells #[z0, z1] t'')) := by
  refine ⟨⟨(((Ext.refl w).alloc _).alloc _).alloc _⟩, cell_old (cell_old (cell_new rfl rfl)), cell_old (cell_old (cell_new rfl rfl)), cell_old (cell_new (by simp) rfl), cell_old (cell_new (by simp) rfl), fits_new (v := z0) (by simp) rfl, fits_new (v := z1) (by simp) rfl⟩

theorem cell_same {w : World} {p : Addr} {v u : Value} (h : w.cell? p = some u) : (w.setCell p v).cell? p = some v := World.cell?_setCell_same w p v h
theorem cell_beside {w : World} {g j g' j' : Nat} {v u : Value} (h : w.cell? ⟨g, j, none⟩ = some u) (hj : j' ≠ j) : (w.setCell ⟨g', j', none⟩ v).cell? ⟨g, j, none⟩ = some u :=
  (World.cell?_setCell_other _ _ _ v (by intro hh; injection hh with hh hh'; omega)).trans h
theorem Keep22.swap {w w0 : World} {x0 x1 y0 y1 : Value} (h : Keep22 w x0 x1 y0 y1 w0) :
    Keep22 w y0 y1 x0 x1 ((((w0.setCell ⟨w.heap.size, 0, none⟩ y0).setCell ⟨w.heap.size, 1, none⟩ y1).setCell ⟨w.heap.size + 1, 0, none⟩ x0).setCell ⟨w.heap.size + 1, 1, none⟩ x1) := by
  have hx0 := h.2.1
  have hx1 := h.2.2.1
  have hy0 := h.2.2.2.1
  have hy1 := h.2.2.2.2.1
  have hn : w.heap.size ≠ w.heap.size + 1 := by omega
  refine ⟨⟨(((h.1.out.set (Nat.le_refl _) _).set (Nat.le_refl _) _).set (Nat.le_succ _) _).set (Nat.le_succ _) _⟩, ?_, ?_, ?_, ?_, (((h.2.2.2.2.2.1.set _ _).set _ _).set _ _).set _ _, (((h.2.2.2.2.2.2.set _ _).set _ _).set _ _).set _ _⟩
  · exact cell_other (cell_other (cell_beside (cell_same hx0) (by omega)) (by omega)) (by omega)
  · exact cell_other (cell_other (cell_same (cell_beside hx1 (by omega))) (by omega)) (by omega)
  · exact cell_beside (cell_same (cell_other (cell_other hy0 (by omega)) (by omega))) (by omega)
  · exact cell_same (cell_beside (cell_other (cell_other hy1 (by omega)) (by omega)) (by omega))

set_option maxRecDepth 10000 in
set_option maxHeartbeats 2000000 in
theorem whole_plus {w : World} {n1 n2 : Bool} {x y : Value} {a b : Nat} (hx : NV w x a) (hy : NV w y b) :
    Calls Tryz.prog 105 #[.agg #[.bool n1, x], .agg #[.bool n2, y]] w fun e w' => ∃ r, e = .returned (.agg #[.bool (ssum n1 a n2 b).1, r]) ∧ OV w.heap.size w' r (dig (ssum n1 a n2 b).2) ∧ Ext w w' := by
  obtain ⟨A, c, n, rfl, _, _⟩ := hx.form
  obtain ⟨B, d, m, rfl, _, _⟩ := hy.form
  have HX := Aside.mk hx
  have HY := Aside.mk hy
  clear hx hy
  by_cases hn : n1 = n2
  · subst hn
    have HS : Aside (ssum n1 a n1 b = (n1, a + b)) := ⟨by simp [ssum]⟩
    rw [HS.out]
    go_enter Tryz.func105, Tryz.ntmps105
    go_wp2
    have hk0 := (Keep22.init w (.bool n1) (.slice A n c) (.bool n1) (.slice B m d) (.bool false) (.slice none 0 0) 76 76 76).ext ((Ext.refl _).drew)
    go_region_held (fun w' => Keep22 w (.bool n1) (.slice A n c) (.bool n1) (.slice B m d) w')
      (first | assumption | exact Keep22.ext (by assumption) (by assumption) | exact (Keep22.set (by assumption) _ _).set _ _) (first | (go_at_call 149; refine (Add_calls (HX.out.ext (Aside.out (And.left (show Keep22 w (.bool n1) (.slice A n c) (.bool n1) (.slice B m d) _ from by assumption)))) (HY.out.ext (Aside.out (And.left (show Keep22 w (.bool n1) (.slice A n c) (.bool n1) (.slice B m d) _ from by assumption))))).mono ?_; rintro e w1 ⟨r, rfl, hr, he⟩; have HR := Aside.mk hr; obtain ⟨A1, c1, rfl, _⟩ := hr.form; clear hr) | (go_at_call 86; refine natural_calls.mono ?_; rintro e w' ⟨rfl, rfl⟩))
    have hk := Keep22.ext he hk0
    have hc0 := hk.2.2.2.2.2.1.1
    have hc1 := hk.2.2.2.2.2.2.1
    go_wp2
    refine bodyPost_ret (v := .agg #[.bool n1, .slice A1 (dig (a + b)).length c1]) (by simp [results, Tryz.results105, go_sem, hc0, hc1]) rfl ⟨_, rfl, ?_, ?_⟩
    · refine ((HR.out.set ?_ _).set ?_ _).mono ?_
      · simp
      · simp
      · simp; omega
    · exact (hk.1.out.set (by show w.heap.size ≤ w.heap.size + 2; omega) _).set (by show w.heap.size ≤ w.heap.size + 2; omega) _
  · have hne : (n1 == n2) = false := by simp [hn]
    have hk0 := (Keep22.init w (.bool n1) (.slice A n c) (.bool n2) (.slice B m d) (.bool false) (.slice none 0 0) 76 76 76)
    rcases Nat.lt_or_ge a b with hab | hab
    · have HS : Aside (ssum n1 a n2 b = (n2, b - a)) := ⟨by simp [ssum, hn, hab]⟩
      have HAB := Aside.mk hab
      rw [HS.out]
      have hcmp : cmpN a b = -1 := by simp [cmpN, hab]
      clear hn hab
      go_enter Tryz.func105, Tryz.ntmps105
      go_wp2_with (go_at_call 150; refine (Compare_calls (HX.out.ext hk0.1.out) (HY.out.ext hk0.1.out)).mono ?_; rintro e w0 ⟨rfl, he0⟩; have hk1 := Keep22.ext he0 hk0; have hf1 := he0.frees w.heap.size; have hf2 := he0.frees (w.heap.size + 1); clear hk0)
      have hk2 := (Keep22.swap hk1).ext ((Ext.refl _).drew)
      have HLE := Aside.mk (Nat.le_of_lt HAB.out)
      go_region_held (fun w' => Keep22 w (.bool n2) (.slice B m d) (.bool n1) (.slice A n c) w')
        (first | assumption | exact Keep22.ext (by assumption) (by assumption) | exact (Keep22.set (by assumption) _ _).set _ _) (first | (go_at_call 151; refine (Sub_calls (HY.out.ext (Aside.out (And.left (show Keep22 w (.bool n2) (.slice B m d) (.bool n1) (.slice A n c) _ from by assumption)))) (HX.out.ext (Aside.out (And.left (show Keep22 w (.bool n2) (.slice B m d) (.bool n1) (.slice A n c) _ from by assumption)))) HLE.out).mono ?_; rintro e w1 ⟨r, rfl, hr, he⟩; have HR := Aside.mk hr; obtain ⟨A1, c1, rfl, _⟩ := hr.form; clear hr) | (go_at_call 86; refine natural_calls.mono ?_; rintro e w' ⟨rfl, rfl⟩))
      have hk := Keep22.ext he hk2
      have hc0 := hk.2.2.2.2.2.1.1
      have hc1 := hk.2.2.2.2.2.2.1
      have hsz := hk2.1.out.size
      have hs2 := World.block_lt_of_cell? _ _ hk2.2.2.2.2.2.1.1
      go_wp2
      refine bodyPost_ret (v := .agg #[.bool n2, .slice A1 (dig (b - a)).length c1]) (by simp [results, Tryz.results105, go_sem, hc0, hc1]) rfl ⟨_, rfl, ?_, ?_⟩
      · exact ((HR.out.set hs2 _).set hs2 _).mono hsz
      · exact (hk.1.out.set (by show w.heap.size ≤ w.heap.size + 2; omega) _).set (by show w.heap.size ≤ w.heap.size + 2; omega) _
    · have HS : Aside (ssum n1 a n2 b = (n1, a - b)) := ⟨by simp [ssum, hn]; intro h; omega⟩
      have HLE := Aside.mk hab
      rw [HS.out]
      have hcmp : decide (cmpN a b < 0) = false := by
        unfold cmpN; rw [if_neg (by omega)]; split <;> rfl
      clear hn hab
      go_enter Tryz.func105, Tryz.ntmps105
      go_wp2_with (go_at_call 150; refine (Compare_calls (HX.out.ext hk0.1.out) (HY.out.ext hk0.1.out)).mono ?_; rintro e w0 ⟨rfl, he0⟩; have hk1 := Keep22.ext he0 hk0; clear hk0)
      have hk2 := hk1.ext ((Ext.refl _).drew)
      go_region_held (fun w' => Keep22 w (.bool n1) (.slice A n c) (.bool n2) (.slice B m d) w')
        (first | assumption | exact Keep22.ext (by assumption) (by assumption) | exact (Keep22.set (by assumption) _ _).set _ _) (first | (go_at_call 151; refine (Sub_calls (HX.out.ext (Aside.out (And.left (show Keep22 w (.bool n1) (.slice A n c) (.bool n2) (.slice B m d) _ from by assumption)))) (HY.out.ext (Aside.out (And.left (show Keep22 w (.bool n1) (.slice A n c) (.bool n2) (.slice B m d) _ from by assumption)))) HLE.out).mono ?_; rintro e w1 ⟨r, rfl, hr, he⟩; have HR := Aside.mk hr; obtain ⟨A1, c1, rfl, _⟩ := hr.form; clear hr) | (go_at_call 86; refine natural_calls.mono ?_; rintro e w' ⟨rfl, rfl⟩))
      have hk := Keep22.ext he hk2
      have hc0 := hk.2.2.2.2.2.1.1
      have hc1 := hk.2.2.2.2.2.2.1
      have hsz := hk2.1.out.size
      have hs2 := World.block_lt_of_cell? _ _ hk2.2.2.2.2.2.1.1
      go_wp2
      refine bodyPost_ret (v := .agg #[.bool n1, .slice A1 (dig (a - b)).length c1]) (by simp [results, Tryz.results105, go_sem, hc0, hc1]) rfl ⟨_, rfl, ?_, ?_⟩
      · exact ((HR.out.set hs2 _).set hs2 _).mono hsz
      · exact (hk.1.out.set (by show w.heap.size ≤ w.heap.size + 2; omega) _).set (by show w.heap.size ≤ w.heap.size + 2; omega) _
end Go.Proofs.YtgfkachfbnbikaaGreatDoor

namespace Go.Proofs.YtgfkachfbnbikaaGreatDoor
open Go.RowKit

theorem NV.of {w : World} {v : Value} {a : Nat} (h : RV w v (dig a)) (h' : (dig a).length ≤ 512) : NV w v a := ⟨h, h'⟩

/-- A Rat's fields. -/
structure Rq where
  f : Int
  neg : Bool
  num : List Nat
  den : List Nat
deriving DecidableEq
/-- A fault. -/
def fq (f : Int) : Rq := ⟨f, false, [], []⟩
/-- A value that reads as a Rat. -/
def RR (w : World) (v : Value) (q : Rq) : Prop := ∃ x y, v = .agg #[.int .i64 q.f, .bool q.neg, x, y] ∧ RV w x q.num ∧ RV w y q.den
/-- .. the lists of which are the call's own. -/
def RO (b : Nat) (w : World) (v : Value) (q : Rq) : Prop := ∃ x y, v = .agg #[.int .i64 q.f, .bool q.neg, x, y] ∧ OV b w x q.num ∧ OV b w y q.den
theorem RO.rr {b : Nat} {w : World} {v : Value} {q : Rq} (h : RO b w v q) : RR w v q := let ⟨x, y, e, h1, h2⟩ := h; ⟨x, y, e, h1.rv, h2.rv⟩
theorem RO.mono {b b' : Nat} {w : World} {v : Value} {q : Rq} (h : RO b w v q) (hb : b' ≤ b) : RO b' w v q := let ⟨x, y, e, h1, h2⟩ := h; ⟨x, y, e, h1.mono hb, h2.mono hb⟩
theorem RO.ext {b : Nat} {w w' : World} {v : Value} {q : Rq} (h : RO b w v q) (e : Ext w w') : RO b w' v q := let ⟨x, y, e', h1, h2⟩ := h; ⟨x, y, e', h1.ext e, h2.ext e⟩
theorem RO.set {b : Nat} {w : World} {v : Value} {q : Rq} (h : RO b w v q) {p : Addr} (hp : p.block < b) (u : Value) : RO b (w.setCell p u) v q := let ⟨x, y, e', h1, h2⟩ := h; ⟨x, y, e', h1.set hp u, h2.set hp u⟩
theorem RR.ext {w w' : World} {v : Value} {q : Rq} (h : RR w v q) (e : Ext w w') : RR w' v q := let ⟨x, y, e', h1, h2⟩ := h; ⟨x, y, e', h1.ext e, h2.ext e⟩
theorem RO.fq (b : Nat) (w : World) (f : Int) : RO b w (.agg #[.int .i64 f, .bool false, .slice none 0 0, .slice none 0 0]) (fq f) := ⟨_, _, rfl, OV.nil _ _, OV.nil _ _⟩

/-- The number num / den, or a fault. -/
def ratio (neg : Bool) (a b : Nat) : Rq :=
  if b = 0 then fq 11
  else if isLong (a / Nat.gcd a b) || isLong (b / Nat.gcd a b) then fq 4
  else ⟨0, neg && decide (0 < a), dig (a / Nat.gcd a b), dig (b / Nat.gcd a b)⟩

theorem gcd_div_pos {a b : Nat} (_hb : 0 < b) : decide (0 < a / Nat.gcd a b) = decide (0 < a) := by
  rcases Nat.eq_zero_or_pos a with h | h
  · subst h; simp
  · have := Nat.div_pos (Nat.le_of_dvd h (Nat.gcd_dvd_left a b)) (Nat.gcd_pos_of_pos_left b h)
    simp [h, this]

/-- A box of two cells, and a result of four. -/
abbrev Keep24 (w : World) (x0 x1 : Value) (w' : World) : Prop :=
  Aside (Ext w w') ∧ w'.cell? ⟨w.heap.size, 0, none⟩ = some x0 ∧ w'.cell? ⟨w.heap.size, 1, none⟩ = some x1 ∧ Fits w' ⟨w.heap.size + 1, 0, none⟩ ∧ Fits w' ⟨w.heap.size + 1, 1, none⟩ ∧ Fits w' ⟨w.heap.size + 1, 2, none⟩ ∧ Fits w' ⟨w.heap.size + 1, 3, none⟩
theorem Keep24.ext {w w1 w2 : World} {x0 x1 : Value} (e : Ext w1 w2) (h : Keep24 w x0 x1 w1) : Keep24 w x0 x1 w2 :=
  ⟨⟨h.1.out.trans e⟩, e.cell h.2.1, e.cell h.2.2.1, h.2.2.2.1.ext e, h.2.2.2.2.1.ext e, h.2.2.2.2.2.1.ext e, h.2.2.2.2.2.2.ext e⟩
theorem Keep24.init (w : World) (x0 x1 z0 z1 z2 z3 : Value) (t t' : TypeId) : Keep24 w x0 x1 ((w.alloc (.cells #[x0, x1] t)).alloc (.cells #[z0, z1, z2, z3] t')) :=
  ⟨⟨((Ext.refl w).alloc _).alloc _⟩, cell_old (cell_new rfl rfl), cell_old (cell_new rfl rfl), fits_new (v := z0) (by simp) rfl, fits_new (v := z1) (by simp) rfl, fits_new (v := z2) (by simp) rfl, fits_new (v := z3) (by simp) rfl⟩

theorem ext_set4 {w w1 : World} {g : Nat} (h : Ext w w1) (hg : w.heap.size ≤ g) (v0 v1 v2 v3 : Value) :
    Ext w ((((w1.setCell ⟨g, 0, none⟩ v0).setCell ⟨g, 1, none⟩ v1).setCell ⟨g, 2, none⟩ v2).setCell ⟨g, 3, none⟩ v3) := (((h.set hg v0).set hg v1).set hg v2).set hg v3
theorem OV.set4 {b : Nat} {w : World} {v : Value} {xs : List Nat} (h : OV b w v xs) {g : Nat} (hg : g < b) (v0 v1 v2 v3 : Value) :
    OV b ((((w.setCell ⟨g, 0, none⟩ v0).setCell ⟨g, 1, none⟩ v1).setCell ⟨g, 2, none⟩ v2).setCell ⟨g, 3, none⟩ v3) v xs := (((h.set hg v0).set hg v1).set hg v2).set hg v3

set_option maxRecDepth 10000 in
set_option maxHeartbeats 1000000 in
theorem quotient_calls {w : World} {neg : Bool} {x y : Value} {a b : Nat} (hx : NV w x a) (hy : NV w y b) :
    Calls Tryz.prog 67 #[.agg #[.bool neg, x], y] w fun e w' => ∃ r, e = .returned r ∧ RO w.heap.size w' r (ratio neg a b) ∧ Ext w w' := by
  obtain ⟨A, c, n, rfl, hn5, hn⟩ := hx.form
  obtain ⟨B, d, m, rfl, hm5, hm⟩ := hy.form
  have HX := Aside.mk hx
  have HY := Aside.mk hy
  clear hx hy
  have hk0 := Keep24.init w (.bool neg) (.slice A n c) (.int .i64 0) (.bool false) (.slice none 0 0) (.slice none 0 0) 76 26
  rcases Nat.eq_zero_or_pos b with rfl | hb
  · have hm0 : m = 0 := by rw [hm.out, dig_zero]; rfl
    subst hm0
    have HS : Aside (ratio neg a 0 = fq 11) := ⟨by simp [ratio]⟩
    rw [HS.out]
    go_enter Tryz.func67, Tryz.ntmps67
    go_wp2_with (go_at_call 79; refine fault_calls.mono ?_; rintro e w1 ⟨rfl, he⟩; have hk := Keep24.ext he hk0; clear hk0)
    have HK := Aside.mk hk
    refine bodyPost_ret (v := .agg #[.int .i64 11, .bool false, .slice none 0 0, .slice none 0 0]) (by simp [results, Tryz.results67, go_sem, hk]) rfl ⟨_, rfl, RO.fq _ _ _, ?_⟩
    exact ext_set4 HK.out.1.out (Nat.le_succ _) _ _ _ _
  · have hm0 : 0 < m := by
      rw [hm.out]
      exact List.length_pos_iff.2 (fun h => by have := dig_nil_iff.1 h; omega)
    have hmne : ((m : Int) == 0) = false := by simp; omega
    obtain ⟨g, hg⟩ : ∃ g, Nat.gcd a b = g := ⟨_, rfl⟩
    have hg0 : 0 < g := by rw [← hg]; exact Nat.gcd_pos_of_pos_right a hb
    have HS : Aside (ratio neg a b = if isLong (a / g) || isLong (b / g) then fq 4 else ⟨0, neg && decide (0 < a), dig (a / g), dig (b / g)⟩) := ⟨by rw [ratio, if_neg (by omega), hg]⟩
    have HG0 := Aside.mk hg0
    have HGL : Aside ((dig g).length ≤ 512) := ⟨Nat.le_trans (dig_len_mono (by rw [← hg]; exact Nat.gcd_le_right a hb)) HY.out.2⟩
    have HAP : Aside (decide (0 < a / g) = decide (0 < a)) := ⟨by rw [← hg]; exact gcd_div_pos hb⟩
    have HG := Aside.mk hg
    clear hb hg hg0
    rw [HS.out]
    obtain ⟨na, hna⟩ : ∃ na, a / g = na := ⟨_, rfl⟩
    obtain ⟨nb, hnb⟩ : ∃ nb, b / g = nb := ⟨_, rfl⟩
    have HNA := Aside.mk hna
    have HNB := Aside.mk hnb
    rw [hna] at HAP
    rw [hna, hnb]
    have hlz : decide (0 < (dig na).length) = decide (0 < a) := by
      rw [← HAP.out]
      rcases Nat.eq_zero_or_pos na with h | h
      · subst h; rw [dig_zero]; rfl
      · have : 0 < (dig na).length := List.length_pos_iff.2 (fun h' => by have := dig_nil_iff.1 h'; omega)
        rw [decide_eq_true this, decide_eq_true h]
    generalize hda : decide (0 < a) = da at *
    have HLZ := Aside.mk hlz
    clear hna hnb hlz hda
    cases hla : isLong na
    · cases hlb : isLong nb
      · have HLA := Aside.mk hla
        have HLB := Aside.mk hlb
        clear hla hlb
        rw [if_neg (by simp)]
        cases neg
        · go_enter Tryz.func67, Tryz.ntmps67
          go_wp2_with (first | (go_at_call 110; refine (Gcd_calls (HX.out.ext hk0.1.out) (HY.out.ext hk0.1.out)).mono ?_; rw [HG.out]; rintro e w1 ⟨rg, rfl, hr, he⟩; have hk1 := Keep24.ext he hk0; have HZ1 := Aside.mk (World.block_lt_of_cell? _ _ hk1.2.2.2.1.1); have HR := Aside.mk hr; obtain ⟨A1, c1, rfl, _⟩ := hr.form; clear hk0 hr he) | (go_at_call 86; refine natural_calls.mono ?_; rintro e w' ⟨rfl, rfl⟩) | (go_at_call 104; with_reducible refine (Div_calls (HX.out.ext hk1.1.out) (NV.of HR.out.rv HGL.out) HG0.out).mono ?_; rw [HNA.out]; rintro e w2 ⟨q1, r1, rfl, hq, _, he⟩; have hk2 := Keep24.ext he hk1; have HQ1 := Aside.mk hq; obtain ⟨A2, c2, rfl, _⟩ := hq.form; have HE2 := Aside.mk he; clear hk1 hq he) | (go_at_call 104; with_reducible refine (Div_calls (HY.out.ext hk2.1.out) (NV.of (HR.out.ext HE2.out).rv HGL.out) HG0.out).mono ?_; rw [HNB.out]; rintro e w3 ⟨q2, r2, rfl, hq, _, he⟩; have hk3 := Keep24.ext he hk2; have HQ2 := Aside.mk hq; have HE3 := Aside.mk he; obtain ⟨A3, c3, rfl, _⟩ := hq.form; clear hk2 hq he) | (go_at_call 109; with_reducible refine (long_calls (HQ1.out.ext HE3.out).rv).mono ?_; rw [HLA.out]; rintro e w4 ⟨rfl, he⟩; have hk4 := Keep24.ext he hk3; have HE4 := Aside.mk he; clear hk3 he) | (go_at_call 109; with_reducible refine (long_calls (HQ2.out.ext HE4.out).rv).mono ?_; rw [HLB.out]; rintro e w5 ⟨rfl, he⟩; have hk5 := Keep24.ext he hk4; have HE5 := Aside.mk he; clear hk4 he))
          have HK := Aside.mk hk5
          have hlz := HLZ.out
          refine bodyPost_ret (v := .agg #[.int .i64 0, .bool (false && da), .slice A2 (dig na).length c2, .slice A3 (dig nb).length c3]) (by simp [results, Tryz.results67, go_sem, hk5]) rfl ⟨_, rfl, ⟨_, _, rfl, ?_, ?_⟩, ?_⟩
          · exact (((HQ1.out.ext (HE3.out.trans (HE4.out.trans HE5.out)))).set4 HZ1.out _ _ _ _).mono (by have := HZ1.out; omega)
          · exact ((HQ2.out.ext (HE4.out.trans HE5.out)).set4 (by have := HZ1.out; have := HE2.out.size; omega) _ _ _ _).mono (by have := HZ1.out; have := HE2.out.size; omega)
          · exact ext_set4 HK.out.1.out (Nat.le_succ _) _ _ _ _
        · go_enter Tryz.func67, Tryz.ntmps67
          go_wp2_with (first | (go_at_call 110; refine (Gcd_calls (HX.out.ext hk0.1.out) (HY.out.ext hk0.1.out)).mono ?_; rw [HG.out]; rintro e w1 ⟨rg, rfl, hr, he⟩; have hk1 := Keep24.ext he hk0; have HZ1 := Aside.mk (World.block_lt_of_cell? _ _ hk1.2.2.2.1.1); have HR := Aside.mk hr; obtain ⟨A1, c1, rfl, _⟩ := hr.form; clear hk0 hr he) | (go_at_call 86; refine natural_calls.mono ?_; rintro e w' ⟨rfl, rfl⟩) | (go_at_call 104; with_reducible refine (Div_calls (HX.out.ext hk1.1.out) (NV.of HR.out.rv HGL.out) HG0.out).mono ?_; rw [HNA.out]; rintro e w2 ⟨q1, r1, rfl, hq, _, he⟩; have hk2 := Keep24.ext he hk1; have HQ1 := Aside.mk hq; obtain ⟨A2, c2, rfl, _⟩ := hq.form; have HE2 := Aside.mk he; clear hk1 hq he) | (go_at_call 104; with_reducible refine (Div_calls (HY.out.ext hk2.1.out) (NV.of (HR.out.ext HE2.out).rv HGL.out) HG0.out).mono ?_; rw [HNB.out]; rintro e w3 ⟨q2, r2, rfl, hq, _, he⟩; have hk3 := Keep24.ext he hk2; have HQ2 := Aside.mk hq; have HE3 := Aside.mk he; obtain ⟨A3, c3, rfl, _⟩ := hq.form; clear hk2 hq he) | (go_at_call 109; with_reducible refine (long_calls (HQ1.out.ext HE3.out).rv).mono ?_; rw [HLA.out]; rintro e w4 ⟨rfl, he⟩; have hk4 := Keep24.ext he hk3; have HE4 := Aside.mk he; clear hk3 he) | (go_at_call 109; with_reducible refine (long_calls (HQ2.out.ext HE4.out).rv).mono ?_; rw [HLB.out]; rintro e w5 ⟨rfl, he⟩; have hk5 := Keep24.ext he hk4; have HE5 := Aside.mk he; clear hk4 he))
          have HK := Aside.mk hk5
          have hlz := HLZ.out
          refine bodyPost_ret (v := .agg #[.int .i64 0, .bool (true && da), .slice A2 (dig na).length c2, .slice A3 (dig nb).length c3]) (by simp [results, Tryz.results67, go_sem, hk5, hlz]) rfl ⟨_, rfl, ⟨_, _, rfl, ?_, ?_⟩, ?_⟩
          · exact (((HQ1.out.ext (HE3.out.trans (HE4.out.trans HE5.out)))).set4 HZ1.out _ _ _ _).mono (by have := HZ1.out; omega)
          · exact ((HQ2.out.ext (HE4.out.trans HE5.out)).set4 (by have := HZ1.out; have := HE2.out.size; omega) _ _ _ _).mono (by have := HZ1.out; have := HE2.out.size; omega)
          · exact ext_set4 HK.out.1.out (Nat.le_succ _) _ _ _ _
      · have HLA := Aside.mk hla
        have HLB := Aside.mk hlb
        clear hla hlb
        rw [if_pos (by simp)]
        go_enter Tryz.func67, Tryz.ntmps67
        go_wp2_with (first | (go_at_call 110; refine (Gcd_calls (HX.out.ext hk0.1.out) (HY.out.ext hk0.1.out)).mono ?_; rw [HG.out]; rintro e w1 ⟨rg, rfl, hr, he⟩; have hk1 := Keep24.ext he hk0; have HZ1 := Aside.mk (World.block_lt_of_cell? _ _ hk1.2.2.2.1.1); have HR := Aside.mk hr; obtain ⟨A1, c1, rfl, _⟩ := hr.form; clear hk0 hr he) | (go_at_call 86; refine natural_calls.mono ?_; rintro e w' ⟨rfl, rfl⟩) | (go_at_call 104; with_reducible refine (Div_calls (HX.out.ext hk1.1.out) (NV.of HR.out.rv HGL.out) HG0.out).mono ?_; rw [HNA.out]; rintro e w2 ⟨q1, r1, rfl, hq, _, he⟩; have hk2 := Keep24.ext he hk1; have HQ1 := Aside.mk hq; obtain ⟨A2, c2, rfl, _⟩ := hq.form; have HE2 := Aside.mk he; clear hk1 hq he) | (go_at_call 104; with_reducible refine (Div_calls (HY.out.ext hk2.1.out) (NV.of (HR.out.ext HE2.out).rv HGL.out) HG0.out).mono ?_; rw [HNB.out]; rintro e w3 ⟨q2, r2, rfl, hq, _, he⟩; have hk3 := Keep24.ext he hk2; have HQ2 := Aside.mk hq; have HE3 := Aside.mk he; obtain ⟨A3, c3, rfl, _⟩ := hq.form; clear hk2 hq he) | (go_at_call 109; with_reducible refine (long_calls (HQ1.out.ext HE3.out).rv).mono ?_; rw [HLA.out]; rintro e w4 ⟨rfl, he⟩; have hk4 := Keep24.ext he hk3; have HE4 := Aside.mk he; clear hk3 he) | (go_at_call 109; with_reducible refine (long_calls (HQ2.out.ext HE4.out).rv).mono ?_; rw [HLB.out]; rintro e w5 ⟨rfl, he⟩; have hk5 := Keep24.ext he hk4; have HE5 := Aside.mk he; clear hk4 he) | (go_at_call 79; refine fault_calls.mono ?_; rintro e w6 ⟨rfl, he⟩; have hk6 := Keep24.ext he hk5; clear hk5))
        have HK := Aside.mk hk6
        refine bodyPost_ret (v := .agg #[.int .i64 4, .bool false, .slice none 0 0, .slice none 0 0]) (by simp [results, Tryz.results67, go_sem, hk6]) rfl ⟨_, rfl, RO.fq _ _ _, ?_⟩
        exact ext_set4 HK.out.1.out (Nat.le_succ _) _ _ _ _
    · have HLA := Aside.mk hla
      clear hla
      rw [if_pos (by simp)]
      go_enter Tryz.func67, Tryz.ntmps67
      go_wp2_with (first | (go_at_call 110; refine (Gcd_calls (HX.out.ext hk0.1.out) (HY.out.ext hk0.1.out)).mono ?_; rw [HG.out]; rintro e w1 ⟨rg, rfl, hr, he⟩; have hk1 := Keep24.ext he hk0; have HZ1 := Aside.mk (World.block_lt_of_cell? _ _ hk1.2.2.2.1.1); have HR := Aside.mk hr; obtain ⟨A1, c1, rfl, _⟩ := hr.form; clear hk0 hr he) | (go_at_call 86; refine natural_calls.mono ?_; rintro e w' ⟨rfl, rfl⟩) | (go_at_call 104; with_reducible refine (Div_calls (HX.out.ext hk1.1.out) (NV.of HR.out.rv HGL.out) HG0.out).mono ?_; rw [HNA.out]; rintro e w2 ⟨q1, r1, rfl, hq, _, he⟩; have hk2 := Keep24.ext he hk1; have HQ1 := Aside.mk hq; obtain ⟨A2, c2, rfl, _⟩ := hq.form; have HE2 := Aside.mk he; clear hk1 hq he) | (go_at_call 104; with_reducible refine (Div_calls (HY.out.ext hk2.1.out) (NV.of (HR.out.ext HE2.out).rv HGL.out) HG0.out).mono ?_; rw [HNB.out]; rintro e w3 ⟨q2, r2, rfl, hq, _, he⟩; have hk3 := Keep24.ext he hk2; have HQ2 := Aside.mk hq; have HE3 := Aside.mk he; obtain ⟨A3, c3, rfl, _⟩ := hq.form; clear hk2 hq he) | (go_at_call 109; with_reducible refine (long_calls (HQ1.out.ext HE3.out).rv).mono ?_; rw [HLA.out]; rintro e w4 ⟨rfl, he⟩; have hk4 := Keep24.ext he hk3; have HE4 := Aside.mk he; clear hk3 he) | (go_at_call 79; refine fault_calls.mono ?_; rintro e w6 ⟨rfl, he⟩; have hk6 := Keep24.ext he hk4; clear hk4))
      have HK := Aside.mk hk6
      refine bodyPost_ret (v := .agg #[.int .i64 4, .bool false, .slice none 0 0, .slice none 0 0]) (by simp [results, Tryz.results67, go_sem, hk6]) rfl ⟨_, rfl, RO.fq _ _ _, ?_⟩
      exact ext_set4 HK.out.1.out (Nat.le_succ _) _ _ _ _
end Go.Proofs.YtgfkachfbnbikaaGreatDoor

namespace Go.Proofs.YtgfkachfbnbikaaGreatDoor
open Go.RowKit

/-- A result of four cells in block g. -/
abbrev Keep4 (w : World) (g : Nat) (w' : World) : Prop :=
  Aside (Ext w w') ∧ Fits w' ⟨g, 0, none⟩ ∧ Fits w' ⟨g, 1, none⟩ ∧ Fits w' ⟨g, 2, none⟩ ∧ Fits w' ⟨g, 3, none⟩
theorem Keep4.ext {w w1 w2 : World} {g : Nat} (e : Ext w1 w2) (h : Keep4 w g w1) : Keep4 w g w2 :=
  ⟨⟨h.1.out.trans e⟩, h.2.1.ext e, h.2.2.1.ext e, h.2.2.2.1.ext e, h.2.2.2.2.ext e⟩
theorem Keep4.init {w w0 : World} (h : Ext w w0) (z0 z1 z2 z3 : Value) (t : TypeId) : Keep4 w w0.heap.size (w0.alloc (.cells #[z0, z1, z2, z3] t)) :=
  ⟨⟨h.alloc _⟩, fits_new (v := z0) rfl rfl, fits_new (v := z1) rfl rfl, fits_new (v := z2) rfl rfl, fits_new (v := z3) rfl rfl⟩
theorem RO.form {b : Nat} {w : World} {v : Value} {q : Rq} (h : RO b w v q) : ∃ A c B d, v = .agg #[.int .i64 q.f, .bool q.neg, .slice A q.num.length c, .slice B q.den.length d] := by
  obtain ⟨x, y, rfl, h1, h2⟩ := h
  obtain ⟨A, c, rfl, _⟩ := h1.form
  obtain ⟨B, d, rfl, _⟩ := h2.form
  exact ⟨A, c, B, d, rfl⟩
theorem RO.set4 {b : Nat} {w : World} {v : Value} {q : Rq} (h : RO b w v q) {g : Nat} (hg : g < b) (v0 v1 v2 v3 : Value) :
    RO b ((((w.setCell ⟨g, 0, none⟩ v0).setCell ⟨g, 1, none⟩ v1).setCell ⟨g, 2, none⟩ v2).setCell ⟨g, 3, none⟩ v3) v q := (((h.set hg v0).set hg v1).set hg v2).set hg v3

theorem quotient_q {w : World} {neg : Bool} {x y : Value} {a b : Nat} {q : Rq} (hx : NV w x a) (hy : NV w y b) (hq : ratio neg a b = q) :
    Calls Tryz.prog 67 #[.agg #[.bool neg, x], y] w fun e w' => ∃ r, e = .returned r ∧ RO w.heap.size w' r q ∧ Ext w w' := by
  subst hq
  exact quotient_calls hx hy

theorem size_of {w : World} {n : Int} (h1 : -9223372036854775808 ≤ n) (h2 : n ≤ 9223372036854775807) :
    Calls Tryz.prog 66 #[.int .i64 n] w fun e w' => ∃ r, e = .returned (.tuple #[.bool (decide (n < 0)), r]) ∧ OV w.heap.size w' r (dig n.natAbs) ∧ Ext w w' := by
  obtain ⟨a, ha⟩ : ∃ a, n.natAbs = a := ⟨_, rfl⟩
  have HA : Aside (a < 18446744073709551616) := ⟨by omega⟩
  rw [ha]
  rcases Int.lt_or_le n 0 with hn | hn
  · have hd : decide (n < 0) = true := by simp [hn]
    have hw : IntKind.u64.wrap (-IntKind.u64.wrap n) = (a : Int) := by rw [wrap_u64, wrap_u64]; omega
    have hw2 : IntKind.u64.wrap (0 - IntKind.u64.wrap n) = (a : Int) := by rw [wrap_u64, wrap_u64]; omega
    rw [hd]
    clear h1 h2 hd ha
    go_enter Tryz.func66, Tryz.ntmps66
    go_wp2_with (go_at_call 121; refine (of_calls HA.out).mono ?_; rintro e w1 ⟨r, rfl, hr, he⟩; have HR := Aside.mk hr; have HE := Aside.mk he; clear hr he)
    go_ret2
    exact ⟨r, rfl, HR.out, HE.out⟩
  · have hd : decide (n < 0) = false := by simp [hn]
    have hw : IntKind.u64.wrap n = (a : Int) := by rw [wrap_u64]; omega
    rw [hd]
    clear h1 h2 hd ha
    go_enter Tryz.func66, Tryz.ntmps66
    go_wp2_with (go_at_call 121; refine (of_calls HA.out).mono ?_; rintro e w1 ⟨r, rfl, hr, he⟩; have HR := Aside.mk hr; have HE := Aside.mk he; clear hr he)
    go_ret2
    exact ⟨r, rfl, HR.out, HE.out⟩

theorem nv64 {a : Nat} (h : a < 18446744073709551616) : (dig a).length ≤ 512 := Nat.le_trans (dig_length_le (k := 2) (by omega)) (by omega)

set_option maxHeartbeats 400000 in
theorem Of_calls {w : World} {n d : Int} (h1 : -9223372036854775808 ≤ n) (h2 : n ≤ 9223372036854775807) (h3 : -9223372036854775808 ≤ d) (h4 : d ≤ 9223372036854775807) :
    Calls Tryz.prog 16 #[.int .i64 n, .int .i64 d] w fun e w' => ∃ r, e = .returned (.tuple #[r, .int .i64 0]) ∧ RO w.heap.size w' r (ratio (decide (n < 0) != decide (d < 0)) n.natAbs d.natAbs) ∧ Ext w w' := by
  have HN : Aside ((dig n.natAbs).length ≤ 512) := ⟨nv64 (by omega)⟩
  have HD : Aside ((dig d.natAbs).length ≤ 512) := ⟨nv64 (by omega)⟩
  have H1 := Aside.mk h1
  have H2 := Aside.mk h2
  have H3 := Aside.mk h3
  have H4 := Aside.mk h4
  clear h1 h2 h3 h4
  have hk0 := Keep4.init (Ext.refl w) (.int .i64 0) (.bool false) (.slice none 0 0) (.slice none 0 0) 26
  generalize hbn : decide (n < 0) = bn
  generalize hbd : decide (d < 0) = bd
  obtain ⟨q, hq⟩ : ∃ q, ratio (!bn == bd) n.natAbs d.natAbs = q := ⟨_, rfl⟩
  have HQ := Aside.mk hq
  rw [show (bn != bd) = (!bn == bd) from by cases bn <;> cases bd <;> rfl, hq]
  clear hq
  have HBN := Aside.mk hbn
  have HBD := Aside.mk hbd
  clear hbn hbd
  go_enter Tryz.func16, Tryz.ntmps16
  go_wp2_with (first | (go_at_call 66; with_reducible refine (size_of H1.out H2.out).mono ?_; rw [HBN.out]; rintro e w1 ⟨r, rfl, hr, he⟩; have hk1 := Keep4.ext he hk0; have HZ1 := Aside.mk (World.block_lt_of_cell? _ _ hk1.2.1.1); have HR := Aside.mk hr; obtain ⟨A1, c1, rfl, _⟩ := hr.form; clear hk0 hr he) | (go_at_call 66; with_reducible refine (size_of H3.out H4.out).mono ?_; rw [HBD.out]; rintro e w2 ⟨r, rfl, hr, he⟩; have hk2 := Keep4.ext he hk1; have HE2 := Aside.mk he; have HR2 := Aside.mk hr; obtain ⟨A2, c2, rfl, _⟩ := hr.form; clear hk1 hr he) | (go_at_call 67; with_reducible refine (quotient_q (NV.of (HR.out.ext HE2.out).rv HN.out) (NV.of HR2.out.rv HD.out) HQ.out).mono ?_; rintro e w3 ⟨r, rfl, hr, he⟩; have hk3 := Keep4.ext he hk2; have HE3 := Aside.mk he; have HR3 := Aside.mk hr; obtain ⟨A3, c3, A4, c4, rfl⟩ := hr.form; clear hk2 hr he))
  have HK := Aside.mk hk3
  refine bodyPost_ret (v := .tuple #[.agg #[.int .i64 q.f, .bool q.neg, .slice A3 q.num.length c3, .slice A4 q.den.length c4], .int .i64 0]) (by simp [results, Tryz.results16, go_sem, hk3]) rfl ⟨_, rfl, ?_, ?_⟩
  · exact (HR3.out.set4 (by have := HE2.out.size; have := HZ1.out; omega) _ _ _ _).mono (by have := HE2.out.size; have := HZ1.out; omega)
  · exact ext_set4 HK.out.1.out (Nat.le_refl _) _ _ _ _

/-- Make returns a quotient. -/
theorem Make_calls {w : World} {neg : Bool} {x y : Value} {xs ys : List Nat} (hx : RV w x xs) (hy : RV w y ys) :
    Calls Tryz.prog 20 #[.bool neg, x, y] w fun e w' => (if natErr xs = 0 ∧ natErr ys = 0 then ∃ r, e = .returned (.tuple #[r, .int .i64 0]) ∧ RO w.heap.size w' r (ratio neg (val xs) (val ys))
      else e = .returned (.tuple #[.agg #[.int .i64 0, .bool false, .slice none 0 0, .slice none 0 0], .int .i64 5])) ∧ Ext w w' := by
  have HX := Aside.mk hx
  have HY := Aside.mk hy
  have HXD := Aside.mk hx.dg.2
  have HYD := Aside.mk hy.dg.2
  obtain ⟨A, c, rfl, _, _⟩ := hx
  obtain ⟨B, d, rfl, _, _⟩ := hy
  have hk0 := Keep4.init (Ext.refl w) (.int .i64 0) (.bool false) (.slice none 0 0) (.slice none 0 0) 26
  have hz0 : w.heap.size < (w.alloc (.cells #[.int .i64 0, .bool false, .slice none 0 0, .slice none 0 0] 26)).heap.size := by simp
  have HZ0 := Aside.mk hz0
  clear hz0
  by_cases h1 : natErr xs = 0
  · have HE1 : Aside (decide (natErr xs = 0) = true) := ⟨by simp [h1]⟩
    obtain ⟨hl1, hv1⟩ := natErr_zero HXD.out h1
    have HN1 : Aside (NV w (.slice A xs.length c) (val xs)) := ⟨by have h := HX.out; rw [hv1] at h; rw [hv1]; rw [val_dig]; exact ⟨by simpa [val_dig] using h, by rw [← hv1]; exact hl1⟩⟩
    by_cases h2 : natErr ys = 0
    · have HE2 : Aside (decide (natErr ys = 0) = true) := ⟨by simp [h2]⟩
      obtain ⟨hl2, hv2⟩ := natErr_zero HYD.out h2
      have HN2 : Aside (NV w (.slice B ys.length d) (val ys)) := ⟨by have h := HY.out; rw [hv2] at h; rw [hv2]; rw [val_dig]; exact ⟨by simpa [val_dig] using h, by rw [← hv2]; exact hl2⟩⟩
      have hif : (natErr xs = 0 ∧ natErr ys = 0) = True := by simp [h1, h2]
      simp only [hif, if_true]
      clear hif
      obtain ⟨q, hq⟩ : ∃ q, ratio neg (val xs) (val ys) = q := ⟨_, rfl⟩
      have HQ := Aside.mk hq
      rw [hq]
      clear hq h1 h2 hl1 hl2 hv1 hv2
      go_enter Tryz.func20, Tryz.ntmps20
      go_wp2_with (first | (go_at_call 70; with_reducible refine (isnat_calls (HX.out.ext hk0.1.out)).mono ?_; rw [HE1.out]; rintro e w1 ⟨rfl, he⟩; have hk1 := Keep4.ext he hk0; have HF1 := Aside.mk he; clear hk0 he) | (go_at_call 70; with_reducible refine (isnat_calls (HY.out.ext hk1.1.out)).mono ?_; rw [HE2.out]; rintro e w2 ⟨rfl, he⟩; have hk2 := Keep4.ext he hk1; have HF2 := Aside.mk he; clear hk1 he) | (go_at_call 67; with_reducible refine (quotient_q (HN1.out.ext hk2.1.out) (HN2.out.ext hk2.1.out) HQ.out).mono ?_; rintro e w3 ⟨r, rfl, hr, he⟩; have hk3 := Keep4.ext he hk2; have HR3 := Aside.mk hr; obtain ⟨A3, c3, A4, c4, rfl⟩ := hr.form; clear hk2 hr he))
      have HK := Aside.mk hk3
      have hs : w.heap.size + 1 ≤ _ := Nat.le_trans (Nat.le_of_lt_succ (Nat.lt_succ_of_le HZ0.out)) (Nat.le_trans HF1.out.size HF2.out.size)
      refine bodyPost_ret (v := .tuple #[.agg #[.int .i64 q.f, .bool q.neg, .slice A3 q.num.length c3, .slice A4 q.den.length c4], .int .i64 0]) (by simp [results, Tryz.results20, go_sem, hk3]) rfl ⟨⟨_, rfl, ?_⟩, ?_⟩
      · exact (HR3.out.set4 hs _ _ _ _).mono (Nat.le_of_succ_le hs)
      · exact ext_set4 HK.out.1.out (Nat.le_refl _) _ _ _ _
    · have HE2 : Aside (decide (natErr ys = 0) = false) := ⟨by simp [h2]⟩
      have hif : (natErr xs = 0 ∧ natErr ys = 0) = False := by simp [h2]
      simp only [hif, if_false]
      clear hif
      clear h1 h2 hl1 hv1
      go_enter Tryz.func20, Tryz.ntmps20
      go_wp2_with (first | (go_at_call 70; with_reducible refine (isnat_calls (HX.out.ext hk0.1.out)).mono ?_; rw [HE1.out]; rintro e w1 ⟨rfl, he⟩; have hk1 := Keep4.ext he hk0; have HF1 := Aside.mk he; clear hk0 he) | (go_at_call 70; with_reducible refine (isnat_calls (HY.out.ext hk1.1.out)).mono ?_; rw [HE2.out]; rintro e w2 ⟨rfl, he⟩; have hk2 := Keep4.ext he hk1; have HF2 := Aside.mk he; clear hk1 he))
      have HK := Aside.mk hk2
      refine bodyPost_ret (v := .tuple #[.agg #[.int .i64 0, .bool false, .slice none 0 0, .slice none 0 0], .int .i64 5]) (by simp [results, Tryz.results20, go_sem, hk2]) rfl ⟨rfl, ?_⟩
      exact ext_set4 HK.out.1.out (Nat.le_refl _) _ _ _ _
  · have HE1 : Aside (decide (natErr xs = 0) = false) := ⟨by simp [h1]⟩
    have hif : (natErr xs = 0 ∧ natErr ys = 0) = False := by simp [h1]
    simp only [hif, if_false]
    clear hif
    clear h1
    go_enter Tryz.func20, Tryz.ntmps20
    go_wp2_with (go_at_call 70; with_reducible refine (isnat_calls (HX.out.ext hk0.1.out)).mono ?_; rw [HE1.out]; rintro e w1 ⟨rfl, he⟩; have hk1 := Keep4.ext he hk0; have HF1 := Aside.mk he; clear hk0 he)
    have HK := Aside.mk hk1
    refine bodyPost_ret (v := .tuple #[.agg #[.int .i64 0, .bool false, .slice none 0 0, .slice none 0 0], .int .i64 5]) (by simp [results, Tryz.results20, go_sem, hk1]) rfl ⟨rfl, ?_⟩
    exact ext_set4 HK.out.1.out (Nat.le_refl _) _ _ _ _
end Go.Proofs.YtgfkachfbnbikaaGreatDoor
