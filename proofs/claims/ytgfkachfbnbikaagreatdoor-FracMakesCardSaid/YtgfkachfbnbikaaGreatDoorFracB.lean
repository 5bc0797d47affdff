/- Contracts of package frac: plus. -/
import Derived.Test.YtgfkachfbnbikaaGreatDoorFracA
namespace Go.Proofs.YtgfkachfbnbikaaGreatDoor
open Go.RowKit

/-- The sum of two whole numbers with signs. -/
def ssum (n1 : Bool) (a : Nat) (n2 : Bool) (b : Nat) : Bool × Nat := if n1 = n2 then (n1, a + b) else if a < b then (n2, b - a) else (n1, a - b)

/-- Two boxes of two cells, and a result of two. -/
abbrev Keep22 (w : World) (x0 x1 y0 y1 : Value) (w' : World) : Prop :=
  Aside (Ext w w') ∧ w'.cell? ⟨w.heap.size, 0, none⟩ = some x0 ∧ w'.cell? ⟨w.heap.size, 1, none⟩ = some x1 ∧ w'.cell? ⟨w.heap.size + 1, 0, none⟩ = some y0 ∧ w'.cell? ⟨w.heap.size + 1, 1, none⟩ = some y1 ∧ Fits w' ⟨w.heap.size + 2, 0, none⟩ ∧ Fits w' ⟨w.heap.size + 2, 1, none⟩
theorem Keep22.ext {w w1 w2 : World} {x0 x1 y0 y1 : Value} (e : Ext w1 w2) (h : Keep22 w x0 x1 y0 y1 w1) : Keep22 w x0 x1 y0 y1 w2 :=
  ⟨⟨h.1.out.trans e⟩, e.cell h.2.1, e.cell h.2.2.1, e.cell h.2.2.2.1, e.cell h.2.2.2.2.1, h.2.2.2.2.2.1.ext e, h.2.2.2.2.2.2.ext e⟩
theorem cell_other {w : World} {g j g' j' : Nat} {v u : Value} (h : w.cell? ⟨g, j, none⟩ = some u) (hg : g' ≠ g) : (w.setCell ⟨g', j', none⟩ v).cell? ⟨g, j, none⟩ = some u :=
  (World.cell?_setCell_other _ _ _ v (by intro hh; injection hh with hh; omega)).trans h
theorem Keep22.set {w w1 : World} {x0 x1 y0 y1 : Value} (h : Keep22 w x0 x1 y0 y1 w1) (j : Nat) (v : Value) : Keep22 w x0 x1 y0 y1 (w1.setCell ⟨w.heap.size + 2, j, none⟩ v) :=
  ⟨⟨h.1.out.set (by show w.heap.size ≤ w.heap.size + 2; omega) v⟩, cell_other h.2.1 (by omega), cell_other h.2.2.1 (by omega), cell_other h.2.2.2.1 (by omega), cell_other h.2.2.2.2.1 (by omega), h.2.2.2.2.2.1.set _ _, h.2.2.2.2.2.2.set _ _⟩
theorem cell_old {w : World} {o : Obj} {g j : Nat} {v : Value} (h : w.cell? ⟨g, j, none⟩ = some v) : (w.alloc o).cell? ⟨g, j, none⟩ = some v := ((Ext.refl w).alloc o).cell h
theorem cell_new {w : World} {cs : Array Value} {t : TypeId} {g j : Nat} {v : Value} (hg : g = w.heap.size) (h : cs[j]? = some v) : (w.alloc (.cells cs t)).cell? ⟨g, j, none⟩ = some v := by
  subst hg; rw [World.cell?_alloc_new]; exact h
theorem fits_new {w : World} {cs : Array Value} {t : TypeId} {g j : Nat} {v : Value} (hg : g = w.heap.size) (h : cs[j]? = some v) : Fits (w.alloc (.cells cs t)) ⟨g, j, none⟩ :=
  Fits.of (cell_new hg h) (by subst hg; simp)
theorem Keep22.init (w : World) (x0 x1 y0 y1 z0 z1 : Value) (t t' t'' : TypeId) : Keep22 w x0 x1 y0 y1 (((w.alloc (.cells #[x0, x1] t)).alloc (.cells #[y0, y1] t')).alloc (.cells #[z0, z1] t'')) := by
  refine ⟨⟨(((Ext.refl w).alloc _).alloc _).alloc _⟩, cell_old (cell_old (cell_new rfl rfl)), cell_old (cell_old (cell_new rfl rfl)), cell_old (cell_new (by simp) rfl), cell_old (cell_new (by simp) rfl), fits_new (v := z0) (by simp) rfl, fits_new (v := z1) (by simp) rfl⟩

theorem cell_same {w : World} {p : Addr} {v u : Value} (h : w.cell? p = some u) : (w.setCell p v).cell? p = some v := World.cell?_setCell_same w p v h
theorem cell_beside {w : World} {g j g' j' : Nat} {v u : Value} (h : w.cell? ⟨g, j, none⟩ = some u) (hj : j' ≠ j) : (w.setCell ⟨g', j', none⟩ v).cell? ⟨g, j, none⟩ = some u :=
  (World.cell?_setCell_other _ _ _ v (by intro hh; injection hh with hh hh'; omega)).trans h
theorem Keep22.swap {w w0 : World} {x0 x1 y0 y1 : Value} (h : Keep22 w x0 x1 y0 y1 w0) :
    Keep22 w y0 y1 x0 x1 ((((w0.setCell ⟨w.heap.size, 0, none⟩ y0).setCell ⟨w.heap.size, 1, none⟩ y1).setCell ⟨w.heap.size + 1, 0, none⟩ x0).setCell ⟨w.heap.size + 1, 1, none⟩ x1) := by
  have hx0 := h.2.1
  have hx1 := h.2.2.1
  have hy0 := h.2.2.2.1
  have hy1 := h.2.2.2.2.1
  have hn : w.heap.size ≠ w.heap.size + 1 := by omega
  refine ⟨⟨(((h.1.out.set (Nat.le_refl _) _).set (Nat.le_refl _) _).set (Nat.le_succ _) _).set (Nat.le_succ _) _⟩, ?_, ?_, ?_, ?_, (((h.2.2.2.2.2.1.set _ _).set _ _).set _ _).set _ _, (((h.2.2.2.2.2.2.set _ _).set _ _).set _ _).set _ _⟩
  · exact cell_other (cell_other (cell_beside (cell_same hx0) (by omega)) (by omega)) (by omega)
  · exact cell_other (cell_other (cell_same (cell_beside hx1 (by omega))) (by omega)) (by omega)
  · exact cell_beside (cell_same (cell_other (cell_other hy0 (by omega)) (by omega))) (by omega)
  · exact cell_same (cell_beside (cell_other (cell_other hy1 (by omega)) (by omega)) (by omega))

set_option maxRecDepth 10000 in
set_option maxHeartbeats 2000000 in
theorem whole_plus {w : World} {n1 n2 : Bool} {x y : Value} {a b : Nat} (hx : NV w x a) (hy : NV w y b) :
    Calls Tryz.prog 105 #[.agg #[.bool n1, x], .agg #[.bool n2, y]] w fun e w' => ∃ r, e = .returned (.agg #[.bool (ssum n1 a n2 b).1, r]) ∧ OV w.heap.size w' r (dig (ssum n1 a n2 b).2) ∧ Ext w w' := by
  obtain ⟨A, c, n, rfl, _, _⟩ := hx.form
  obtain ⟨B, d, m, rfl, _, _⟩ := hy.form
  have HX := Aside.mk hx
  have HY := Aside.mk hy
  clear hx hy
  by_cases hn : n1 = n2
  · subst hn
    have HS : Aside (ssum n1 a n1 b = (n1, a + b)) := ⟨by simp [ssum]⟩
    rw [HS.out]
    go_enter Tryz.func105, Tryz.ntmps105
    go_wp2
    have hk0 := (Keep22.init w (.bool n1) (.slice A n c) (.bool n1) (.slice B m d) (.bool false) (.slice none 0 0) 76 76 76).ext ((Ext.refl _).drew)
    go_region_held (fun w' => Keep22 w (.bool n1) (.slice A n c) (.bool n1) (.slice B m d) w')
      (first | assumption | exact Keep22.ext (by assumption) (by assumption) | exact (Keep22.set (by assumption) _ _).set _ _) (first | (go_at_call 149; refine (Add_calls (HX.out.ext (Aside.out (And.left (show Keep22 w (.bool n1) (.slice A n c) (.bool n1) (.slice B m d) _ from by assumption)))) (HY.out.ext (Aside.out (And.left (show Keep22 w (.bool n1) (.slice A n c) (.bool n1) (.slice B m d) _ from by assumption))))).mono ?_; rintro e w1 ⟨r, rfl, hr, he⟩; have HR := Aside.mk hr; obtain ⟨A1, c1, rfl, _⟩ := hr.form; clear hr) | (go_at_call 86; refine natural_calls.mono ?_; rintro e w' ⟨rfl, rfl⟩))
    have hk := Keep22.ext he hk0
    have hc0 := hk.2.2.2.2.2.1.1
    have hc1 := hk.2.2.2.2.2.2.1
    go_wp2
    refine bodyPost_ret (v := .agg #[.bool n1, .slice A1 (dig (a + b)).length c1]) (by simp [results, Tryz.results105, go_sem, hc0, hc1]) rfl ⟨_, rfl, ?_, ?_⟩
    · refine ((HR.out.set ?_ _).set ?_ _).mono ?_
      · simp
      · simp
      · simp; omega
    · exact (hk.1.out.set (by show w.heap.size ≤ w.heap.size + 2; omega) _).set (by show w.heap.size ≤ w.heap.size + 2; omega) _
  · have hne : (n1 == n2) = false := by simp [hn]
    have hk0 := (Keep22.init w (.bool n1) (.slice A n c) (.bool n2) (.slice B m d) (.bool false) (.slice none 0 0) 76 76 76)
    rcases Nat.lt_or_ge a b with hab | hab
    · have HS : Aside (ssum n1 a n2 b = (n2, b - a)) := ⟨by simp [ssum, hn, hab]⟩
      have HAB := Aside.mk hab
      rw [HS.out]
      have hcmp : cmpN a b = -1 := by simp [cmpN, hab]
      clear hn hab
      go_enter Tryz.func105, Tryz.ntmps105
      go_wp2_with (go_at_call 150; refine (Compare_calls (HX.out.ext hk0.1.out) (HY.out.ext hk0.1.out)).mono ?_; rintro e w0 ⟨rfl, he0⟩; have hk1 := Keep22.ext he0 hk0; have hf1 := he0.frees w.heap.size; have hf2 := he0.frees (w.heap.size + 1); clear hk0)
      have hk2 := (Keep22.swap hk1).ext ((Ext.refl _).drew)
      have HLE := Aside.mk (Nat.le_of_lt HAB.out)
      go_region_held (fun w' => Keep22 w (.bool n2) (.slice B m d) (.bool n1) (.slice A n c) w')
        (first | assumption | exact Keep22.ext (by assumption) (by assumption) | exact (Keep22.set (by assumption) _ _).set _ _) (first | (go_at_call 151; refine (Sub_calls (HY.out.ext (Aside.out (And.left (show Keep22 w (.bool n2) (.slice B m d) (.bool n1) (.slice A n c) _ from by assumption)))) (HX.out.ext (Aside.out (And.left (show Keep22 w (.bool n2) (.slice B m d) (.bool n1) (.slice A n c) _ from by assumption)))) HLE.out).mono ?_; rintro e w1 ⟨r, rfl, hr, he⟩; have HR := Aside.mk hr; obtain ⟨A1, c1, rfl, _⟩ := hr.form; clear hr) | (go_at_call 86; refine natural_calls.mono ?_; rintro e w' ⟨rfl, rfl⟩))
      have hk := Keep22.ext he hk2
      have hc0 := hk.2.2.2.2.2.1.1
      have hc1 := hk.2.2.2.2.2.2.1
      have hsz := hk2.1.out.size
      have hs2 := World.block_lt_of_cell? _ _ hk2.2.2.2.2.2.1.1
      go_wp2
      refine bodyPost_ret (v := .agg #[.bool n2, .slice A1 (dig (b - a)).length c1]) (by simp [results, Tryz.results105, go_sem, hc0, hc1]) rfl ⟨_, rfl, ?_, ?_⟩
      · exact ((HR.out.set hs2 _).set hs2 _).mono hsz
      · exact (hk.1.out.set (by show w.heap.size ≤ w.heap.size + 2; omega) _).set (by show w.heap.size ≤ w.heap.size + 2; omega) _
    · have HS : Aside (ssum n1 a n2 b = (n1, a - b)) := ⟨by simp [ssum, hn]; intro h; omega⟩
      have HLE := Aside.mk hab
      rw [HS.out]
      have hcmp : decide (cmpN a b < 0) = false := by
        unfold cmpN; rw [if_neg (by omega)]; split <;> rfl
      clear hn hab
      go_enter Tryz.func105, Tryz.ntmps105
      go_wp2_with (go_at_call 150; refine (Compare_calls (HX.out.ext hk0.1.out) (HY.out.ext hk0.1.out)).mono ?_; rintro e w0 ⟨rfl, he0⟩; have hk1 := Keep22.ext he0 hk0; clear hk0)
      have hk2 := hk1.ext ((Ext.refl _).drew)
      go_region_held (fun w' => Keep22 w (.bool n1) (.slice A n c) (.bool n2) (.slice B m d) w')
        (first | assumption | exact Keep22.ext (by assumption) (by assumption) | exact (Keep22.set (by assumption) _ _).set _ _) (first | (go_at_call 151; refine (Sub_calls (HX.out.ext (Aside.out (And.left (show Keep22 w (.bool n1) (.slice A n c) (.bool n2) (.slice B m d) _ from by assumption)))) (HY.out.ext (Aside.out (And.left (show Keep22 w (.bool n1) (.slice A n c) (.bool n2) (.slice B m d) _ from by assumption)))) HLE.out).mono ?_; rintro e w1 ⟨r, rfl, hr, he⟩; have HR := Aside.mk hr; obtain ⟨A1, c1, rfl, _⟩ := hr.form; clear hr) | (go_at_call 86; refine natural_calls.mono ?_; rintro e w' ⟨rfl, rfl⟩))
      have hk := Keep22.ext he hk2
      have hc0 := hk.2.2.2.2.2.1.1
      have hc1 := hk.2.2.2.2.2.2.1
      have hsz := hk2.1.out.size
      have hs2 := World.block_lt_of_cell? _ _ hk2.2.2.2.2.2.1.1
      go_wp2
      refine bodyPost_ret (v := .agg #[.bool n1, .slice A1 (dig (a - b)).length c1]) (by simp [results, Tryz.results105, go_sem, hc0, hc1]) rfl ⟨_, rfl, ?_, ?_⟩
      · exact ((HR.out.set hs2 _).set hs2 _).mono hsz
      · exact (hk.1.out.set (by show w.heap.size ≤ w.heap.size + 2; omega) _).set (by show w.heap.size ≤ w.heap.size + 2; omega) _
end Go.Proofs.YtgfkachfbnbikaaGreatDoor
