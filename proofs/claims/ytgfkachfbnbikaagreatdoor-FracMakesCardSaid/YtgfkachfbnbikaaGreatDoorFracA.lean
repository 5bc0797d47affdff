/- Contracts of package frac: long, natural, fault, isFault, of, times. -/
import Derived.Test.YtgfkachfbnbikaaGreatDoorNatI
import Derived.Deep.RegionHeld
namespace Go.Proofs.YtgfkachfbnbikaaGreatDoor
open Go.RowKit

theorem natural_calls {w : World} {u v : Value} : Calls Tryz.prog 86 #[u, v] w fun e w' => e = .returned u ∧ w = w' := by
  go_enter Tryz.func86, Tryz.ntmps86
  go_wp2
  go_ret
  exact ⟨rfl, rfl⟩

/-- Too long: more than 4096 binary digits. -/
def isLong (a : Nat) : Bool := decide (4096 < blen a)
theorem isLong_false {a : Nat} : isLong a = false ↔ (dig a).length ≤ 128 := by
  unfold isLong
  have h := @blen_le a 4096
  rw [dig_length_iff, show (4294967296 : Nat) = 2 ^ 32 from rfl, ← Nat.pow_mul, show 32 * 128 = 4096 from rfl, ← h]
  constructor
  · intro hh; have := of_decide_eq_false hh; omega
  · intro hh; exact decide_eq_false (by omega)

theorem long_calls {w : World} {u : Value} {a : Nat} (h : RV w u (dig a)) :
    Calls Tryz.prog 109 #[u] w fun e w' => e = .returned (.bool (isLong a)) ∧ Ext w w' := by
  have H := Aside.mk h
  have hd : (512 < (dig a).length → isLong a = true) := by
    intro h5
    cases hh : isLong a
    · have := isLong_false.1 hh; omega
    · rfl
  have hb : decide ((4096 : Int) < (blen a : Int)) = isLong a := by
    unfold isLong
    by_cases hh : 4096 < blen a
    · rw [decide_eq_true hh, decide_eq_true (by omega)]
    · rw [decide_eq_false hh, decide_eq_false (by omega)]
  generalize isLong a = d at *
  clear h
  have HD := Aside.mk hd
  obtain ⟨m, hbl⟩ : ∃ m, blen a = m := ⟨_, rfl⟩
  rw [hbl] at hb
  rcases Nat.lt_or_ge 512 (dig a).length with h5 | h5
  · have hdd : d = true := hd h5
    subst hdd
    have HN := Aside.mk (show ¬ (dig a).length ≤ 512 by omega)
    clear hd hb h5
    go_enter Tryz.func109, Tryz.ntmps109
    go_wp2_with (go_at_call 152; refine (bits_calls H.out).mono ?_; rw [if_neg HN.out]; rintro e w' ⟨rfl, he⟩; have HE := Aside.mk he; clear he)
    go_ret
    exact ⟨rfl, HE.out⟩
  · have HN := Aside.mk h5
    have HB := Aside.mk hbl
    clear hd h5 hbl
    go_enter Tryz.func109, Tryz.ntmps109
    go_wp2_with (go_at_call 152; refine (bits_calls H.out).mono ?_; rw [if_pos HN.out, HB.out]; rintro e w' ⟨rfl, he⟩; have HE := Aside.mk he; clear he)
    go_ret
    exact ⟨rfl, HE.out⟩

theorem isfault_calls {w : World} {f : Int} : Calls Tryz.prog 108 #[.int .i64 f] w fun e w' => e = .returned (.bool (f == 4 || f == 11)) ∧ w = w' := by
  cases h1 : (f == 4)
  · go_enter Tryz.func108, Tryz.ntmps108
    go_wp2
    go_ret
    exact ⟨rfl, rfl⟩
  · go_enter Tryz.func108, Tryz.ntmps108
    go_wp2
    go_ret
    exact ⟨rfl, rfl⟩

theorem fault_calls {w : World} {f : Int} :
    Calls Tryz.prog 79 #[.int .i64 f] w fun e w' => e = .returned (.agg #[.int .i64 f, .bool false, .slice none 0 0, .slice none 0 0]) ∧ Ext w w' := by
  go_enter Tryz.func79, Tryz.ntmps79
  go_wp2
  refine bodyPost_ret (v := .agg #[.int .i64 f, .bool false, .slice none 0 0, .slice none 0 0]) (by simp [results, Tryz.results79, go_sem]) rfl ?_
  exact ⟨rfl, (Ext.refl w).alloc _⟩

theorem whole_of {w : World} {f : Int} {neg : Bool} {x y : Value} {a : Nat} {ys : List Nat} (hx : RV w x (dig a)) (hy : RV w y ys) :
    Calls Tryz.prog 116 #[.agg #[.int .i64 f, .bool neg, x, y]] w fun e w' => e = .returned (.agg #[.bool neg, x]) ∧ Ext w w' := by
  obtain ⟨A, c, rfl, _⟩ := hx
  obtain ⟨B, d, rfl, _⟩ := hy
  go_enter Tryz.func116, Tryz.ntmps116
  go_wp2
  refine bodyPost_ret (v := .agg #[.bool neg, .slice A (dig a).length c]) (by simp [results, Tryz.results116, go_sem]) rfl ?_
  exact ⟨rfl, ((Ext.refl w).alloc _).alloc _⟩

/-- What a cell holds. -/
def cellAt (w : World) (p : Addr) : Value := (w.cell? p).getD undef
/-- A cell is there, and may be written. -/
abbrev Fits (w : World) (p : Addr) : Prop := w.cell? p = some (cellAt w p) ∧ w.frozen? p = false
theorem Fits.of {w : World} {p : Addr} {v : Value} (h : w.cell? p = some v) (hf : w.frozen? p = false) : Fits w p := ⟨by rw [cellAt, h]; rfl, hf⟩
theorem Fits.ext {a b : World} (e : Ext a b) {g j : Nat} (h : Fits a ⟨g, j, none⟩) : Fits b ⟨g, j, none⟩ :=
  Fits.of (e.cell h.1) (by rw [e.frees g j (World.block_lt_of_cell? a _ h.1)]; exact h.2)
theorem Fits.set {a : World} {p : Addr} (h : Fits a p) (q : Addr) (v : Value) : Fits (a.setCell q v) p := by
  by_cases e : q = p
  · subst e
    exact Fits.of (World.cell?_setCell_same a q v h.1) (by rw [World.frozen?_setCell]; exact h.2)
  · exact Fits.of ((World.cell?_setCell_other a q p v e).trans h.1) (by rw [World.frozen?_setCell]; exact h.2)

/-- What a region with calls keeps: the world is `w`, grown; a box of two cells in block `w.heap.size`; a result of two cells in the block behind it. -/
abbrev Keep2 (w : World) (x0 x1 : Value) (w' : World) : Prop :=
  Aside (Ext w w') ∧ w'.cell? ⟨w.heap.size, 0, none⟩ = some x0 ∧ w'.cell? ⟨w.heap.size, 1, none⟩ = some x1 ∧ Fits w' ⟨w.heap.size + 1, 0, none⟩ ∧ Fits w' ⟨w.heap.size + 1, 1, none⟩
theorem Keep2.ext {w w1 w2 : World} {x0 x1 : Value} (e : Ext w1 w2) (h : Keep2 w x0 x1 w1) : Keep2 w x0 x1 w2 :=
  ⟨⟨h.1.out.trans e⟩, e.cell h.2.1, e.cell h.2.2.1, h.2.2.2.1.ext e, h.2.2.2.2.ext e⟩
theorem Keep2.set {w w1 : World} {x0 x1 : Value} (h : Keep2 w x0 x1 w1) (j : Nat) (v : Value) : Keep2 w x0 x1 (w1.setCell ⟨w.heap.size + 1, j, none⟩ v) :=
  ⟨⟨h.1.out.set (by show w.heap.size ≤ w.heap.size + 1; omega) v⟩, (World.cell?_setCell_other _ _ _ v (by intro hh; injection hh with hh; omega)).trans h.2.1, (World.cell?_setCell_other _ _ _ v (by intro hh; injection hh with hh; omega)).trans h.2.2.1, h.2.2.2.1.set _ _, h.2.2.2.2.set _ _⟩
theorem Keep2.init (w : World) (x0 x1 z0 z1 : Value) (t t' : TypeId) : Keep2 w x0 x1 (((w.alloc (.cells #[x0, x1] t)).alloc (.cells #[z0, z1] t')).drew) := by
  refine ⟨⟨(((Ext.refl w).alloc _).alloc _).drew⟩, by simp, by simp, Fits.of (v := z0) (by simp) (by simp), Fits.of (v := z1) (by simp) (by simp)⟩

set_option maxRecDepth 10000 in
theorem whole_times {w : World} {neg : Bool} {x y : Value} {a b : Nat} (hx : NV w x a) (hy : NV w y b) :
    Calls Tryz.prog 117 #[.agg #[.bool neg, x], y] w fun e w' => ∃ r, e = .returned (.agg #[.bool neg, r]) ∧ OV w.heap.size w' r (dig (a * b)) ∧ Ext w w' := by
  obtain ⟨A, c, n, rfl, _, _⟩ := hx.form
  obtain ⟨B, d, m, rfl, _, _⟩ := hy.form
  have HX := Aside.mk hx
  have HY := Aside.mk hy
  clear hx hy
  go_enter Tryz.func117, Tryz.ntmps117
  go_wp2
  go_region_held (fun w' => Keep2 w (.bool neg) (.slice A n c) w')
    (first | assumption | exact Keep2.init _ _ _ _ _ _ _ | exact Keep2.ext (by assumption) (by assumption) | exact (Keep2.set (by assumption) _ _).set _ _) (first | (go_at_call 100; refine (Mul_calls (HX.out.ext (Aside.out (And.left (show Keep2 w (.bool neg) (.slice A n c) _ from by assumption)))) (HY.out.ext (Aside.out (And.left (show Keep2 w (.bool neg) (.slice A n c) _ from by assumption))))).mono ?_; rintro e w1 ⟨r, rfl, hr, he⟩; have HR := Aside.mk hr; obtain ⟨A1, c1, rfl, _⟩ := hr.form; clear hr) | (go_at_call 86; refine natural_calls.mono ?_; rintro e w' ⟨rfl, rfl⟩))
  have hk : Keep2 w (.bool neg) (.slice A n c) w1 := Keep2.ext he (Keep2.init _ _ _ _ _ _ _)
  have hc0 := hk.2.2.2.1.1
  have hc1 := hk.2.2.2.2.1
  go_wp2
  refine bodyPost_ret (v := .agg #[.bool neg, .slice A1 (dig (a * b)).length c1]) (by simp [results, Tryz.results117, go_sem, hc0, hc1]) rfl ⟨_, rfl, ?_, ?_⟩
  · refine ((HR.out.set ?_ _).set ?_ _).mono ?_
    · simp
    · simp
    · simp; omega
  · exact (hk.1.out.set (by show w.heap.size ≤ w.heap.size + 1; omega) _).set (by show w.heap.size ≤ w.heap.size + 1; omega) _
end Go.Proofs.YtgfkachfbnbikaaGreatDoor
