/- The plain law of order: of two numbers exactly one is so; sums with, and products by, the same number keep the order. FracOrder: the call returns true. FracOrder: of every input the call returns true, and each argument reads behind it as it read before. FracOrder: the tied card holds: of two numbers exactly one is so: the first one is less, the second one is less, they are the same; Less does not change if the same number is added to both, or both are multiplied by a number above 0. Conditions: the package-level variables that the row lists start as the program's text lays them (the tie is given). -/
import Derived.Test.YtgfkachfbnbikaaGreatDoorMv
import Derived.Test.YtgfkachfbnbikaaGreatDoorMs
import Derived.Deep.RegionHeld
import Derived.Test.YtgfkachfbnbikaaGreatDoorMp
import Derived.Test.YtgfkachfbnbikaaGreatDoorCards
import Derived.Test.YtgfkachfbnbikaaGreatDoorTie
import Derived.SevenTiedAt
namespace Go.Proofs.YtgfkachfbnbikaaGreatDoor
open Go.RowKit

theorem askq_num {a b : Rq} {m k m' k' : Nat} (ha : Nb a m k) (hb : Nb b m' k') {is : Bool} : askq a b is = ((0, is), 0) := by
  unfold askq
  rw [ha.ok, hb.ok, ha.f, hb.f]
  rfl
theorem order_three (x y : Rat) : (x < y ∧ ¬ y < x ∧ x ≠ y) ∨ (¬ x < y ∧ y < x ∧ x ≠ y) ∨ (¬ x < y ∧ ¬ y < x ∧ x = y) := by
  by_cases h1 : x = y
  · subst h1; exact .inr (.inr ⟨Rat.lt_irrefl, Rat.lt_irrefl, rfl⟩)
  · by_cases h2 : x < y
    · refine .inl ⟨h2, fun h3 => h1 ?_, h1⟩
      exact Rat.le_antisymm (Rat.not_lt.1 (fun h => Rat.not_le.2 h (Rat.not_lt.1 fun h' => by
        have := Rat.not_lt.1 (fun h4 : y < x => (Rat.not_le.2 h4) (Rat.le_total.resolve_right (fun h5 => (Rat.not_le.2 h2) h5)))
        exact (Rat.not_le.2 h3) this))) (Rat.not_lt.1 (fun h => (Rat.not_le.2 h3) (Rat.le_total.resolve_right (fun h5 => (Rat.not_le.2 h) h5))))
    · have h3 := Rat.not_lt.1 h2
      exact .inr (.inl ⟨h2, Rat.lt_of_le_of_ne h3 (fun h => h1 h.symm), h1⟩)
def zeroq : Rq := ⟨0, false, dig 0, dig 1⟩
theorem zeroq_is : IsNum zeroq 0 1 := whole_is (n := false) (m := 0) (by rw [dig_zero]; decide)
theorem zeroq_nb : Nb zeroq 1 1 := ⟨0, 1, zeroq_is, by rw [dig_zero]; decide, by rw [dig_one]; decide⟩
theorem rv_zeroq : rv zeroq = 0 := by rw [rv_num zeroq_is]; rfl
theorem ord_pos {c : Rq} {m k : Nat} (h : Nb c m k) (hn : c.neg = false) (hl : 0 < c.num.length) : 0 < rv c := by
  have h1 := zeroq_nb.lt h
  rw [rv_zeroq] at h1
  obtain ⟨p, d, i, _, _⟩ := h
  rw [i.vals.1, i.vals.2, zeroq_is.vals.1, zeroq_is.vals.2, hn] at h1
  have hp : 0 < p := by
    rw [i.num] at hl
    rcases Nat.eq_zero_or_pos p with h | h
    · rw [h, dig_zero] at hl; exact absurd hl (by decide)
    · exact h
  have h2 : lessq zeroq.neg (0 * d) false (p * 1) = true := by
    show lessq false (0 * d) false (p * 1) = true
    simp [lessq]; omega
  rw [h2] at h1
  exact of_decide_eq_true h1.symm
theorem order_sum {a b c : Rq} (ha : Nb a 30 30) (hb : Nb b 30 30) (hc : Nb c 30 30) :
    Nb (sumr a c) 61 60 ∧ Nb (sumr b c) 61 60 ∧ (decide (rv (sumr a c) < rv (sumr b c)) = decide (rv a < rv b)) := by
  have s := ha.sum hc (M := 60) (by decide) (by decide) (by decide) (by decide)
  have t := hb.sum hc (M := 60) (by decide) (by decide) (by decide) (by decide)
  refine ⟨s.1, t.1, ?_⟩
  rw [s.2, t.2]
  exact decide_eq_decide.2 Rat.add_lt_add_right
theorem order_mul {a b c : Rq} (ha : Nb a 30 30) (hb : Nb b 30 30) (hc : Nb c 30 30) (h0 : 0 < rv c) :
    Nb (mulr a c) 60 60 ∧ Nb (mulr b c) 60 60 ∧ (decide (rv (mulr a c) < rv (mulr b c)) = decide (rv a < rv b)) := by
  have s := ha.mul hc (by decide) (by decide)
  have t := hb.mul hc (by decide) (by decide)
  refine ⟨s.1, t.1, ?_⟩
  rw [s.2, t.2]
  exact decide_eq_decide.2 (Rat.mul_lt_mul_right h0)
end Go.Proofs.YtgfkachfbnbikaaGreatDoor

namespace Go.Proofs.YtgfkachfbnbikaaGreatDoor
open Go.RowKit

theorem four_new (w : World) (x0 x1 x2 x3 : Value) (t : TypeId) : Four (w.alloc (.cells #[x0, x1, x2, x3] t)) w.heap.size x0 x1 x2 x3 := ⟨cell_new rfl rfl, cell_new rfl rfl, cell_new rfl rfl, cell_new rfl rfl⟩
theorem number30 {w : World} {f : Int} {neg : Bool} {sx sy : Value} {xs ys : List Nat} {q : Rq} (hx : RL w sx xs) (hy : RL w sy ys) (hq : tameq 0 neg xs ys 30 = q) :
    Calls Tryz.prog 55 #[.agg #[.int .i64 f, .bool neg, sx, sy], .int .i64 30] w fun e w' => ∃ r, e = .returned r ∧ RO w.heap.size w' r q ∧ Ext w w' := number_calls (most := 30) hx hy (by decide) hq
/-- The two cells of a box. -/
abbrev Two (w : World) (g : Nat) (x0 x1 : Value) : Prop := w.cell? ⟨g, 0, none⟩ = some x0 ∧ w.cell? ⟨g, 1, none⟩ = some x1
theorem Two.ext {a b : World} (e : Ext a b) {g : Nat} {x0 x1 : Value} (h : Two a g x0 x1) : Two b g x0 x1 := ⟨e.cell h.1, e.cell h.2⟩
theorem two_new (w : World) (x0 x1 : Value) (t : TypeId) : Two (w.alloc (.cells #[x0, x1] t)) w.heap.size x0 x1 := ⟨cell_new rfl rfl, cell_new rfl rfl⟩
/-- Three boxes. -/
abbrev K3R (w : World) (x0 x1 x2 x3 y0 y1 y2 y3 z0 z1 z2 z3 : Value) (w' : World) : Prop :=
  Aside (Ext w w') ∧ Four w' w.heap.size x0 x1 x2 x3 ∧ Four w' (w.heap.size + 1) y0 y1 y2 y3 ∧ Four w' (w.heap.size + 2) z0 z1 z2 z3
theorem K3R.ext {w w1 w2 : World} {x0 x1 x2 x3 y0 y1 y2 y3 z0 z1 z2 z3 : Value} (e : Ext w1 w2) (h : K3R w x0 x1 x2 x3 y0 y1 y2 y3 z0 z1 z2 z3 w1) : K3R w x0 x1 x2 x3 y0 y1 y2 y3 z0 z1 z2 z3 w2 :=
  ⟨⟨h.1.out.trans e⟩, h.2.1.ext e, h.2.2.1.ext e, h.2.2.2.ext e⟩
theorem K3R.init (w : World) (x0 x1 x2 x3 y0 y1 y2 y3 z0 z1 z2 z3 : Value) (t t' t'' : TypeId) : K3R w x0 x1 x2 x3 y0 y1 y2 y3 z0 z1 z2 z3 (((w.alloc (.cells #[x0, x1, x2, x3] t)).alloc (.cells #[y0, y1, y2, y3] t')).alloc (.cells #[z0, z1, z2, z3] t'')) :=
  ⟨⟨(((Ext.refl w).alloc _).alloc _).alloc _⟩, ⟨cell_old (cell_old (cell_new rfl rfl)), cell_old (cell_old (cell_new rfl rfl)), cell_old (cell_old (cell_new rfl rfl)), cell_old (cell_old (cell_new rfl rfl))⟩,
    ⟨cell_old (cell_new (by simp) rfl), cell_old (cell_new (by simp) rfl), cell_old (cell_new (by simp) rfl), cell_old (cell_new (by simp) rfl)⟩,
    ⟨cell_new (by simp) rfl, cell_new (by simp) rfl, cell_new (by simp) rfl, cell_new (by simp) rfl⟩⟩
theorem K3R.big {w w1 : World} {x0 x1 x2 x3 y0 y1 y2 y3 z0 z1 z2 z3 : Value} (h : K3R w x0 x1 x2 x3 y0 y1 y2 y3 z0 z1 z2 z3 w1) : w.heap.size + 3 ≤ w1.heap.size := World.block_lt_of_cell? _ _ h.2.2.2.1
theorem K3R.four {w w1 : World} {x0 x1 x2 x3 y0 y1 y2 y3 z0 z1 z2 z3 : Value} (h : K3R w x0 x1 x2 x3 y0 y1 y2 y3 z0 z1 z2 z3 w1) {g : Nat} (hg : w.heap.size + 3 ≤ g) (v0 v1 v2 v3 : Value) : K3R w x0 x1 x2 x3 y0 y1 y2 y3 z0 z1 z2 z3 (set4 w1 g v0 v1 v2 v3) :=
  ⟨⟨ext_set4 h.1.out (by omega) _ _ _ _⟩, h.2.1.four (by omega) _ _ _ _, h.2.2.1.four (by omega) _ _ _ _, h.2.2.2.four (by omega) _ _ _ _⟩
def three {α : Type} (x y z : α) : Nat → α
  | 0 => x
  | 1 => y
  | _ => z
theorem three0 {α : Type} (x y z : α) : three x y z 0 = x := rfl
theorem three1 {α : Type} (x y z : α) : three x y z 1 = y := rfl
theorem three2 {α : Type} (x y z : α) : three x y z 2 = z := rfl

/-- The boxes that the test of all reads. -/
abbrev KO (w : World) (pa pb pz ps pt : Nat) (a0 a1 a2 a3 b0 b1 b2 b3 z0 z1 s0 s1 s2 s3 t0 t1 t2 t3 : Value) (w' : World) : Prop :=
  Aside (Ext w w') ∧ Four w' pa a0 a1 a2 a3 ∧ Four w' pb b0 b1 b2 b3 ∧ Two w' pz z0 z1 ∧ Four w' ps s0 s1 s2 s3 ∧ Four w' pt t0 t1 t2 t3
theorem KO.ext {w w1 w2 : World} {pa pb pz ps pt : Nat} {a0 a1 a2 a3 b0 b1 b2 b3 z0 z1 s0 s1 s2 s3 t0 t1 t2 t3 : Value} (e : Ext w1 w2) (h : KO w pa pb pz ps pt a0 a1 a2 a3 b0 b1 b2 b3 z0 z1 s0 s1 s2 s3 t0 t1 t2 t3 w1) : KO w pa pb pz ps pt a0 a1 a2 a3 b0 b1 b2 b3 z0 z1 s0 s1 s2 s3 t0 t1 t2 t3 w2 :=
  ⟨⟨h.1.out.trans e⟩, h.2.1.ext e, h.2.2.1.ext e, h.2.2.2.1.ext e, h.2.2.2.2.1.ext e, h.2.2.2.2.2.ext e⟩

set_option maxRecDepth 10000 in
set_option maxHeartbeats 16000000 in
theorem order_calls {w : World} {f1 f2 f3 : Int} {n1 n2 n3 : Bool} {sx1 sy1 sx2 sy2 sx3 sy3 : Value} {xs1 ys1 xs2 ys2 xs3 ys3 : List Nat} (hg : Glob w) (hx1 : RL w sx1 xs1) (hy1 : RL w sy1 ys1) (hx2 : RL w sx2 xs2) (hy2 : RL w sy2 ys2) (hx3 : RL w sx3 xs3) (hy3 : RL w sy3 ys3) :
    Calls Tryz.prog 13 #[.agg #[.int .i64 f1, .bool n1, sx1, sy1], .agg #[.int .i64 f2, .bool n2, sx2, sy2], .agg #[.int .i64 f3, .bool n3, sx3, sy3]] w fun e w' => e = .returned (.bool true) ∧ Ext w w' := by
  have HG := Aside.mk hg
  have HX1 := Aside.mk hx1
  have HY1 := Aside.mk hy1
  have HX2 := Aside.mk hx2
  have HY2 := Aside.mk hy2
  have HX3 := Aside.mk hx3
  have HY3 := Aside.mk hy3
  obtain ⟨q_a, ha⟩ : ∃ a : Rq, tameq 0 n1 xs1 ys1 30 = a := ⟨_, rfl⟩
  obtain ⟨q_b, hb⟩ : ∃ b : Rq, tameq 0 n2 xs2 ys2 30 = b := ⟨_, rfl⟩
  obtain ⟨q_c, hc⟩ : ∃ b : Rq, tameq 0 n3 xs3 ys3 30 = b := ⟨_, rfl⟩
  have HQ1 := Aside.mk ha
  have HQ2 := Aside.mk hb
  have HQ3 := Aside.mk hc
  have NA : Nb q_a 30 30 := ha ▸ Nb.tame hx1.ds hy1.ds (by decide) (by decide) (by decide)
  have NB : Nb q_b 30 30 := hb ▸ Nb.tame hx2.ds hy2.ds (by decide) (by decide) (by decide)
  have NC : Nb q_c 30 30 := hc ▸ Nb.tame hx3.ds hy3.ds (by decide) (by decide) (by decide)
  have HNA := Aside.mk NA
  have HNB := Aside.mk NB
  have HNC := Aside.mk NC
  obtain ⟨AX1, cx1, rfl, _⟩ := hx1
  obtain ⟨AY1, cy1, rfl, _⟩ := hy1
  obtain ⟨AX2, cx2, rfl, _⟩ := hx2
  obtain ⟨AY2, cy2, rfl, _⟩ := hy2
  obtain ⟨AX3, cx3, rfl, _⟩ := hx3
  obtain ⟨AY3, cy3, rfl, _⟩ := hy3
  generalize xs1.length = nx1 at *
  generalize ys1.length = ny1 at *
  generalize xs2.length = nx2 at *
  generalize ys2.length = ny2 at *
  generalize xs3.length = nx3 at *
  generalize ys3.length = ny3 at *
  clear ha hb hc hg NA NB NC
  have hk0 := K3R.ext (Ext.refl _).drew (K3R.init w (.int .i64 f1) (.bool n1) (.slice AX1 nx1 cx1) (.slice AY1 ny1 cy1) (.int .i64 f2) (.bool n2) (.slice AX2 nx2 cx2) (.slice AY2 ny2 cy2) (.int .i64 f3) (.bool n3) (.slice AX3 nx3 cx3) (.slice AY3 ny3 cy3) 26 26 26)
  have HL : Lasts (K3R w (.int .i64 f1) (.bool n1) (.slice AX1 nx1 cx1) (.slice AY1 ny1 cy1) (.int .i64 f2) (.bool n2) (.slice AX2 nx2 cx2) (.slice AY2 ny2 cy2) (.int .i64 f3) (.bool n3) (.slice AX3 nx3 cx3) (.slice AY3 ny3 cy3)) (w.heap.size + 3) := ⟨fun _ _ e h => K3R.ext e h, fun _ _ _ _ _ _ h k => K3R.four k h _ _ _ _⟩
  have HK0 := Aside.mk hk0
  clear hk0
  go_enter Tryz.func13, Tryz.ntmps13
  go_upto_region 1 with fail
  refine wp_region_each (fun a0 l a' w' => ∃ (vl vc vb : Nat → Value) (P : Nat → Nat), a' = ((((((((a0.put (some 31) (vl 0)).put (some 32) (vc 0)).put (some 33) (vl 1)).put (some 34) (vc 1)).put (some 35) (vl 2)).put (some 36) (vc 2)).put (some 7) (vb 0)).put (some 8) (vb 1)).put (some 9) (vb 2) ∧
    InvN 3 l (K3R w (.int .i64 f1) (.bool n1) (.slice AX1 nx1 cx1) (.slice AY1 ny1 cy1) (.int .i64 f2) (.bool n2) (.slice AX2 nx2 cx2) (.slice AY2 ny2 cy2) (.int .i64 f3) (.bool n3) (.slice AX3 nx3 cx3) (.slice AY3 ny3 cy3)) (w.heap.size + 3)
      (three (.agg #[.int .i64 f1, .bool n1, .slice AX1 nx1 cx1, .slice AY1 ny1 cy1]) (.agg #[.int .i64 f2, .bool n2, .slice AX2 nx2 cx2, .slice AY2 ny2 cy2]) (.agg #[.int .i64 f3, .bool n3, .slice AX3 nx3 cx3, .slice AY3 ny3 cy3])) (three q_a q_b q_c) vl vc vb P w') (by kernel_rfl) (by kernel_rfl) ?start ?fin ?each
  case start => exact ⟨fun _ => undef, fun _ => undef, fun _ => undef, fun _ => 0, by simp only [Act.put, List.setIfInBounds_toArray, List.set_cons_zero, List.set_cons_succ], InvN.start HK0.out (K3R.big HK0.out)⟩
  case each =>
    refine Each.cons (j := 1) rfl ?s0 (Each.cons (j := 2) rfl ?s1 (Each.cons (j := 3) rfl ?s2 (Each.cons (j := 4) rfl ?s3 (Each.cons (j := 5) rfl ?s4 (Each.cons (j := 6) rfl ?s5 (Each.cons (j := 7) rfl ?s6 (Each.cons (j := 8) rfl ?s7 (Each.cons (j := 9) rfl ?s8 (Each.cons (j := 10) rfl ?s9 (Each.cons (j := 11) rfl ?s10 (Each.cons (j := 12) rfl ?s11 Each.nil)))))))))))
    case s0 =>
      rintro l a' w' - - ⟨vl, vc, vb, P, rfl, I⟩
      have hk := I.keep
      intro K' hK
      simp only [Act.put, List.setIfInBounds_toArray, List.set_cons_zero, List.set_cons_succ]
      go_simp
      refine hK.out _ _ ⟨upd vl 0 _, vc, vb, P, ?_, I.loads 0 (by decide)⟩
      simp [Act.put, List.setIfInBounds_toArray, List.set_cons_zero, List.set_cons_succ, upd, three0]
    case s1 =>
      rintro l a' w' h0 hd ⟨vl, vc, vb, P, rfl, I⟩
      obtain ⟨vl, rfl⟩ := upd_eta (I.load 0 (by decide) (hd (2 * 0) (by decide)))
      have HK := Aside.mk I.keep.1.out
      clear hd
      intro K' hK
      simp only [Act.put, List.setIfInBounds_toArray, List.set_cons_zero, List.set_cons_succ, upd_same, three0]
      go_simp
      go_wp2_with (go_at_call 55; with_reducible refine (number30 (HX1.out.ext HK.out) (HY1.out.ext HK.out) HQ1.out).mono ?_; rintro e w4 ⟨r, rfl, hr, he⟩)
      refine hK.out _ _ ⟨upd vl 0 _, upd vc 0 r, vb, P, ?_, I.calls HL 0 (by decide) h0 he hr⟩
      simp [Act.put, List.setIfInBounds_toArray, List.set_cons_zero, List.set_cons_succ, upd, three0]
    case s2 =>
      rintro l a' w' - - ⟨vl, vc, vb, P, rfl, I⟩
      have hk := I.keep
      intro K' hK
      simp only [Act.put, List.setIfInBounds_toArray, List.set_cons_zero, List.set_cons_succ]
      go_simp
      refine hK.out _ _ ⟨upd vl 1 _, vc, vb, P, ?_, I.loads 1 (by decide)⟩
      simp [Act.put, List.setIfInBounds_toArray, List.set_cons_zero, List.set_cons_succ, upd, three1]
    case s3 =>
      rintro l a' w' h0 hd ⟨vl, vc, vb, P, rfl, I⟩
      obtain ⟨vl, rfl⟩ := upd_eta (I.load 1 (by decide) (hd (2 * 1) (by decide)))
      have HK := Aside.mk I.keep.1.out
      clear hd
      intro K' hK
      simp only [Act.put, List.setIfInBounds_toArray, List.set_cons_zero, List.set_cons_succ, upd_same, three1]
      go_simp
      go_wp2_with (go_at_call 55; with_reducible refine (number30 (HX2.out.ext HK.out) (HY2.out.ext HK.out) HQ2.out).mono ?_; rintro e w4 ⟨r, rfl, hr, he⟩)
      refine hK.out _ _ ⟨upd vl 1 _, upd vc 1 r, vb, P, ?_, I.calls HL 1 (by decide) h0 he hr⟩
      simp [Act.put, List.setIfInBounds_toArray, List.set_cons_zero, List.set_cons_succ, upd, three1]
    case s4 =>
      rintro l a' w' - - ⟨vl, vc, vb, P, rfl, I⟩
      have hk := I.keep
      intro K' hK
      simp only [Act.put, List.setIfInBounds_toArray, List.set_cons_zero, List.set_cons_succ]
      go_simp
      refine hK.out _ _ ⟨upd vl 2 _, vc, vb, P, ?_, I.loads 2 (by decide)⟩
      simp [Act.put, List.setIfInBounds_toArray, List.set_cons_zero, List.set_cons_succ, upd, three2]
    case s5 =>
      rintro l a' w' h0 hd ⟨vl, vc, vb, P, rfl, I⟩
      obtain ⟨vl, rfl⟩ := upd_eta (I.load 2 (by decide) (hd (2 * 2) (by decide)))
      have HK := Aside.mk I.keep.1.out
      clear hd
      intro K' hK
      simp only [Act.put, List.setIfInBounds_toArray, List.set_cons_zero, List.set_cons_succ, upd_same, three2]
      go_simp
      go_wp2_with (go_at_call 55; with_reducible refine (number30 (HX3.out.ext HK.out) (HY3.out.ext HK.out) HQ3.out).mono ?_; rintro e w4 ⟨r, rfl, hr, he⟩)
      refine hK.out _ _ ⟨upd vl 2 _, upd vc 2 r, vb, P, ?_, I.calls HL 2 (by decide) h0 he hr⟩
      simp [Act.put, List.setIfInBounds_toArray, List.set_cons_zero, List.set_cons_succ, upd, three2]
    case s6 =>
      rintro l a' w' h0 - ⟨vl, vc, vb, P, rfl, I⟩
      intro K' hK
      simp only [Act.put, List.setIfInBounds_toArray, List.set_cons_zero, List.set_cons_succ]
      go_simp
      refine hK.out _ _ ⟨vl, vc, upd vb 0 _, upd P 0 _, ?_, I.allocs HL 0 (by decide) h0⟩
      simp [Act.put, List.setIfInBounds_toArray, List.set_cons_zero, List.set_cons_succ, upd]
    case s7 =>
      rintro l a' w' h0 - ⟨vl, vc, vb, P, rfl, I⟩
      intro K' hK
      simp only [Act.put, List.setIfInBounds_toArray, List.set_cons_zero, List.set_cons_succ]
      go_simp
      refine hK.out _ _ ⟨vl, vc, upd vb 1 _, upd P 1 _, ?_, I.allocs HL 1 (by decide) h0⟩
      simp [Act.put, List.setIfInBounds_toArray, List.set_cons_zero, List.set_cons_succ, upd]
    case s8 =>
      rintro l a' w' h0 - ⟨vl, vc, vb, P, rfl, I⟩
      intro K' hK
      simp only [Act.put, List.setIfInBounds_toArray, List.set_cons_zero, List.set_cons_succ]
      go_simp
      refine hK.out _ _ ⟨vl, vc, upd vb 2 _, upd P 2 _, ?_, I.allocs HL 2 (by decide) h0⟩
      simp [Act.put, List.setIfInBounds_toArray, List.set_cons_zero, List.set_cons_succ, upd]
    case s9 =>
      rintro l a' w' - hd ⟨vl, vc, vb, P, rfl, I⟩
      have hb := hd (2 * 3 + 0) (List.elem_iff.1 (by kernel_rfl))
      have hc := hd (2 * 0 + 1) (List.elem_iff.1 (by kernel_rfl))
      obtain ⟨hbx, -, x0, x1, x2, x3, ⟨hx0, hx1, hx2, hx3⟩, hf0, hf1, hf2, hf3⟩ := I.box 0 (by decide) hb
      obtain ⟨_, _, hro, -⟩ := I.call 0 (by decide) hc
      obtain ⟨A3, c3, B3, d3, hv⟩ := hro.form
      have hv' := hv
      obtain ⟨vb, rfl⟩ := upd_eta hbx
      obtain ⟨vc, rfl⟩ := upd_eta hv
      clear hd hro hbx hv
      intro K' hK
      simp only [Act.put, List.setIfInBounds_toArray, List.set_cons_zero, List.set_cons_succ, upd_same]
      go_simp
      refine hK.out _ _ ⟨vl, upd vc 0 _, upd vb 0 _, P, ?_, I.stores HL 0 (by decide) hb hc hv'⟩
      simp [Act.put, List.setIfInBounds_toArray, List.set_cons_zero, List.set_cons_succ, upd]
    case s10 =>
      rintro l a' w' - hd ⟨vl, vc, vb, P, rfl, I⟩
      have hb := hd (2 * 3 + 1) (List.elem_iff.1 (by kernel_rfl))
      have hc := hd (2 * 1 + 1) (List.elem_iff.1 (by kernel_rfl))
      obtain ⟨hbx, -, x0, x1, x2, x3, ⟨hx0, hx1, hx2, hx3⟩, hf0, hf1, hf2, hf3⟩ := I.box 1 (by decide) hb
      obtain ⟨_, _, hro, -⟩ := I.call 1 (by decide) hc
      obtain ⟨A3, c3, B3, d3, hv⟩ := hro.form
      have hv' := hv
      obtain ⟨vb, rfl⟩ := upd_eta hbx
      obtain ⟨vc, rfl⟩ := upd_eta hv
      clear hd hro hbx hv
      intro K' hK
      simp only [Act.put, List.setIfInBounds_toArray, List.set_cons_zero, List.set_cons_succ, upd_same]
      go_simp
      refine hK.out _ _ ⟨vl, upd vc 1 _, upd vb 1 _, P, ?_, I.stores HL 1 (by decide) hb hc hv'⟩
      simp [Act.put, List.setIfInBounds_toArray, List.set_cons_zero, List.set_cons_succ, upd]
    case s11 =>
      rintro l a' w' - hd ⟨vl, vc, vb, P, rfl, I⟩
      have hb := hd (2 * 3 + 2) (List.elem_iff.1 (by kernel_rfl))
      have hc := hd (2 * 2 + 1) (List.elem_iff.1 (by kernel_rfl))
      obtain ⟨hbx, -, x0, x1, x2, x3, ⟨hx0, hx1, hx2, hx3⟩, hf0, hf1, hf2, hf3⟩ := I.box 2 (by decide) hb
      obtain ⟨_, _, hro, -⟩ := I.call 2 (by decide) hc
      obtain ⟨A3, c3, B3, d3, hv⟩ := hro.form
      have hv' := hv
      obtain ⟨vb, rfl⟩ := upd_eta hbx
      obtain ⟨vc, rfl⟩ := upd_eta hv
      clear hd hro hbx hv
      intro K' hK
      simp only [Act.put, List.setIfInBounds_toArray, List.set_cons_zero, List.set_cons_succ, upd_same]
      go_simp
      refine hK.out _ _ ⟨vl, upd vc 2 _, upd vb 2 _, P, ?_, I.stores HL 2 (by decide) hb hc hv'⟩
      simp [Act.put, List.setIfInBounds_toArray, List.set_cons_zero, List.set_cons_succ, upd]
  case fin =>
    clear HX1 HY1 HX2 HY2 HX3 HY3 HQ1 HQ2 HQ3 HL HK0
    rintro l a' w1 hl ⟨vl, vc, vb, P, rfl, I⟩
    obtain ⟨hke, hD⟩ := I.done (fun i hi => hl i hi)
    obtain ⟨hb0, -, hh0, hr0⟩ := hD 0 (by decide)
    obtain ⟨hb1, -, hh1, hr1⟩ := hD 1 (by decide)
    obtain ⟨hb2, -, hh2, hr2⟩ := hD 2 (by decide)
    rw [three0] at hr0
    rw [three1] at hr1
    rw [three2] at hr2
    obtain ⟨A_a, c_a, B_a, d_a, hv0, hB_a⟩ := hh0.rr hr0
    obtain ⟨A_b, c_b, B_b, d_b, hv1, hB_b⟩ := hh1.rr hr1
    obtain ⟨A_c, c_c, B_c, d_c, hv2, hB_c⟩ := hh2.rr hr2
    rw [hv0] at hr0
    rw [hv1] at hr1
    rw [hv2] at hr2
    rw [hb0, hb1, hb2]
    generalize P 0 = p0 at *
    generalize P 1 = p1 at *
    generalize P 2 = p2 at *
    generalize vl 0 = z0 at *
    generalize vl 1 = z1 at *
    generalize vl 2 = z2 at *
    generalize vc 0 = z3 at *
    generalize vc 1 = z4 at *
    generalize vc 2 = z5 at *
    have HR_a := Aside.mk hr0
    have HR_b := Aside.mk hr1
    have HR_c := Aside.mk hr2
    have HE1 := Aside.mk hke.1.out
    have HX := Aside.mk (Ext.refl w1)
    clear hl I hke hD hb0 hb1 hb2 hh0 hh1 hh2 hr0 hr1 hr2 hv0 hv1 hv2 vl vc vb P
    have NA := HNA.out
    have NB := HNB.out
    have NC := HNC.out
    obtain ⟨NS, NT, hst⟩ := order_sum NA NB NC
    obtain ⟨q_s, hs⟩ : ∃ q, sumr q_a q_c = q := ⟨_, rfl⟩
    obtain ⟨q_t, ht⟩ : ∃ q, sumr q_b q_c = q := ⟨_, rfl⟩
    rw [hs] at NS hst
    rw [ht] at NT hst
    have HM_s : Aside (madeq q_a q_c (sumq q_a.neg (val q_a.num) (val q_a.den) q_c.neg (val q_c.num) (val q_c.den)) = (q_s, 0)) := ⟨by rw [← hs]; exact made_num NA NC⟩
    have HM_t : Aside (madeq q_b q_c (sumq q_b.neg (val q_b.num) (val q_b.den) q_c.neg (val q_c.num) (val q_c.den)) = (q_t, 0)) := ⟨by rw [← ht]; exact made_num NB NC⟩
    have HK_s := Aside.mk NS.ok
    have HK_t := Aside.mk NT.ok
    have hla := NA.lt NB
    have hlb := NB.lt NA
    have hlz := NA.same NB
    have hlu := NS.lt NT
    rw [hst] at hlu
    rcases order_three (rv q_a) (rv q_b) with ⟨h1, h2, h3⟩ | ⟨h1, h2, h3⟩ | ⟨h1, h2, h3⟩
    · rw [decide_eq_true h1] at hla hlu
      rw [decide_eq_false h2] at hlb
      rw [decide_eq_false h3] at hlz
      have HM_x : Aside (askq q_a q_b (lessq q_a.neg (val q_a.num * val q_b.den) q_b.neg (val q_b.num * val q_a.den)) = ((0, true), 0)) := ⟨by rw [hla]; exact askq_num NA NB⟩
      have HM_y : Aside (askq q_b q_a (lessq q_b.neg (val q_b.num * val q_a.den) q_a.neg (val q_a.num * val q_b.den)) = ((0, false), 0)) := ⟨by rw [hlb]; exact askq_num NB NA⟩
      have HM_z : Aside (askq q_a q_b (sameq q_a q_b) = ((0, false), 0)) := ⟨by rw [hlz]; exact askq_num NA NB⟩
      have HM_u : Aside (askq q_s q_t (lessq q_s.neg (val q_s.num * val q_t.den) q_t.neg (val q_t.num * val q_s.den)) = ((0, true), 0)) := ⟨by rw [hlu]; exact askq_num NS NT⟩
      have HZE : Aside ((q_a.f == q_b.f && sameq q_a q_b) = false) := ⟨by rw [hlz, NA.f, NB.f]; rfl⟩
      clear hla hlb hlz hlu h2 h3 hs ht
      cases hneg : q_c.neg
      · by_cases hlc : q_c.num.length = 0
        · have hl0 : ((q_c.num.length : Int) == 0) = true := by rw [hlc]; rfl
          clear NA NB NC NS NT hst hlc h1
          simp only [hneg] at hB_c HR_c
          refine ⟨?_⟩
          simp only [Act.put, List.setIfInBounds_toArray, List.set_cons_zero, List.set_cons_succ]
          go_wp2_with (first | (go_at_call 56; with_reducible refine (Less2_calls HR_a.out HR_b.out HM_x.out).mono ?_; rintro e w101 ⟨rfl, he0⟩; have he := he0.alloc (.cells #[.int .i64 0, .bool true] 55); replace HX := Aside.mk (HX.out.trans he); replace hB_a := Four.ext he hB_a; replace hB_b := Four.ext he hB_b; replace hB_c := Four.ext he hB_c; replace HR_a := Aside.mk (HR_a.out.ext he); replace HR_b := Aside.mk (HR_b.out.ext he); replace HR_c := Aside.mk (HR_c.out.ext he); have hB_x := two_new w101 (.int .i64 0) (.bool true) 55; clear he0 he) | (go_at_call 56; with_reducible refine (Less2_calls HR_b.out HR_a.out HM_y.out).mono ?_; rintro e w102 ⟨rfl, he0⟩; have he := he0.alloc (.cells #[.int .i64 0, .bool false] 55); replace HX := Aside.mk (HX.out.trans he); replace hB_a := Four.ext he hB_a; replace hB_b := Four.ext he hB_b; replace hB_c := Four.ext he hB_c; replace hB_x := Two.ext he hB_x; replace HR_a := Aside.mk (HR_a.out.ext he); replace HR_b := Aside.mk (HR_b.out.ext he); replace HR_c := Aside.mk (HR_c.out.ext he); have hB_y := two_new w102 (.int .i64 0) (.bool false) 55; clear he0 he) | (go_at_call 57; with_reducible refine (Same2_calls HR_a.out HR_b.out HM_z.out).mono ?_; rintro e w103 ⟨rfl, he0⟩; have he := he0.alloc (.cells #[.int .i64 0, .bool false] 55); replace HX := Aside.mk (HX.out.trans he); replace hB_a := Four.ext he hB_a; replace hB_b := Four.ext he hB_b; replace hB_c := Four.ext he hB_c; replace hB_x := Two.ext he hB_x; replace hB_y := Two.ext he hB_y; replace HR_a := Aside.mk (HR_a.out.ext he); replace HR_b := Aside.mk (HR_b.out.ext he); replace HR_c := Aside.mk (HR_c.out.ext he); have hB_z := two_new w103 (.int .i64 0) (.bool false) 55; clear he0 he))
          have he := (Ext.refl (w103.alloc (.cells #[.int .i64 0, .bool false] 55))).alloc (.cells #[.int .i64 0, .bool true, .int .i64 0, .bool false, .int .i64 0, .bool false] 55); replace HX := Aside.mk (HX.out.trans he); replace hB_a := Four.ext he hB_a; replace hB_b := Four.ext he hB_b; replace hB_c := Four.ext he hB_c; replace hB_x := Two.ext he hB_x; replace hB_z := Two.ext he hB_z; replace HR_a := Aside.mk (HR_a.out.ext he); replace HR_b := Aside.mk (HR_b.out.ext he); replace HR_c := Aside.mk (HR_c.out.ext he); clear he hB_y
          go_loop [16, 18] (fun m i => (i = .int .i64 0 ∧ m = .int .i64 0) ∨ (i = .int .i64 1 ∧ m = .int .i64 (if true then 1 else 0)) ∨ (i = .int .i64 2 ∧ m = .int .i64 (if true || false then 1 else 0)) ∨ (i = .int .i64 3 ∧ m = .int .i64 1)) (fun _ i => (3 - intOf i).toNat)
          case atStart => exact .inl ⟨rfl, rfl⟩
          case round =>
          rcases hrel with ⟨rfl, rfl⟩ | ⟨rfl, rfl⟩ | ⟨rfl, rfl⟩ | ⟨rfl, rfl⟩
          · go_wp2
            go_round
            case rel => exact .inr (.inl ⟨rfl, rfl⟩)
            case measure => simp [intOf]
          · go_wp2
            go_round
            case rel => exact .inr (.inr (.inl ⟨rfl, rfl⟩))
            case measure => simp [intOf]
          · go_wp2
            go_round
            case rel => exact .inr (.inr (.inr ⟨rfl, rfl⟩))
            case measure => simp [intOf]
          go_wp2_with (first | (go_at_call 35; with_reducible refine (good2 (Add2_calls HR_a.out HR_c.out rfl) HM_s.out).mono ?_; rintro e w104 ⟨r, rfl, hr, he0⟩; obtain ⟨A_s, c_s, B_s, d_s, rfl⟩ := hr.form; have he := he0.alloc (.cells #[.int .i64 q_s.f, .bool q_s.neg, .slice A_s q_s.num.length c_s, .slice B_s q_s.den.length d_s] 26); replace HX := Aside.mk (HX.out.trans he); replace hB_a := Four.ext he hB_a; replace hB_b := Four.ext he hB_b; replace hB_c := Four.ext he hB_c; replace hB_x := Two.ext he hB_x; replace hB_z := Two.ext he hB_z; replace HR_a := Aside.mk (HR_a.out.ext he); replace HR_b := Aside.mk (HR_b.out.ext he); replace HR_c := Aside.mk (HR_c.out.ext he); have HR_s := Aside.mk (hr.rr.ext ((Ext.refl w104).alloc (.cells #[.int .i64 q_s.f, .bool q_s.neg, .slice A_s q_s.num.length c_s, .slice B_s q_s.den.length d_s] 26))); have hB_s := four_new w104 (.int .i64 q_s.f) (.bool q_s.neg) (.slice A_s q_s.num.length c_s) (.slice B_s q_s.den.length d_s) 26; clear hr he0 he) | (go_at_call 35; with_reducible refine (good2 (Add2_calls HR_b.out HR_c.out rfl) HM_t.out).mono ?_; rintro e w105 ⟨r, rfl, hr, he0⟩; obtain ⟨A_t, c_t, B_t, d_t, rfl⟩ := hr.form; have he := he0.alloc (.cells #[.int .i64 q_t.f, .bool q_t.neg, .slice A_t q_t.num.length c_t, .slice B_t q_t.den.length d_t] 26); replace HX := Aside.mk (HX.out.trans he); replace hB_a := Four.ext he hB_a; replace hB_b := Four.ext he hB_b; replace hB_c := Four.ext he hB_c; replace hB_x := Two.ext he hB_x; replace hB_z := Two.ext he hB_z; replace hB_s := Four.ext he hB_s; replace HR_a := Aside.mk (HR_a.out.ext he); replace HR_b := Aside.mk (HR_b.out.ext he); replace HR_c := Aside.mk (HR_c.out.ext he); replace HR_s := Aside.mk (HR_s.out.ext he); have HR_t := Aside.mk (hr.rr.ext ((Ext.refl w105).alloc (.cells #[.int .i64 q_t.f, .bool q_t.neg, .slice A_t q_t.num.length c_t, .slice B_t q_t.den.length d_t] 26))); have hB_t := four_new w105 (.int .i64 q_t.f) (.bool q_t.neg) (.slice A_t q_t.num.length c_t) (.slice B_t q_t.den.length d_t) 26; clear hr he0 he))
          generalize hW : w105.alloc _ = W0 at *
          have hkd : KO W0 p0 p1 w103.heap.size w104.heap.size w105.heap.size (.int .i64 q_a.f) (.bool q_a.neg) (.slice A_a q_a.num.length c_a) (.slice B_a q_a.den.length d_a) (.int .i64 q_b.f) (.bool q_b.neg) (.slice A_b q_b.num.length c_b) (.slice B_b q_b.den.length d_b) (.int .i64 0) (.bool false) (.int .i64 q_s.f) (.bool q_s.neg) (.slice A_s q_s.num.length c_s) (.slice B_s q_s.den.length d_s) (.int .i64 q_t.f) (.bool q_t.neg) (.slice A_t q_t.num.length c_t) (.slice B_t q_t.den.length d_t) W0 := ⟨⟨Ext.refl _⟩, hB_a, hB_b, hB_z, hB_s, hB_t⟩
          have hkd' := KO.ext (Ext.refl _).drew hkd
          clear hkd hW
          go_region_held (fun w' => KO W0 p0 p1 w103.heap.size w104.heap.size w105.heap.size (.int .i64 q_a.f) (.bool q_a.neg) (.slice A_a q_a.num.length c_a) (.slice B_a q_a.den.length d_a) (.int .i64 q_b.f) (.bool q_b.neg) (.slice A_b q_b.num.length c_b) (.slice B_b q_b.den.length d_b) (.int .i64 0) (.bool false) (.int .i64 q_s.f) (.bool q_s.neg) (.slice A_s q_s.num.length c_s) (.slice B_s q_s.den.length d_s) (.int .i64 q_t.f) (.bool q_t.neg) (.slice A_t q_t.num.length c_t) (.slice B_t q_t.den.length d_t) w') (first | assumption | exact KO.ext (by assumption) (by assumption)) (first | (go_at_call 33; with_reducible refine (requal_calls (HR_a.out.ext (Aside.out (And.left (show KO W0 p0 p1 w103.heap.size w104.heap.size w105.heap.size (.int .i64 q_a.f) (.bool q_a.neg) (.slice A_a q_a.num.length c_a) (.slice B_a q_a.den.length d_a) (.int .i64 q_b.f) (.bool q_b.neg) (.slice A_b q_b.num.length c_b) (.slice B_b q_b.den.length d_b) (.int .i64 0) (.bool false) (.int .i64 q_s.f) (.bool q_s.neg) (.slice A_s q_s.num.length c_s) (.slice B_s q_s.den.length d_s) (.int .i64 q_t.f) (.bool q_t.neg) (.slice A_t q_t.num.length c_t) (.slice B_t q_t.den.length d_t) _ from by assumption)))) (HR_b.out.ext (Aside.out (And.left (show KO W0 p0 p1 w103.heap.size w104.heap.size w105.heap.size (.int .i64 q_a.f) (.bool q_a.neg) (.slice A_a q_a.num.length c_a) (.slice B_a q_a.den.length d_a) (.int .i64 q_b.f) (.bool q_b.neg) (.slice A_b q_b.num.length c_b) (.slice B_b q_b.den.length d_b) (.int .i64 0) (.bool false) (.int .i64 q_s.f) (.bool q_s.neg) (.slice A_s q_s.num.length c_s) (.slice B_s q_s.den.length d_s) (.int .i64 q_t.f) (.bool q_t.neg) (.slice A_t q_t.num.length c_t) (.slice B_t q_t.den.length d_t) _ from by assumption)))) HZE.out).mono ?_; rintro e w201 ⟨rfl, he1⟩) | (go_at_call 44; with_reducible refine (good_true (HR_s.out.ext (Aside.out (And.left (show KO W0 p0 p1 w103.heap.size w104.heap.size w105.heap.size (.int .i64 q_a.f) (.bool q_a.neg) (.slice A_a q_a.num.length c_a) (.slice B_a q_a.den.length d_a) (.int .i64 q_b.f) (.bool q_b.neg) (.slice A_b q_b.num.length c_b) (.slice B_b q_b.den.length d_b) (.int .i64 0) (.bool false) (.int .i64 q_s.f) (.bool q_s.neg) (.slice A_s q_s.num.length c_s) (.slice B_s q_s.den.length d_s) (.int .i64 q_t.f) (.bool q_t.neg) (.slice A_t q_t.num.length c_t) (.slice B_t q_t.den.length d_t) _ from by assumption)))) HK_s.out).mono ?_; rintro e w202 ⟨rfl, he2⟩) | (go_at_call 44; with_reducible refine (good_true (HR_t.out.ext (Aside.out (And.left (show KO W0 p0 p1 w103.heap.size w104.heap.size w105.heap.size (.int .i64 q_a.f) (.bool q_a.neg) (.slice A_a q_a.num.length c_a) (.slice B_a q_a.den.length d_a) (.int .i64 q_b.f) (.bool q_b.neg) (.slice A_b q_b.num.length c_b) (.slice B_b q_b.den.length d_b) (.int .i64 0) (.bool false) (.int .i64 q_s.f) (.bool q_s.neg) (.slice A_s q_s.num.length c_s) (.slice B_s q_s.den.length d_s) (.int .i64 q_t.f) (.bool q_t.neg) (.slice A_t q_t.num.length c_t) (.slice B_t q_t.den.length d_t) _ from by assumption)))) HK_t.out).mono ?_; rintro e w203 ⟨rfl, he3⟩))
          have hk9 := KO.ext he3 (KO.ext he2 (KO.ext he1 hkd'))
          have he := hk9.1.out
          clear hB_z; replace HX := Aside.mk (HX.out.trans he); replace hB_a := Four.ext he hB_a; replace hB_b := Four.ext he hB_b; replace hB_c := Four.ext he hB_c; replace hB_x := Two.ext he hB_x; replace hB_s := Four.ext he hB_s; replace hB_t := Four.ext he hB_t; replace HR_a := Aside.mk (HR_a.out.ext he); replace HR_b := Aside.mk (HR_b.out.ext he); replace HR_c := Aside.mk (HR_c.out.ext he); replace HR_s := Aside.mk (HR_s.out.ext he); replace HR_t := Aside.mk (HR_t.out.ext he)
          clear he hkd' he1 he2 he3 hk9
          go_wp2_with (first | (go_at_call 56; with_reducible refine (Less2_calls HR_s.out HR_t.out HM_u.out).mono ?_; rintro e w116 ⟨rfl, he0⟩; have he := he0.alloc (.cells #[.int .i64 0, .bool true] 55); clear hB_s hB_t HR_s HR_t; replace HX := Aside.mk (HX.out.trans he); replace hB_a := Four.ext he hB_a; replace hB_b := Four.ext he hB_b; replace hB_c := Four.ext he hB_c; replace hB_x := Two.ext he hB_x; replace HR_a := Aside.mk (HR_a.out.ext he); replace HR_b := Aside.mk (HR_b.out.ext he); replace HR_c := Aside.mk (HR_c.out.ext he); have hB_u := two_new w116 (.int .i64 0) (.bool true) 55; clear he0 he) | (go_at_call 23; with_reducible refine (alive_calls (HG.out.ext (HE1.out.trans HX.out))).mono ?_; rintro e w99 ⟨rfl, he⟩; have HEND := Aside.mk ((HE1.out.trans HX.out).trans he); clear he) | (go_at_call 39; with_reducible refine (good2 (Mul2_calls HR_a.out HR_c.out rfl) HM_p.out).mono ?_; rintro e w117 ⟨r, rfl, hr, he0⟩; obtain ⟨A_p, c_p, B_p, d_p, rfl⟩ := hr.form; have he := he0.alloc (.cells #[.int .i64 q_p.f, .bool q_p.neg, .slice A_p q_p.num.length c_p, .slice B_p q_p.den.length d_p] 26); replace HX := Aside.mk (HX.out.trans he); replace hB_a := Four.ext he hB_a; replace hB_b := Four.ext he hB_b; replace hB_c := Four.ext he hB_c; replace hB_x := Two.ext he hB_x; replace HR_a := Aside.mk (HR_a.out.ext he); replace HR_b := Aside.mk (HR_b.out.ext he); replace HR_c := Aside.mk (HR_c.out.ext he); have HR_p := Aside.mk (hr.rr.ext ((Ext.refl w117).alloc (.cells #[.int .i64 q_p.f, .bool q_p.neg, .slice A_p q_p.num.length c_p, .slice B_p q_p.den.length d_p] 26))); have hB_p := four_new w117 (.int .i64 q_p.f) (.bool q_p.neg) (.slice A_p q_p.num.length c_p) (.slice B_p q_p.den.length d_p) 26; clear hr he0 he) | (go_at_call 39; with_reducible refine (good2 (Mul2_calls HR_b.out HR_c.out rfl) HM_q.out).mono ?_; rintro e w118 ⟨r, rfl, hr, he0⟩; obtain ⟨A_q, c_q, B_q, d_q, rfl⟩ := hr.form; have he := he0.alloc (.cells #[.int .i64 q_q.f, .bool q_q.neg, .slice A_q q_q.num.length c_q, .slice B_q q_q.den.length d_q] 26); clear hB_a hB_b hB_c HR_a HR_b HR_c; replace HX := Aside.mk (HX.out.trans he); replace hB_x := Two.ext he hB_x; replace hB_p := Four.ext he hB_p; replace HR_p := Aside.mk (HR_p.out.ext he); have HR_q := Aside.mk (hr.rr.ext ((Ext.refl w118).alloc (.cells #[.int .i64 q_q.f, .bool q_q.neg, .slice A_q q_q.num.length c_q, .slice B_q q_q.den.length d_q] 26))); have hB_q := four_new w118 (.int .i64 q_q.f) (.bool q_q.neg) (.slice A_q q_q.num.length c_q) (.slice B_q q_q.den.length d_q) 26; clear hr he0 he) | (go_at_call 44; with_reducible refine (good_true HR_p.out HK_p.out).mono ?_; rintro e w119 ⟨rfl, he⟩; replace HX := Aside.mk (HX.out.trans he); replace hB_x := Two.ext he hB_x; replace hB_p := Four.ext he hB_p; replace hB_q := Four.ext he hB_q; replace HR_p := Aside.mk (HR_p.out.ext he); replace HR_q := Aside.mk (HR_q.out.ext he); clear he) | (go_at_call 44; with_reducible refine (good_true HR_q.out HK_q.out).mono ?_; rintro e w120 ⟨rfl, he⟩; replace HX := Aside.mk (HX.out.trans he); replace hB_x := Two.ext he hB_x; replace hB_p := Four.ext he hB_p; replace hB_q := Four.ext he hB_q; replace HR_p := Aside.mk (HR_p.out.ext he); replace HR_q := Aside.mk (HR_q.out.ext he); clear he) | (go_at_call 56; with_reducible refine (Less2_calls HR_p.out HR_q.out HM_v.out).mono ?_; rintro e w121 ⟨rfl, he0⟩; have he := he0.alloc (.cells #[.int .i64 0, .bool true] 55); clear hB_p hB_q HR_p HR_q; replace HX := Aside.mk (HX.out.trans he); replace hB_x := Two.ext he hB_x; have hB_v := two_new w121 (.int .i64 0) (.bool true) 55; clear he0 he))
          go_ret
          exact ⟨rfl, HEND.out⟩
        · have hl0 : ((q_c.num.length : Int) == 0) = false := beq_eq_false_iff_ne.2 (by omega)
          obtain ⟨NP, NQ, hpq⟩ := order_mul NA NB NC (ord_pos NC hneg (by omega))
          obtain ⟨q_p, hp⟩ : ∃ q, mulr q_a q_c = q := ⟨_, rfl⟩
          obtain ⟨q_q, hq⟩ : ∃ q, mulr q_b q_c = q := ⟨_, rfl⟩
          rw [hp] at NP hpq
          rw [hq] at NQ hpq
          have HM_p : Aside (madeq q_a q_c (ratio (q_a.neg != q_c.neg) (val q_a.num * val q_c.num) (val q_a.den * val q_c.den)) = (q_p, 0)) := ⟨by rw [← hp]; exact made_num NA NC⟩
          have HM_q : Aside (madeq q_b q_c (ratio (q_b.neg != q_c.neg) (val q_b.num * val q_c.num) (val q_b.den * val q_c.den)) = (q_q, 0)) := ⟨by rw [← hq]; exact made_num NB NC⟩
          have HK_p := Aside.mk NP.ok
          have HK_q := Aside.mk NQ.ok
          have hlv := NP.lt NQ
          rw [hpq, decide_eq_true h1] at hlv
          have HM_v : Aside (askq q_p q_q (lessq q_p.neg (val q_p.num * val q_q.den) q_q.neg (val q_q.num * val q_p.den)) = ((0, true), 0)) := ⟨by rw [hlv]; exact askq_num NP NQ⟩
          clear NA NB NC NS NT NP NQ hst hpq hlv hp hq hlc h1
          simp only [hneg] at hB_c HR_c
          refine ⟨?_⟩
          simp only [Act.put, List.setIfInBounds_toArray, List.set_cons_zero, List.set_cons_succ]
          go_wp2_with (first | (go_at_call 56; with_reducible refine (Less2_calls HR_a.out HR_b.out HM_x.out).mono ?_; rintro e w101 ⟨rfl, he0⟩; have he := he0.alloc (.cells #[.int .i64 0, .bool true] 55); replace HX := Aside.mk (HX.out.trans he); replace hB_a := Four.ext he hB_a; replace hB_b := Four.ext he hB_b; replace hB_c := Four.ext he hB_c; replace HR_a := Aside.mk (HR_a.out.ext he); replace HR_b := Aside.mk (HR_b.out.ext he); replace HR_c := Aside.mk (HR_c.out.ext he); have hB_x := two_new w101 (.int .i64 0) (.bool true) 55; clear he0 he) | (go_at_call 56; with_reducible refine (Less2_calls HR_b.out HR_a.out HM_y.out).mono ?_; rintro e w102 ⟨rfl, he0⟩; have he := he0.alloc (.cells #[.int .i64 0, .bool false] 55); replace HX := Aside.mk (HX.out.trans he); replace hB_a := Four.ext he hB_a; replace hB_b := Four.ext he hB_b; replace hB_c := Four.ext he hB_c; replace hB_x := Two.ext he hB_x; replace HR_a := Aside.mk (HR_a.out.ext he); replace HR_b := Aside.mk (HR_b.out.ext he); replace HR_c := Aside.mk (HR_c.out.ext he); have hB_y := two_new w102 (.int .i64 0) (.bool false) 55; clear he0 he) | (go_at_call 57; with_reducible refine (Same2_calls HR_a.out HR_b.out HM_z.out).mono ?_; rintro e w103 ⟨rfl, he0⟩; have he := he0.alloc (.cells #[.int .i64 0, .bool false] 55); replace HX := Aside.mk (HX.out.trans he); replace hB_a := Four.ext he hB_a; replace hB_b := Four.ext he hB_b; replace hB_c := Four.ext he hB_c; replace hB_x := Two.ext he hB_x; replace hB_y := Two.ext he hB_y; replace HR_a := Aside.mk (HR_a.out.ext he); replace HR_b := Aside.mk (HR_b.out.ext he); replace HR_c := Aside.mk (HR_c.out.ext he); have hB_z := two_new w103 (.int .i64 0) (.bool false) 55; clear he0 he))
          have he := (Ext.refl (w103.alloc (.cells #[.int .i64 0, .bool false] 55))).alloc (.cells #[.int .i64 0, .bool true, .int .i64 0, .bool false, .int .i64 0, .bool false] 55); replace HX := Aside.mk (HX.out.trans he); replace hB_a := Four.ext he hB_a; replace hB_b := Four.ext he hB_b; replace hB_c := Four.ext he hB_c; replace hB_x := Two.ext he hB_x; replace hB_z := Two.ext he hB_z; replace HR_a := Aside.mk (HR_a.out.ext he); replace HR_b := Aside.mk (HR_b.out.ext he); replace HR_c := Aside.mk (HR_c.out.ext he); clear he hB_y
          go_loop [16, 18] (fun m i => (i = .int .i64 0 ∧ m = .int .i64 0) ∨ (i = .int .i64 1 ∧ m = .int .i64 (if true then 1 else 0)) ∨ (i = .int .i64 2 ∧ m = .int .i64 (if true || false then 1 else 0)) ∨ (i = .int .i64 3 ∧ m = .int .i64 1)) (fun _ i => (3 - intOf i).toNat)
          case atStart => exact .inl ⟨rfl, rfl⟩
          case round =>
          rcases hrel with ⟨rfl, rfl⟩ | ⟨rfl, rfl⟩ | ⟨rfl, rfl⟩ | ⟨rfl, rfl⟩
          · go_wp2
            go_round
            case rel => exact .inr (.inl ⟨rfl, rfl⟩)
            case measure => simp [intOf]
          · go_wp2
            go_round
            case rel => exact .inr (.inr (.inl ⟨rfl, rfl⟩))
            case measure => simp [intOf]
          · go_wp2
            go_round
            case rel => exact .inr (.inr (.inr ⟨rfl, rfl⟩))
            case measure => simp [intOf]
          go_wp2_with (first | (go_at_call 35; with_reducible refine (good2 (Add2_calls HR_a.out HR_c.out rfl) HM_s.out).mono ?_; rintro e w104 ⟨r, rfl, hr, he0⟩; obtain ⟨A_s, c_s, B_s, d_s, rfl⟩ := hr.form; have he := he0.alloc (.cells #[.int .i64 q_s.f, .bool q_s.neg, .slice A_s q_s.num.length c_s, .slice B_s q_s.den.length d_s] 26); replace HX := Aside.mk (HX.out.trans he); replace hB_a := Four.ext he hB_a; replace hB_b := Four.ext he hB_b; replace hB_c := Four.ext he hB_c; replace hB_x := Two.ext he hB_x; replace hB_z := Two.ext he hB_z; replace HR_a := Aside.mk (HR_a.out.ext he); replace HR_b := Aside.mk (HR_b.out.ext he); replace HR_c := Aside.mk (HR_c.out.ext he); have HR_s := Aside.mk (hr.rr.ext ((Ext.refl w104).alloc (.cells #[.int .i64 q_s.f, .bool q_s.neg, .slice A_s q_s.num.length c_s, .slice B_s q_s.den.length d_s] 26))); have hB_s := four_new w104 (.int .i64 q_s.f) (.bool q_s.neg) (.slice A_s q_s.num.length c_s) (.slice B_s q_s.den.length d_s) 26; clear hr he0 he) | (go_at_call 35; with_reducible refine (good2 (Add2_calls HR_b.out HR_c.out rfl) HM_t.out).mono ?_; rintro e w105 ⟨r, rfl, hr, he0⟩; obtain ⟨A_t, c_t, B_t, d_t, rfl⟩ := hr.form; have he := he0.alloc (.cells #[.int .i64 q_t.f, .bool q_t.neg, .slice A_t q_t.num.length c_t, .slice B_t q_t.den.length d_t] 26); replace HX := Aside.mk (HX.out.trans he); replace hB_a := Four.ext he hB_a; replace hB_b := Four.ext he hB_b; replace hB_c := Four.ext he hB_c; replace hB_x := Two.ext he hB_x; replace hB_z := Two.ext he hB_z; replace hB_s := Four.ext he hB_s; replace HR_a := Aside.mk (HR_a.out.ext he); replace HR_b := Aside.mk (HR_b.out.ext he); replace HR_c := Aside.mk (HR_c.out.ext he); replace HR_s := Aside.mk (HR_s.out.ext he); have HR_t := Aside.mk (hr.rr.ext ((Ext.refl w105).alloc (.cells #[.int .i64 q_t.f, .bool q_t.neg, .slice A_t q_t.num.length c_t, .slice B_t q_t.den.length d_t] 26))); have hB_t := four_new w105 (.int .i64 q_t.f) (.bool q_t.neg) (.slice A_t q_t.num.length c_t) (.slice B_t q_t.den.length d_t) 26; clear hr he0 he))
          generalize hW : w105.alloc _ = W0 at *
          have hkd : KO W0 p0 p1 w103.heap.size w104.heap.size w105.heap.size (.int .i64 q_a.f) (.bool q_a.neg) (.slice A_a q_a.num.length c_a) (.slice B_a q_a.den.length d_a) (.int .i64 q_b.f) (.bool q_b.neg) (.slice A_b q_b.num.length c_b) (.slice B_b q_b.den.length d_b) (.int .i64 0) (.bool false) (.int .i64 q_s.f) (.bool q_s.neg) (.slice A_s q_s.num.length c_s) (.slice B_s q_s.den.length d_s) (.int .i64 q_t.f) (.bool q_t.neg) (.slice A_t q_t.num.length c_t) (.slice B_t q_t.den.length d_t) W0 := ⟨⟨Ext.refl _⟩, hB_a, hB_b, hB_z, hB_s, hB_t⟩
          have hkd' := KO.ext (Ext.refl _).drew hkd
          clear hkd hW
          go_region_held (fun w' => KO W0 p0 p1 w103.heap.size w104.heap.size w105.heap.size (.int .i64 q_a.f) (.bool q_a.neg) (.slice A_a q_a.num.length c_a) (.slice B_a q_a.den.length d_a) (.int .i64 q_b.f) (.bool q_b.neg) (.slice A_b q_b.num.length c_b) (.slice B_b q_b.den.length d_b) (.int .i64 0) (.bool false) (.int .i64 q_s.f) (.bool q_s.neg) (.slice A_s q_s.num.length c_s) (.slice B_s q_s.den.length d_s) (.int .i64 q_t.f) (.bool q_t.neg) (.slice A_t q_t.num.length c_t) (.slice B_t q_t.den.length d_t) w') (first | assumption | exact KO.ext (by assumption) (by assumption)) (first | (go_at_call 33; with_reducible refine (requal_calls (HR_a.out.ext (Aside.out (And.left (show KO W0 p0 p1 w103.heap.size w104.heap.size w105.heap.size (.int .i64 q_a.f) (.bool q_a.neg) (.slice A_a q_a.num.length c_a) (.slice B_a q_a.den.length d_a) (.int .i64 q_b.f) (.bool q_b.neg) (.slice A_b q_b.num.length c_b) (.slice B_b q_b.den.length d_b) (.int .i64 0) (.bool false) (.int .i64 q_s.f) (.bool q_s.neg) (.slice A_s q_s.num.length c_s) (.slice B_s q_s.den.length d_s) (.int .i64 q_t.f) (.bool q_t.neg) (.slice A_t q_t.num.length c_t) (.slice B_t q_t.den.length d_t) _ from by assumption)))) (HR_b.out.ext (Aside.out (And.left (show KO W0 p0 p1 w103.heap.size w104.heap.size w105.heap.size (.int .i64 q_a.f) (.bool q_a.neg) (.slice A_a q_a.num.length c_a) (.slice B_a q_a.den.length d_a) (.int .i64 q_b.f) (.bool q_b.neg) (.slice A_b q_b.num.length c_b) (.slice B_b q_b.den.length d_b) (.int .i64 0) (.bool false) (.int .i64 q_s.f) (.bool q_s.neg) (.slice A_s q_s.num.length c_s) (.slice B_s q_s.den.length d_s) (.int .i64 q_t.f) (.bool q_t.neg) (.slice A_t q_t.num.length c_t) (.slice B_t q_t.den.length d_t) _ from by assumption)))) HZE.out).mono ?_; rintro e w201 ⟨rfl, he1⟩) | (go_at_call 44; with_reducible refine (good_true (HR_s.out.ext (Aside.out (And.left (show KO W0 p0 p1 w103.heap.size w104.heap.size w105.heap.size (.int .i64 q_a.f) (.bool q_a.neg) (.slice A_a q_a.num.length c_a) (.slice B_a q_a.den.length d_a) (.int .i64 q_b.f) (.bool q_b.neg) (.slice A_b q_b.num.length c_b) (.slice B_b q_b.den.length d_b) (.int .i64 0) (.bool false) (.int .i64 q_s.f) (.bool q_s.neg) (.slice A_s q_s.num.length c_s) (.slice B_s q_s.den.length d_s) (.int .i64 q_t.f) (.bool q_t.neg) (.slice A_t q_t.num.length c_t) (.slice B_t q_t.den.length d_t) _ from by assumption)))) HK_s.out).mono ?_; rintro e w202 ⟨rfl, he2⟩) | (go_at_call 44; with_reducible refine (good_true (HR_t.out.ext (Aside.out (And.left (show KO W0 p0 p1 w103.heap.size w104.heap.size w105.heap.size (.int .i64 q_a.f) (.bool q_a.neg) (.slice A_a q_a.num.length c_a) (.slice B_a q_a.den.length d_a) (.int .i64 q_b.f) (.bool q_b.neg) (.slice A_b q_b.num.length c_b) (.slice B_b q_b.den.length d_b) (.int .i64 0) (.bool false) (.int .i64 q_s.f) (.bool q_s.neg) (.slice A_s q_s.num.length c_s) (.slice B_s q_s.den.length d_s) (.int .i64 q_t.f) (.bool q_t.neg) (.slice A_t q_t.num.length c_t) (.slice B_t q_t.den.length d_t) _ from by assumption)))) HK_t.out).mono ?_; rintro e w203 ⟨rfl, he3⟩))
          have hk9 := KO.ext he3 (KO.ext he2 (KO.ext he1 hkd'))
          have he := hk9.1.out
          clear hB_z; replace HX := Aside.mk (HX.out.trans he); replace hB_a := Four.ext he hB_a; replace hB_b := Four.ext he hB_b; replace hB_c := Four.ext he hB_c; replace hB_x := Two.ext he hB_x; replace hB_s := Four.ext he hB_s; replace hB_t := Four.ext he hB_t; replace HR_a := Aside.mk (HR_a.out.ext he); replace HR_b := Aside.mk (HR_b.out.ext he); replace HR_c := Aside.mk (HR_c.out.ext he); replace HR_s := Aside.mk (HR_s.out.ext he); replace HR_t := Aside.mk (HR_t.out.ext he)
          clear he hkd' he1 he2 he3 hk9
          go_wp2_with (first | (go_at_call 56; with_reducible refine (Less2_calls HR_s.out HR_t.out HM_u.out).mono ?_; rintro e w116 ⟨rfl, he0⟩; have he := he0.alloc (.cells #[.int .i64 0, .bool true] 55); clear hB_s hB_t HR_s HR_t; replace HX := Aside.mk (HX.out.trans he); replace hB_a := Four.ext he hB_a; replace hB_b := Four.ext he hB_b; replace hB_c := Four.ext he hB_c; replace hB_x := Two.ext he hB_x; replace HR_a := Aside.mk (HR_a.out.ext he); replace HR_b := Aside.mk (HR_b.out.ext he); replace HR_c := Aside.mk (HR_c.out.ext he); have hB_u := two_new w116 (.int .i64 0) (.bool true) 55; clear he0 he) | (go_at_call 23; with_reducible refine (alive_calls (HG.out.ext (HE1.out.trans HX.out))).mono ?_; rintro e w99 ⟨rfl, he⟩; have HEND := Aside.mk ((HE1.out.trans HX.out).trans he); clear he) | (go_at_call 39; with_reducible refine (good2 (Mul2_calls HR_a.out HR_c.out rfl) HM_p.out).mono ?_; rintro e w117 ⟨r, rfl, hr, he0⟩; obtain ⟨A_p, c_p, B_p, d_p, rfl⟩ := hr.form; have he := he0.alloc (.cells #[.int .i64 q_p.f, .bool q_p.neg, .slice A_p q_p.num.length c_p, .slice B_p q_p.den.length d_p] 26); replace HX := Aside.mk (HX.out.trans he); replace hB_a := Four.ext he hB_a; replace hB_b := Four.ext he hB_b; replace hB_c := Four.ext he hB_c; replace hB_x := Two.ext he hB_x; replace HR_a := Aside.mk (HR_a.out.ext he); replace HR_b := Aside.mk (HR_b.out.ext he); replace HR_c := Aside.mk (HR_c.out.ext he); have HR_p := Aside.mk (hr.rr.ext ((Ext.refl w117).alloc (.cells #[.int .i64 q_p.f, .bool q_p.neg, .slice A_p q_p.num.length c_p, .slice B_p q_p.den.length d_p] 26))); have hB_p := four_new w117 (.int .i64 q_p.f) (.bool q_p.neg) (.slice A_p q_p.num.length c_p) (.slice B_p q_p.den.length d_p) 26; clear hr he0 he) | (go_at_call 39; with_reducible refine (good2 (Mul2_calls HR_b.out HR_c.out rfl) HM_q.out).mono ?_; rintro e w118 ⟨r, rfl, hr, he0⟩; obtain ⟨A_q, c_q, B_q, d_q, rfl⟩ := hr.form; have he := he0.alloc (.cells #[.int .i64 q_q.f, .bool q_q.neg, .slice A_q q_q.num.length c_q, .slice B_q q_q.den.length d_q] 26); clear hB_a hB_b hB_c HR_a HR_b HR_c; replace HX := Aside.mk (HX.out.trans he); replace hB_x := Two.ext he hB_x; replace hB_p := Four.ext he hB_p; replace HR_p := Aside.mk (HR_p.out.ext he); have HR_q := Aside.mk (hr.rr.ext ((Ext.refl w118).alloc (.cells #[.int .i64 q_q.f, .bool q_q.neg, .slice A_q q_q.num.length c_q, .slice B_q q_q.den.length d_q] 26))); have hB_q := four_new w118 (.int .i64 q_q.f) (.bool q_q.neg) (.slice A_q q_q.num.length c_q) (.slice B_q q_q.den.length d_q) 26; clear hr he0 he) | (go_at_call 44; with_reducible refine (good_true HR_p.out HK_p.out).mono ?_; rintro e w119 ⟨rfl, he⟩; replace HX := Aside.mk (HX.out.trans he); replace hB_x := Two.ext he hB_x; replace hB_p := Four.ext he hB_p; replace hB_q := Four.ext he hB_q; replace HR_p := Aside.mk (HR_p.out.ext he); replace HR_q := Aside.mk (HR_q.out.ext he); clear he) | (go_at_call 44; with_reducible refine (good_true HR_q.out HK_q.out).mono ?_; rintro e w120 ⟨rfl, he⟩; replace HX := Aside.mk (HX.out.trans he); replace hB_x := Two.ext he hB_x; replace hB_p := Four.ext he hB_p; replace hB_q := Four.ext he hB_q; replace HR_p := Aside.mk (HR_p.out.ext he); replace HR_q := Aside.mk (HR_q.out.ext he); clear he) | (go_at_call 56; with_reducible refine (Less2_calls HR_p.out HR_q.out HM_v.out).mono ?_; rintro e w121 ⟨rfl, he0⟩; have he := he0.alloc (.cells #[.int .i64 0, .bool true] 55); clear hB_p hB_q HR_p HR_q; replace HX := Aside.mk (HX.out.trans he); replace hB_x := Two.ext he hB_x; have hB_v := two_new w121 (.int .i64 0) (.bool true) 55; clear he0 he))
          go_ret
          exact ⟨rfl, HEND.out⟩
      · clear NA NB NC NS NT hst h1
        simp only [hneg] at hB_c HR_c
        refine ⟨?_⟩
        simp only [Act.put, List.setIfInBounds_toArray, List.set_cons_zero, List.set_cons_succ]
        go_wp2_with (first | (go_at_call 56; with_reducible refine (Less2_calls HR_a.out HR_b.out HM_x.out).mono ?_; rintro e w101 ⟨rfl, he0⟩; have he := he0.alloc (.cells #[.int .i64 0, .bool true] 55); replace HX := Aside.mk (HX.out.trans he); replace hB_a := Four.ext he hB_a; replace hB_b := Four.ext he hB_b; replace hB_c := Four.ext he hB_c; replace HR_a := Aside.mk (HR_a.out.ext he); replace HR_b := Aside.mk (HR_b.out.ext he); replace HR_c := Aside.mk (HR_c.out.ext he); have hB_x := two_new w101 (.int .i64 0) (.bool true) 55; clear he0 he) | (go_at_call 56; with_reducible refine (Less2_calls HR_b.out HR_a.out HM_y.out).mono ?_; rintro e w102 ⟨rfl, he0⟩; have he := he0.alloc (.cells #[.int .i64 0, .bool false] 55); replace HX := Aside.mk (HX.out.trans he); replace hB_a := Four.ext he hB_a; replace hB_b := Four.ext he hB_b; replace hB_c := Four.ext he hB_c; replace hB_x := Two.ext he hB_x; replace HR_a := Aside.mk (HR_a.out.ext he); replace HR_b := Aside.mk (HR_b.out.ext he); replace HR_c := Aside.mk (HR_c.out.ext he); have hB_y := two_new w102 (.int .i64 0) (.bool false) 55; clear he0 he) | (go_at_call 57; with_reducible refine (Same2_calls HR_a.out HR_b.out HM_z.out).mono ?_; rintro e w103 ⟨rfl, he0⟩; have he := he0.alloc (.cells #[.int .i64 0, .bool false] 55); replace HX := Aside.mk (HX.out.trans he); replace hB_a := Four.ext he hB_a; replace hB_b := Four.ext he hB_b; replace hB_c := Four.ext he hB_c; replace hB_x := Two.ext he hB_x; replace hB_y := Two.ext he hB_y; replace HR_a := Aside.mk (HR_a.out.ext he); replace HR_b := Aside.mk (HR_b.out.ext he); replace HR_c := Aside.mk (HR_c.out.ext he); have hB_z := two_new w103 (.int .i64 0) (.bool false) 55; clear he0 he))
        have he := (Ext.refl (w103.alloc (.cells #[.int .i64 0, .bool false] 55))).alloc (.cells #[.int .i64 0, .bool true, .int .i64 0, .bool false, .int .i64 0, .bool false] 55); replace HX := Aside.mk (HX.out.trans he); replace hB_a := Four.ext he hB_a; replace hB_b := Four.ext he hB_b; replace hB_c := Four.ext he hB_c; replace hB_x := Two.ext he hB_x; replace hB_z := Two.ext he hB_z; replace HR_a := Aside.mk (HR_a.out.ext he); replace HR_b := Aside.mk (HR_b.out.ext he); replace HR_c := Aside.mk (HR_c.out.ext he); clear he hB_y
        go_loop [16, 18] (fun m i => (i = .int .i64 0 ∧ m = .int .i64 0) ∨ (i = .int .i64 1 ∧ m = .int .i64 (if true then 1 else 0)) ∨ (i = .int .i64 2 ∧ m = .int .i64 (if true || false then 1 else 0)) ∨ (i = .int .i64 3 ∧ m = .int .i64 1)) (fun _ i => (3 - intOf i).toNat)
        case atStart => exact .inl ⟨rfl, rfl⟩
        case round =>
        rcases hrel with ⟨rfl, rfl⟩ | ⟨rfl, rfl⟩ | ⟨rfl, rfl⟩ | ⟨rfl, rfl⟩
        · go_wp2
          go_round
          case rel => exact .inr (.inl ⟨rfl, rfl⟩)
          case measure => simp [intOf]
        · go_wp2
          go_round
          case rel => exact .inr (.inr (.inl ⟨rfl, rfl⟩))
          case measure => simp [intOf]
        · go_wp2
          go_round
          case rel => exact .inr (.inr (.inr ⟨rfl, rfl⟩))
          case measure => simp [intOf]
        go_wp2_with (first | (go_at_call 35; with_reducible refine (good2 (Add2_calls HR_a.out HR_c.out rfl) HM_s.out).mono ?_; rintro e w104 ⟨r, rfl, hr, he0⟩; obtain ⟨A_s, c_s, B_s, d_s, rfl⟩ := hr.form; have he := he0.alloc (.cells #[.int .i64 q_s.f, .bool q_s.neg, .slice A_s q_s.num.length c_s, .slice B_s q_s.den.length d_s] 26); replace HX := Aside.mk (HX.out.trans he); replace hB_a := Four.ext he hB_a; replace hB_b := Four.ext he hB_b; replace hB_c := Four.ext he hB_c; replace hB_x := Two.ext he hB_x; replace hB_z := Two.ext he hB_z; replace HR_a := Aside.mk (HR_a.out.ext he); replace HR_b := Aside.mk (HR_b.out.ext he); replace HR_c := Aside.mk (HR_c.out.ext he); have HR_s := Aside.mk (hr.rr.ext ((Ext.refl w104).alloc (.cells #[.int .i64 q_s.f, .bool q_s.neg, .slice A_s q_s.num.length c_s, .slice B_s q_s.den.length d_s] 26))); have hB_s := four_new w104 (.int .i64 q_s.f) (.bool q_s.neg) (.slice A_s q_s.num.length c_s) (.slice B_s q_s.den.length d_s) 26; clear hr he0 he) | (go_at_call 35; with_reducible refine (good2 (Add2_calls HR_b.out HR_c.out rfl) HM_t.out).mono ?_; rintro e w105 ⟨r, rfl, hr, he0⟩; obtain ⟨A_t, c_t, B_t, d_t, rfl⟩ := hr.form; have he := he0.alloc (.cells #[.int .i64 q_t.f, .bool q_t.neg, .slice A_t q_t.num.length c_t, .slice B_t q_t.den.length d_t] 26); replace HX := Aside.mk (HX.out.trans he); replace hB_a := Four.ext he hB_a; replace hB_b := Four.ext he hB_b; replace hB_c := Four.ext he hB_c; replace hB_x := Two.ext he hB_x; replace hB_z := Two.ext he hB_z; replace hB_s := Four.ext he hB_s; replace HR_a := Aside.mk (HR_a.out.ext he); replace HR_b := Aside.mk (HR_b.out.ext he); replace HR_c := Aside.mk (HR_c.out.ext he); replace HR_s := Aside.mk (HR_s.out.ext he); have HR_t := Aside.mk (hr.rr.ext ((Ext.refl w105).alloc (.cells #[.int .i64 q_t.f, .bool q_t.neg, .slice A_t q_t.num.length c_t, .slice B_t q_t.den.length d_t] 26))); have hB_t := four_new w105 (.int .i64 q_t.f) (.bool q_t.neg) (.slice A_t q_t.num.length c_t) (.slice B_t q_t.den.length d_t) 26; clear hr he0 he))
        generalize hW : w105.alloc _ = W0 at *
        have hkd : KO W0 p0 p1 w103.heap.size w104.heap.size w105.heap.size (.int .i64 q_a.f) (.bool q_a.neg) (.slice A_a q_a.num.length c_a) (.slice B_a q_a.den.length d_a) (.int .i64 q_b.f) (.bool q_b.neg) (.slice A_b q_b.num.length c_b) (.slice B_b q_b.den.length d_b) (.int .i64 0) (.bool false) (.int .i64 q_s.f) (.bool q_s.neg) (.slice A_s q_s.num.length c_s) (.slice B_s q_s.den.length d_s) (.int .i64 q_t.f) (.bool q_t.neg) (.slice A_t q_t.num.length c_t) (.slice B_t q_t.den.length d_t) W0 := ⟨⟨Ext.refl _⟩, hB_a, hB_b, hB_z, hB_s, hB_t⟩
        have hkd' := KO.ext (Ext.refl _).drew hkd
        clear hkd hW
        go_region_held (fun w' => KO W0 p0 p1 w103.heap.size w104.heap.size w105.heap.size (.int .i64 q_a.f) (.bool q_a.neg) (.slice A_a q_a.num.length c_a) (.slice B_a q_a.den.length d_a) (.int .i64 q_b.f) (.bool q_b.neg) (.slice A_b q_b.num.length c_b) (.slice B_b q_b.den.length d_b) (.int .i64 0) (.bool false) (.int .i64 q_s.f) (.bool q_s.neg) (.slice A_s q_s.num.length c_s) (.slice B_s q_s.den.length d_s) (.int .i64 q_t.f) (.bool q_t.neg) (.slice A_t q_t.num.length c_t) (.slice B_t q_t.den.length d_t) w') (first | assumption | exact KO.ext (by assumption) (by assumption)) (first | (go_at_call 33; with_reducible refine (requal_calls (HR_a.out.ext (Aside.out (And.left (show KO W0 p0 p1 w103.heap.size w104.heap.size w105.heap.size (.int .i64 q_a.f) (.bool q_a.neg) (.slice A_a q_a.num.length c_a) (.slice B_a q_a.den.length d_a) (.int .i64 q_b.f) (.bool q_b.neg) (.slice A_b q_b.num.length c_b) (.slice B_b q_b.den.length d_b) (.int .i64 0) (.bool false) (.int .i64 q_s.f) (.bool q_s.neg) (.slice A_s q_s.num.length c_s) (.slice B_s q_s.den.length d_s) (.int .i64 q_t.f) (.bool q_t.neg) (.slice A_t q_t.num.length c_t) (.slice B_t q_t.den.length d_t) _ from by assumption)))) (HR_b.out.ext (Aside.out (And.left (show KO W0 p0 p1 w103.heap.size w104.heap.size w105.heap.size (.int .i64 q_a.f) (.bool q_a.neg) (.slice A_a q_a.num.length c_a) (.slice B_a q_a.den.length d_a) (.int .i64 q_b.f) (.bool q_b.neg) (.slice A_b q_b.num.length c_b) (.slice B_b q_b.den.length d_b) (.int .i64 0) (.bool false) (.int .i64 q_s.f) (.bool q_s.neg) (.slice A_s q_s.num.length c_s) (.slice B_s q_s.den.length d_s) (.int .i64 q_t.f) (.bool q_t.neg) (.slice A_t q_t.num.length c_t) (.slice B_t q_t.den.length d_t) _ from by assumption)))) HZE.out).mono ?_; rintro e w201 ⟨rfl, he1⟩) | (go_at_call 44; with_reducible refine (good_true (HR_s.out.ext (Aside.out (And.left (show KO W0 p0 p1 w103.heap.size w104.heap.size w105.heap.size (.int .i64 q_a.f) (.bool q_a.neg) (.slice A_a q_a.num.length c_a) (.slice B_a q_a.den.length d_a) (.int .i64 q_b.f) (.bool q_b.neg) (.slice A_b q_b.num.length c_b) (.slice B_b q_b.den.length d_b) (.int .i64 0) (.bool false) (.int .i64 q_s.f) (.bool q_s.neg) (.slice A_s q_s.num.length c_s) (.slice B_s q_s.den.length d_s) (.int .i64 q_t.f) (.bool q_t.neg) (.slice A_t q_t.num.length c_t) (.slice B_t q_t.den.length d_t) _ from by assumption)))) HK_s.out).mono ?_; rintro e w202 ⟨rfl, he2⟩) | (go_at_call 44; with_reducible refine (good_true (HR_t.out.ext (Aside.out (And.left (show KO W0 p0 p1 w103.heap.size w104.heap.size w105.heap.size (.int .i64 q_a.f) (.bool q_a.neg) (.slice A_a q_a.num.length c_a) (.slice B_a q_a.den.length d_a) (.int .i64 q_b.f) (.bool q_b.neg) (.slice A_b q_b.num.length c_b) (.slice B_b q_b.den.length d_b) (.int .i64 0) (.bool false) (.int .i64 q_s.f) (.bool q_s.neg) (.slice A_s q_s.num.length c_s) (.slice B_s q_s.den.length d_s) (.int .i64 q_t.f) (.bool q_t.neg) (.slice A_t q_t.num.length c_t) (.slice B_t q_t.den.length d_t) _ from by assumption)))) HK_t.out).mono ?_; rintro e w203 ⟨rfl, he3⟩))
        have hk9 := KO.ext he3 (KO.ext he2 (KO.ext he1 hkd'))
        have he := hk9.1.out
        clear hB_z; replace HX := Aside.mk (HX.out.trans he); replace hB_a := Four.ext he hB_a; replace hB_b := Four.ext he hB_b; replace hB_c := Four.ext he hB_c; replace hB_x := Two.ext he hB_x; replace hB_s := Four.ext he hB_s; replace hB_t := Four.ext he hB_t; replace HR_a := Aside.mk (HR_a.out.ext he); replace HR_b := Aside.mk (HR_b.out.ext he); replace HR_c := Aside.mk (HR_c.out.ext he); replace HR_s := Aside.mk (HR_s.out.ext he); replace HR_t := Aside.mk (HR_t.out.ext he)
        clear he hkd' he1 he2 he3 hk9
        go_wp2_with (first | (go_at_call 56; with_reducible refine (Less2_calls HR_s.out HR_t.out HM_u.out).mono ?_; rintro e w116 ⟨rfl, he0⟩; have he := he0.alloc (.cells #[.int .i64 0, .bool true] 55); clear hB_s hB_t HR_s HR_t; replace HX := Aside.mk (HX.out.trans he); replace hB_a := Four.ext he hB_a; replace hB_b := Four.ext he hB_b; replace hB_c := Four.ext he hB_c; replace hB_x := Two.ext he hB_x; replace HR_a := Aside.mk (HR_a.out.ext he); replace HR_b := Aside.mk (HR_b.out.ext he); replace HR_c := Aside.mk (HR_c.out.ext he); have hB_u := two_new w116 (.int .i64 0) (.bool true) 55; clear he0 he) | (go_at_call 23; with_reducible refine (alive_calls (HG.out.ext (HE1.out.trans HX.out))).mono ?_; rintro e w99 ⟨rfl, he⟩; have HEND := Aside.mk ((HE1.out.trans HX.out).trans he); clear he) | (go_at_call 39; with_reducible refine (good2 (Mul2_calls HR_a.out HR_c.out rfl) HM_p.out).mono ?_; rintro e w117 ⟨r, rfl, hr, he0⟩; obtain ⟨A_p, c_p, B_p, d_p, rfl⟩ := hr.form; have he := he0.alloc (.cells #[.int .i64 q_p.f, .bool q_p.neg, .slice A_p q_p.num.length c_p, .slice B_p q_p.den.length d_p] 26); replace HX := Aside.mk (HX.out.trans he); replace hB_a := Four.ext he hB_a; replace hB_b := Four.ext he hB_b; replace hB_c := Four.ext he hB_c; replace hB_x := Two.ext he hB_x; replace HR_a := Aside.mk (HR_a.out.ext he); replace HR_b := Aside.mk (HR_b.out.ext he); replace HR_c := Aside.mk (HR_c.out.ext he); have HR_p := Aside.mk (hr.rr.ext ((Ext.refl w117).alloc (.cells #[.int .i64 q_p.f, .bool q_p.neg, .slice A_p q_p.num.length c_p, .slice B_p q_p.den.length d_p] 26))); have hB_p := four_new w117 (.int .i64 q_p.f) (.bool q_p.neg) (.slice A_p q_p.num.length c_p) (.slice B_p q_p.den.length d_p) 26; clear hr he0 he) | (go_at_call 39; with_reducible refine (good2 (Mul2_calls HR_b.out HR_c.out rfl) HM_q.out).mono ?_; rintro e w118 ⟨r, rfl, hr, he0⟩; obtain ⟨A_q, c_q, B_q, d_q, rfl⟩ := hr.form; have he := he0.alloc (.cells #[.int .i64 q_q.f, .bool q_q.neg, .slice A_q q_q.num.length c_q, .slice B_q q_q.den.length d_q] 26); clear hB_a hB_b hB_c HR_a HR_b HR_c; replace HX := Aside.mk (HX.out.trans he); replace hB_x := Two.ext he hB_x; replace hB_p := Four.ext he hB_p; replace HR_p := Aside.mk (HR_p.out.ext he); have HR_q := Aside.mk (hr.rr.ext ((Ext.refl w118).alloc (.cells #[.int .i64 q_q.f, .bool q_q.neg, .slice A_q q_q.num.length c_q, .slice B_q q_q.den.length d_q] 26))); have hB_q := four_new w118 (.int .i64 q_q.f) (.bool q_q.neg) (.slice A_q q_q.num.length c_q) (.slice B_q q_q.den.length d_q) 26; clear hr he0 he) | (go_at_call 44; with_reducible refine (good_true HR_p.out HK_p.out).mono ?_; rintro e w119 ⟨rfl, he⟩; replace HX := Aside.mk (HX.out.trans he); replace hB_x := Two.ext he hB_x; replace hB_p := Four.ext he hB_p; replace hB_q := Four.ext he hB_q; replace HR_p := Aside.mk (HR_p.out.ext he); replace HR_q := Aside.mk (HR_q.out.ext he); clear he) | (go_at_call 44; with_reducible refine (good_true HR_q.out HK_q.out).mono ?_; rintro e w120 ⟨rfl, he⟩; replace HX := Aside.mk (HX.out.trans he); replace hB_x := Two.ext he hB_x; replace hB_p := Four.ext he hB_p; replace hB_q := Four.ext he hB_q; replace HR_p := Aside.mk (HR_p.out.ext he); replace HR_q := Aside.mk (HR_q.out.ext he); clear he) | (go_at_call 56; with_reducible refine (Less2_calls HR_p.out HR_q.out HM_v.out).mono ?_; rintro e w121 ⟨rfl, he0⟩; have he := he0.alloc (.cells #[.int .i64 0, .bool true] 55); clear hB_p hB_q HR_p HR_q; replace HX := Aside.mk (HX.out.trans he); replace hB_x := Two.ext he hB_x; have hB_v := two_new w121 (.int .i64 0) (.bool true) 55; clear he0 he))
        go_ret
        exact ⟨rfl, HEND.out⟩
    · rw [decide_eq_false h1] at hla hlu
      rw [decide_eq_true h2] at hlb
      rw [decide_eq_false h3] at hlz
      have HM_x : Aside (askq q_a q_b (lessq q_a.neg (val q_a.num * val q_b.den) q_b.neg (val q_b.num * val q_a.den)) = ((0, false), 0)) := ⟨by rw [hla]; exact askq_num NA NB⟩
      have HM_y : Aside (askq q_b q_a (lessq q_b.neg (val q_b.num * val q_a.den) q_a.neg (val q_a.num * val q_b.den)) = ((0, true), 0)) := ⟨by rw [hlb]; exact askq_num NB NA⟩
      have HM_z : Aside (askq q_a q_b (sameq q_a q_b) = ((0, false), 0)) := ⟨by rw [hlz]; exact askq_num NA NB⟩
      have HM_u : Aside (askq q_s q_t (lessq q_s.neg (val q_s.num * val q_t.den) q_t.neg (val q_t.num * val q_s.den)) = ((0, false), 0)) := ⟨by rw [hlu]; exact askq_num NS NT⟩
      have HZE : Aside ((q_a.f == q_b.f && sameq q_a q_b) = false) := ⟨by rw [hlz, NA.f, NB.f]; rfl⟩
      clear hla hlb hlz hlu h2 h3 hs ht
      cases hneg : q_c.neg
      · by_cases hlc : q_c.num.length = 0
        · have hl0 : ((q_c.num.length : Int) == 0) = true := by rw [hlc]; rfl
          clear NA NB NC NS NT hst hlc h1
          simp only [hneg] at hB_c HR_c
          refine ⟨?_⟩
          simp only [Act.put, List.setIfInBounds_toArray, List.set_cons_zero, List.set_cons_succ]
          go_wp2_with (first | (go_at_call 56; with_reducible refine (Less2_calls HR_a.out HR_b.out HM_x.out).mono ?_; rintro e w101 ⟨rfl, he0⟩; have he := he0.alloc (.cells #[.int .i64 0, .bool false] 55); replace HX := Aside.mk (HX.out.trans he); replace hB_a := Four.ext he hB_a; replace hB_b := Four.ext he hB_b; replace hB_c := Four.ext he hB_c; replace HR_a := Aside.mk (HR_a.out.ext he); replace HR_b := Aside.mk (HR_b.out.ext he); replace HR_c := Aside.mk (HR_c.out.ext he); have hB_x := two_new w101 (.int .i64 0) (.bool false) 55; clear he0 he) | (go_at_call 56; with_reducible refine (Less2_calls HR_b.out HR_a.out HM_y.out).mono ?_; rintro e w102 ⟨rfl, he0⟩; have he := he0.alloc (.cells #[.int .i64 0, .bool true] 55); replace HX := Aside.mk (HX.out.trans he); replace hB_a := Four.ext he hB_a; replace hB_b := Four.ext he hB_b; replace hB_c := Four.ext he hB_c; replace hB_x := Two.ext he hB_x; replace HR_a := Aside.mk (HR_a.out.ext he); replace HR_b := Aside.mk (HR_b.out.ext he); replace HR_c := Aside.mk (HR_c.out.ext he); have hB_y := two_new w102 (.int .i64 0) (.bool true) 55; clear he0 he) | (go_at_call 57; with_reducible refine (Same2_calls HR_a.out HR_b.out HM_z.out).mono ?_; rintro e w103 ⟨rfl, he0⟩; have he := he0.alloc (.cells #[.int .i64 0, .bool false] 55); replace HX := Aside.mk (HX.out.trans he); replace hB_a := Four.ext he hB_a; replace hB_b := Four.ext he hB_b; replace hB_c := Four.ext he hB_c; replace hB_x := Two.ext he hB_x; replace hB_y := Two.ext he hB_y; replace HR_a := Aside.mk (HR_a.out.ext he); replace HR_b := Aside.mk (HR_b.out.ext he); replace HR_c := Aside.mk (HR_c.out.ext he); have hB_z := two_new w103 (.int .i64 0) (.bool false) 55; clear he0 he))
          have he := (Ext.refl (w103.alloc (.cells #[.int .i64 0, .bool false] 55))).alloc (.cells #[.int .i64 0, .bool false, .int .i64 0, .bool true, .int .i64 0, .bool false] 55); replace HX := Aside.mk (HX.out.trans he); replace hB_a := Four.ext he hB_a; replace hB_b := Four.ext he hB_b; replace hB_c := Four.ext he hB_c; replace hB_x := Two.ext he hB_x; replace hB_z := Two.ext he hB_z; replace HR_a := Aside.mk (HR_a.out.ext he); replace HR_b := Aside.mk (HR_b.out.ext he); replace HR_c := Aside.mk (HR_c.out.ext he); clear he hB_y
          go_loop [16, 18] (fun m i => (i = .int .i64 0 ∧ m = .int .i64 0) ∨ (i = .int .i64 1 ∧ m = .int .i64 (if false then 1 else 0)) ∨ (i = .int .i64 2 ∧ m = .int .i64 (if false || true then 1 else 0)) ∨ (i = .int .i64 3 ∧ m = .int .i64 1)) (fun _ i => (3 - intOf i).toNat)
          case atStart => exact .inl ⟨rfl, rfl⟩
          case round =>
          rcases hrel with ⟨rfl, rfl⟩ | ⟨rfl, rfl⟩ | ⟨rfl, rfl⟩ | ⟨rfl, rfl⟩
          · go_wp2
            go_round
            case rel => exact .inr (.inl ⟨rfl, rfl⟩)
            case measure => simp [intOf]
          · go_wp2
            go_round
            case rel => exact .inr (.inr (.inl ⟨rfl, rfl⟩))
            case measure => simp [intOf]
          · go_wp2
            go_round
            case rel => exact .inr (.inr (.inr ⟨rfl, rfl⟩))
            case measure => simp [intOf]
          go_wp2_with (first | (go_at_call 35; with_reducible refine (good2 (Add2_calls HR_a.out HR_c.out rfl) HM_s.out).mono ?_; rintro e w104 ⟨r, rfl, hr, he0⟩; obtain ⟨A_s, c_s, B_s, d_s, rfl⟩ := hr.form; have he := he0.alloc (.cells #[.int .i64 q_s.f, .bool q_s.neg, .slice A_s q_s.num.length c_s, .slice B_s q_s.den.length d_s] 26); replace HX := Aside.mk (HX.out.trans he); replace hB_a := Four.ext he hB_a; replace hB_b := Four.ext he hB_b; replace hB_c := Four.ext he hB_c; replace hB_x := Two.ext he hB_x; replace hB_z := Two.ext he hB_z; replace HR_a := Aside.mk (HR_a.out.ext he); replace HR_b := Aside.mk (HR_b.out.ext he); replace HR_c := Aside.mk (HR_c.out.ext he); have HR_s := Aside.mk (hr.rr.ext ((Ext.refl w104).alloc (.cells #[.int .i64 q_s.f, .bool q_s.neg, .slice A_s q_s.num.length c_s, .slice B_s q_s.den.length d_s] 26))); have hB_s := four_new w104 (.int .i64 q_s.f) (.bool q_s.neg) (.slice A_s q_s.num.length c_s) (.slice B_s q_s.den.length d_s) 26; clear hr he0 he) | (go_at_call 35; with_reducible refine (good2 (Add2_calls HR_b.out HR_c.out rfl) HM_t.out).mono ?_; rintro e w105 ⟨r, rfl, hr, he0⟩; obtain ⟨A_t, c_t, B_t, d_t, rfl⟩ := hr.form; have he := he0.alloc (.cells #[.int .i64 q_t.f, .bool q_t.neg, .slice A_t q_t.num.length c_t, .slice B_t q_t.den.length d_t] 26); replace HX := Aside.mk (HX.out.trans he); replace hB_a := Four.ext he hB_a; replace hB_b := Four.ext he hB_b; replace hB_c := Four.ext he hB_c; replace hB_x := Two.ext he hB_x; replace hB_z := Two.ext he hB_z; replace hB_s := Four.ext he hB_s; replace HR_a := Aside.mk (HR_a.out.ext he); replace HR_b := Aside.mk (HR_b.out.ext he); replace HR_c := Aside.mk (HR_c.out.ext he); replace HR_s := Aside.mk (HR_s.out.ext he); have HR_t := Aside.mk (hr.rr.ext ((Ext.refl w105).alloc (.cells #[.int .i64 q_t.f, .bool q_t.neg, .slice A_t q_t.num.length c_t, .slice B_t q_t.den.length d_t] 26))); have hB_t := four_new w105 (.int .i64 q_t.f) (.bool q_t.neg) (.slice A_t q_t.num.length c_t) (.slice B_t q_t.den.length d_t) 26; clear hr he0 he))
          generalize hW : w105.alloc _ = W0 at *
          have hkd : KO W0 p0 p1 w103.heap.size w104.heap.size w105.heap.size (.int .i64 q_a.f) (.bool q_a.neg) (.slice A_a q_a.num.length c_a) (.slice B_a q_a.den.length d_a) (.int .i64 q_b.f) (.bool q_b.neg) (.slice A_b q_b.num.length c_b) (.slice B_b q_b.den.length d_b) (.int .i64 0) (.bool false) (.int .i64 q_s.f) (.bool q_s.neg) (.slice A_s q_s.num.length c_s) (.slice B_s q_s.den.length d_s) (.int .i64 q_t.f) (.bool q_t.neg) (.slice A_t q_t.num.length c_t) (.slice B_t q_t.den.length d_t) W0 := ⟨⟨Ext.refl _⟩, hB_a, hB_b, hB_z, hB_s, hB_t⟩
          have hkd' := KO.ext (Ext.refl _).drew hkd
          clear hkd hW
          go_region_held (fun w' => KO W0 p0 p1 w103.heap.size w104.heap.size w105.heap.size (.int .i64 q_a.f) (.bool q_a.neg) (.slice A_a q_a.num.length c_a) (.slice B_a q_a.den.length d_a) (.int .i64 q_b.f) (.bool q_b.neg) (.slice A_b q_b.num.length c_b) (.slice B_b q_b.den.length d_b) (.int .i64 0) (.bool false) (.int .i64 q_s.f) (.bool q_s.neg) (.slice A_s q_s.num.length c_s) (.slice B_s q_s.den.length d_s) (.int .i64 q_t.f) (.bool q_t.neg) (.slice A_t q_t.num.length c_t) (.slice B_t q_t.den.length d_t) w') (first | assumption | exact KO.ext (by assumption) (by assumption)) (first | (go_at_call 33; with_reducible refine (requal_calls (HR_a.out.ext (Aside.out (And.left (show KO W0 p0 p1 w103.heap.size w104.heap.size w105.heap.size (.int .i64 q_a.f) (.bool q_a.neg) (.slice A_a q_a.num.length c_a) (.slice B_a q_a.den.length d_a) (.int .i64 q_b.f) (.bool q_b.neg) (.slice A_b q_b.num.length c_b) (.slice B_b q_b.den.length d_b) (.int .i64 0) (.bool false) (.int .i64 q_s.f) (.bool q_s.neg) (.slice A_s q_s.num.length c_s) (.slice B_s q_s.den.length d_s) (.int .i64 q_t.f) (.bool q_t.neg) (.slice A_t q_t.num.length c_t) (.slice B_t q_t.den.length d_t) _ from by assumption)))) (HR_b.out.ext (Aside.out (And.left (show KO W0 p0 p1 w103.heap.size w104.heap.size w105.heap.size (.int .i64 q_a.f) (.bool q_a.neg) (.slice A_a q_a.num.length c_a) (.slice B_a q_a.den.length d_a) (.int .i64 q_b.f) (.bool q_b.neg) (.slice A_b q_b.num.length c_b) (.slice B_b q_b.den.length d_b) (.int .i64 0) (.bool false) (.int .i64 q_s.f) (.bool q_s.neg) (.slice A_s q_s.num.length c_s) (.slice B_s q_s.den.length d_s) (.int .i64 q_t.f) (.bool q_t.neg) (.slice A_t q_t.num.length c_t) (.slice B_t q_t.den.length d_t) _ from by assumption)))) HZE.out).mono ?_; rintro e w201 ⟨rfl, he1⟩) | (go_at_call 44; with_reducible refine (good_true (HR_s.out.ext (Aside.out (And.left (show KO W0 p0 p1 w103.heap.size w104.heap.size w105.heap.size (.int .i64 q_a.f) (.bool q_a.neg) (.slice A_a q_a.num.length c_a) (.slice B_a q_a.den.length d_a) (.int .i64 q_b.f) (.bool q_b.neg) (.slice A_b q_b.num.length c_b) (.slice B_b q_b.den.length d_b) (.int .i64 0) (.bool false) (.int .i64 q_s.f) (.bool q_s.neg) (.slice A_s q_s.num.length c_s) (.slice B_s q_s.den.length d_s) (.int .i64 q_t.f) (.bool q_t.neg) (.slice A_t q_t.num.length c_t) (.slice B_t q_t.den.length d_t) _ from by assumption)))) HK_s.out).mono ?_; rintro e w202 ⟨rfl, he2⟩) | (go_at_call 44; with_reducible refine (good_true (HR_t.out.ext (Aside.out (And.left (show KO W0 p0 p1 w103.heap.size w104.heap.size w105.heap.size (.int .i64 q_a.f) (.bool q_a.neg) (.slice A_a q_a.num.length c_a) (.slice B_a q_a.den.length d_a) (.int .i64 q_b.f) (.bool q_b.neg) (.slice A_b q_b.num.length c_b) (.slice B_b q_b.den.length d_b) (.int .i64 0) (.bool false) (.int .i64 q_s.f) (.bool q_s.neg) (.slice A_s q_s.num.length c_s) (.slice B_s q_s.den.length d_s) (.int .i64 q_t.f) (.bool q_t.neg) (.slice A_t q_t.num.length c_t) (.slice B_t q_t.den.length d_t) _ from by assumption)))) HK_t.out).mono ?_; rintro e w203 ⟨rfl, he3⟩))
          have hk9 := KO.ext he3 (KO.ext he2 (KO.ext he1 hkd'))
          have he := hk9.1.out
          clear hB_z; replace HX := Aside.mk (HX.out.trans he); replace hB_a := Four.ext he hB_a; replace hB_b := Four.ext he hB_b; replace hB_c := Four.ext he hB_c; replace hB_x := Two.ext he hB_x; replace hB_s := Four.ext he hB_s; replace hB_t := Four.ext he hB_t; replace HR_a := Aside.mk (HR_a.out.ext he); replace HR_b := Aside.mk (HR_b.out.ext he); replace HR_c := Aside.mk (HR_c.out.ext he); replace HR_s := Aside.mk (HR_s.out.ext he); replace HR_t := Aside.mk (HR_t.out.ext he)
          clear he hkd' he1 he2 he3 hk9
          go_wp2_with (first | (go_at_call 56; with_reducible refine (Less2_calls HR_s.out HR_t.out HM_u.out).mono ?_; rintro e w116 ⟨rfl, he0⟩; have he := he0.alloc (.cells #[.int .i64 0, .bool false] 55); clear hB_s hB_t HR_s HR_t; replace HX := Aside.mk (HX.out.trans he); replace hB_a := Four.ext he hB_a; replace hB_b := Four.ext he hB_b; replace hB_c := Four.ext he hB_c; replace hB_x := Two.ext he hB_x; replace HR_a := Aside.mk (HR_a.out.ext he); replace HR_b := Aside.mk (HR_b.out.ext he); replace HR_c := Aside.mk (HR_c.out.ext he); have hB_u := two_new w116 (.int .i64 0) (.bool false) 55; clear he0 he) | (go_at_call 23; with_reducible refine (alive_calls (HG.out.ext (HE1.out.trans HX.out))).mono ?_; rintro e w99 ⟨rfl, he⟩; have HEND := Aside.mk ((HE1.out.trans HX.out).trans he); clear he) | (go_at_call 39; with_reducible refine (good2 (Mul2_calls HR_a.out HR_c.out rfl) HM_p.out).mono ?_; rintro e w117 ⟨r, rfl, hr, he0⟩; obtain ⟨A_p, c_p, B_p, d_p, rfl⟩ := hr.form; have he := he0.alloc (.cells #[.int .i64 q_p.f, .bool q_p.neg, .slice A_p q_p.num.length c_p, .slice B_p q_p.den.length d_p] 26); replace HX := Aside.mk (HX.out.trans he); replace hB_a := Four.ext he hB_a; replace hB_b := Four.ext he hB_b; replace hB_c := Four.ext he hB_c; replace hB_x := Two.ext he hB_x; replace HR_a := Aside.mk (HR_a.out.ext he); replace HR_b := Aside.mk (HR_b.out.ext he); replace HR_c := Aside.mk (HR_c.out.ext he); have HR_p := Aside.mk (hr.rr.ext ((Ext.refl w117).alloc (.cells #[.int .i64 q_p.f, .bool q_p.neg, .slice A_p q_p.num.length c_p, .slice B_p q_p.den.length d_p] 26))); have hB_p := four_new w117 (.int .i64 q_p.f) (.bool q_p.neg) (.slice A_p q_p.num.length c_p) (.slice B_p q_p.den.length d_p) 26; clear hr he0 he) | (go_at_call 39; with_reducible refine (good2 (Mul2_calls HR_b.out HR_c.out rfl) HM_q.out).mono ?_; rintro e w118 ⟨r, rfl, hr, he0⟩; obtain ⟨A_q, c_q, B_q, d_q, rfl⟩ := hr.form; have he := he0.alloc (.cells #[.int .i64 q_q.f, .bool q_q.neg, .slice A_q q_q.num.length c_q, .slice B_q q_q.den.length d_q] 26); clear hB_a hB_b hB_c HR_a HR_b HR_c; replace HX := Aside.mk (HX.out.trans he); replace hB_x := Two.ext he hB_x; replace hB_p := Four.ext he hB_p; replace HR_p := Aside.mk (HR_p.out.ext he); have HR_q := Aside.mk (hr.rr.ext ((Ext.refl w118).alloc (.cells #[.int .i64 q_q.f, .bool q_q.neg, .slice A_q q_q.num.length c_q, .slice B_q q_q.den.length d_q] 26))); have hB_q := four_new w118 (.int .i64 q_q.f) (.bool q_q.neg) (.slice A_q q_q.num.length c_q) (.slice B_q q_q.den.length d_q) 26; clear hr he0 he) | (go_at_call 44; with_reducible refine (good_true HR_p.out HK_p.out).mono ?_; rintro e w119 ⟨rfl, he⟩; replace HX := Aside.mk (HX.out.trans he); replace hB_x := Two.ext he hB_x; replace hB_p := Four.ext he hB_p; replace hB_q := Four.ext he hB_q; replace HR_p := Aside.mk (HR_p.out.ext he); replace HR_q := Aside.mk (HR_q.out.ext he); clear he) | (go_at_call 44; with_reducible refine (good_true HR_q.out HK_q.out).mono ?_; rintro e w120 ⟨rfl, he⟩; replace HX := Aside.mk (HX.out.trans he); replace hB_x := Two.ext he hB_x; replace hB_p := Four.ext he hB_p; replace hB_q := Four.ext he hB_q; replace HR_p := Aside.mk (HR_p.out.ext he); replace HR_q := Aside.mk (HR_q.out.ext he); clear he) | (go_at_call 56; with_reducible refine (Less2_calls HR_p.out HR_q.out HM_v.out).mono ?_; rintro e w121 ⟨rfl, he0⟩; have he := he0.alloc (.cells #[.int .i64 0, .bool false] 55); clear hB_p hB_q HR_p HR_q; replace HX := Aside.mk (HX.out.trans he); replace hB_x := Two.ext he hB_x; have hB_v := two_new w121 (.int .i64 0) (.bool false) 55; clear he0 he))
          go_ret
          exact ⟨rfl, HEND.out⟩
        · have hl0 : ((q_c.num.length : Int) == 0) = false := beq_eq_false_iff_ne.2 (by omega)
          obtain ⟨NP, NQ, hpq⟩ := order_mul NA NB NC (ord_pos NC hneg (by omega))
          obtain ⟨q_p, hp⟩ : ∃ q, mulr q_a q_c = q := ⟨_, rfl⟩
          obtain ⟨q_q, hq⟩ : ∃ q, mulr q_b q_c = q := ⟨_, rfl⟩
          rw [hp] at NP hpq
          rw [hq] at NQ hpq
          have HM_p : Aside (madeq q_a q_c (ratio (q_a.neg != q_c.neg) (val q_a.num * val q_c.num) (val q_a.den * val q_c.den)) = (q_p, 0)) := ⟨by rw [← hp]; exact made_num NA NC⟩
          have HM_q : Aside (madeq q_b q_c (ratio (q_b.neg != q_c.neg) (val q_b.num * val q_c.num) (val q_b.den * val q_c.den)) = (q_q, 0)) := ⟨by rw [← hq]; exact made_num NB NC⟩
          have HK_p := Aside.mk NP.ok
          have HK_q := Aside.mk NQ.ok
          have hlv := NP.lt NQ
          rw [hpq, decide_eq_false h1] at hlv
          have HM_v : Aside (askq q_p q_q (lessq q_p.neg (val q_p.num * val q_q.den) q_q.neg (val q_q.num * val q_p.den)) = ((0, false), 0)) := ⟨by rw [hlv]; exact askq_num NP NQ⟩
          clear NA NB NC NS NT NP NQ hst hpq hlv hp hq hlc h1
          simp only [hneg] at hB_c HR_c
          refine ⟨?_⟩
          simp only [Act.put, List.setIfInBounds_toArray, List.set_cons_zero, List.set_cons_succ]
          go_wp2_with (first | (go_at_call 56; with_reducible refine (Less2_calls HR_a.out HR_b.out HM_x.out).mono ?_; rintro e w101 ⟨rfl, he0⟩; have he := he0.alloc (.cells #[.int .i64 0, .bool false] 55); replace HX := Aside.mk (HX.out.trans he); replace hB_a := Four.ext he hB_a; replace hB_b := Four.ext he hB_b; replace hB_c := Four.ext he hB_c; replace HR_a := Aside.mk (HR_a.out.ext he); replace HR_b := Aside.mk (HR_b.out.ext he); replace HR_c := Aside.mk (HR_c.out.ext he); have hB_x := two_new w101 (.int .i64 0) (.bool false) 55; clear he0 he) | (go_at_call 56; with_reducible refine (Less2_calls HR_b.out HR_a.out HM_y.out).mono ?_; rintro e w102 ⟨rfl, he0⟩; have he := he0.alloc (.cells #[.int .i64 0, .bool true] 55); replace HX := Aside.mk (HX.out.trans he); replace hB_a := Four.ext he hB_a; replace hB_b := Four.ext he hB_b; replace hB_c := Four.ext he hB_c; replace hB_x := Two.ext he hB_x; replace HR_a := Aside.mk (HR_a.out.ext he); replace HR_b := Aside.mk (HR_b.out.ext he); replace HR_c := Aside.mk (HR_c.out.ext he); have hB_y := two_new w102 (.int .i64 0) (.bool true) 55; clear he0 he) | (go_at_call 57; with_reducible refine (Same2_calls HR_a.out HR_b.out HM_z.out).mono ?_; rintro e w103 ⟨rfl, he0⟩; have he := he0.alloc (.cells #[.int .i64 0, .bool false] 55); replace HX := Aside.mk (HX.out.trans he); replace hB_a := Four.ext he hB_a; replace hB_b := Four.ext he hB_b; replace hB_c := Four.ext he hB_c; replace hB_x := Two.ext he hB_x; replace hB_y := Two.ext he hB_y; replace HR_a := Aside.mk (HR_a.out.ext he); replace HR_b := Aside.mk (HR_b.out.ext he); replace HR_c := Aside.mk (HR_c.out.ext he); have hB_z := two_new w103 (.int .i64 0) (.bool false) 55; clear he0 he))
          have he := (Ext.refl (w103.alloc (.cells #[.int .i64 0, .bool false] 55))).alloc (.cells #[.int .i64 0, .bool false, .int .i64 0, .bool true, .int .i64 0, .bool false] 55); replace HX := Aside.mk (HX.out.trans he); replace hB_a := Four.ext he hB_a; replace hB_b := Four.ext he hB_b; replace hB_c := Four.ext he hB_c; replace hB_x := Two.ext he hB_x; replace hB_z := Two.ext he hB_z; replace HR_a := Aside.mk (HR_a.out.ext he); replace HR_b := Aside.mk (HR_b.out.ext he); replace HR_c := Aside.mk (HR_c.out.ext he); clear he hB_y
          go_loop [16, 18] (fun m i => (i = .int .i64 0 ∧ m = .int .i64 0) ∨ (i = .int .i64 1 ∧ m = .int .i64 (if false then 1 else 0)) ∨ (i = .int .i64 2 ∧ m = .int .i64 (if false || true then 1 else 0)) ∨ (i = .int .i64 3 ∧ m = .int .i64 1)) (fun _ i => (3 - intOf i).toNat)
          case atStart => exact .inl ⟨rfl, rfl⟩
          case round =>
          rcases hrel with ⟨rfl, rfl⟩ | ⟨rfl, rfl⟩ | ⟨rfl, rfl⟩ | ⟨rfl, rfl⟩
          · go_wp2
            go_round
            case rel => exact .inr (.inl ⟨rfl, rfl⟩)
            case measure => simp [intOf]
          · go_wp2
            go_round
            case rel => exact .inr (.inr (.inl ⟨rfl, rfl⟩))
            case measure => simp [intOf]
          · go_wp2
            go_round
            case rel => exact .inr (.inr (.inr ⟨rfl, rfl⟩))
            case measure => simp [intOf]
          go_wp2_with (first | (go_at_call 35; with_reducible refine (good2 (Add2_calls HR_a.out HR_c.out rfl) HM_s.out).mono ?_; rintro e w104 ⟨r, rfl, hr, he0⟩; obtain ⟨A_s, c_s, B_s, d_s, rfl⟩ := hr.form; have he := he0.alloc (.cells #[.int .i64 q_s.f, .bool q_s.neg, .slice A_s q_s.num.length c_s, .slice B_s q_s.den.length d_s] 26); replace HX := Aside.mk (HX.out.trans he); replace hB_a := Four.ext he hB_a; replace hB_b := Four.ext he hB_b; replace hB_c := Four.ext he hB_c; replace hB_x := Two.ext he hB_x; replace hB_z := Two.ext he hB_z; replace HR_a := Aside.mk (HR_a.out.ext he); replace HR_b := Aside.mk (HR_b.out.ext he); replace HR_c := Aside.mk (HR_c.out.ext he); have HR_s := Aside.mk (hr.rr.ext ((Ext.refl w104).alloc (.cells #[.int .i64 q_s.f, .bool q_s.neg, .slice A_s q_s.num.length c_s, .slice B_s q_s.den.length d_s] 26))); have hB_s := four_new w104 (.int .i64 q_s.f) (.bool q_s.neg) (.slice A_s q_s.num.length c_s) (.slice B_s q_s.den.length d_s) 26; clear hr he0 he) | (go_at_call 35; with_reducible refine (good2 (Add2_calls HR_b.out HR_c.out rfl) HM_t.out).mono ?_; rintro e w105 ⟨r, rfl, hr, he0⟩; obtain ⟨A_t, c_t, B_t, d_t, rfl⟩ := hr.form; have he := he0.alloc (.cells #[.int .i64 q_t.f, .bool q_t.neg, .slice A_t q_t.num.length c_t, .slice B_t q_t.den.length d_t] 26); replace HX := Aside.mk (HX.out.trans he); replace hB_a := Four.ext he hB_a; replace hB_b := Four.ext he hB_b; replace hB_c := Four.ext he hB_c; replace hB_x := Two.ext he hB_x; replace hB_z := Two.ext he hB_z; replace hB_s := Four.ext he hB_s; replace HR_a := Aside.mk (HR_a.out.ext he); replace HR_b := Aside.mk (HR_b.out.ext he); replace HR_c := Aside.mk (HR_c.out.ext he); replace HR_s := Aside.mk (HR_s.out.ext he); have HR_t := Aside.mk (hr.rr.ext ((Ext.refl w105).alloc (.cells #[.int .i64 q_t.f, .bool q_t.neg, .slice A_t q_t.num.length c_t, .slice B_t q_t.den.length d_t] 26))); have hB_t := four_new w105 (.int .i64 q_t.f) (.bool q_t.neg) (.slice A_t q_t.num.length c_t) (.slice B_t q_t.den.length d_t) 26; clear hr he0 he))
          generalize hW : w105.alloc _ = W0 at *
          have hkd : KO W0 p0 p1 w103.heap.size w104.heap.size w105.heap.size (.int .i64 q_a.f) (.bool q_a.neg) (.slice A_a q_a.num.length c_a) (.slice B_a q_a.den.length d_a) (.int .i64 q_b.f) (.bool q_b.neg) (.slice A_b q_b.num.length c_b) (.slice B_b q_b.den.length d_b) (.int .i64 0) (.bool false) (.int .i64 q_s.f) (.bool q_s.neg) (.slice A_s q_s.num.length c_s) (.slice B_s q_s.den.length d_s) (.int .i64 q_t.f) (.bool q_t.neg) (.slice A_t q_t.num.length c_t) (.slice B_t q_t.den.length d_t) W0 := ⟨⟨Ext.refl _⟩, hB_a, hB_b, hB_z, hB_s, hB_t⟩
          have hkd' := KO.ext (Ext.refl _).drew hkd
          clear hkd hW
          go_region_held (fun w' => KO W0 p0 p1 w103.heap.size w104.heap.size w105.heap.size (.int .i64 q_a.f) (.bool q_a.neg) (.slice A_a q_a.num.length c_a) (.slice B_a q_a.den.length d_a) (.int .i64 q_b.f) (.bool q_b.neg) (.slice A_b q_b.num.length c_b) (.slice B_b q_b.den.length d_b) (.int .i64 0) (.bool false) (.int .i64 q_s.f) (.bool q_s.neg) (.slice A_s q_s.num.length c_s) (.slice B_s q_s.den.length d_s) (.int .i64 q_t.f) (.bool q_t.neg) (.slice A_t q_t.num.length c_t) (.slice B_t q_t.den.length d_t) w') (first | assumption | exact KO.ext (by assumption) (by assumption)) (first | (go_at_call 33; with_reducible refine (requal_calls (HR_a.out.ext (Aside.out (And.left (show KO W0 p0 p1 w103.heap.size w104.heap.size w105.heap.size (.int .i64 q_a.f) (.bool q_a.neg) (.slice A_a q_a.num.length c_a) (.slice B_a q_a.den.length d_a) (.int .i64 q_b.f) (.bool q_b.neg) (.slice A_b q_b.num.length c_b) (.slice B_b q_b.den.length d_b) (.int .i64 0) (.bool false) (.int .i64 q_s.f) (.bool q_s.neg) (.slice A_s q_s.num.length c_s) (.slice B_s q_s.den.length d_s) (.int .i64 q_t.f) (.bool q_t.neg) (.slice A_t q_t.num.length c_t) (.slice B_t q_t.den.length d_t) _ from by assumption)))) (HR_b.out.ext (Aside.out (And.left (show KO W0 p0 p1 w103.heap.size w104.heap.size w105.heap.size (.int .i64 q_a.f) (.bool q_a.neg) (.slice A_a q_a.num.length c_a) (.slice B_a q_a.den.length d_a) (.int .i64 q_b.f) (.bool q_b.neg) (.slice A_b q_b.num.length c_b) (.slice B_b q_b.den.length d_b) (.int .i64 0) (.bool false) (.int .i64 q_s.f) (.bool q_s.neg) (.slice A_s q_s.num.length c_s) (.slice B_s q_s.den.length d_s) (.int .i64 q_t.f) (.bool q_t.neg) (.slice A_t q_t.num.length c_t) (.slice B_t q_t.den.length d_t) _ from by assumption)))) HZE.out).mono ?_; rintro e w201 ⟨rfl, he1⟩) | (go_at_call 44; with_reducible refine (good_true (HR_s.out.ext (Aside.out (And.left (show KO W0 p0 p1 w103.heap.size w104.heap.size w105.heap.size (.int .i64 q_a.f) (.bool q_a.neg) (.slice A_a q_a.num.length c_a) (.slice B_a q_a.den.length d_a) (.int .i64 q_b.f) (.bool q_b.neg) (.slice A_b q_b.num.length c_b) (.slice B_b q_b.den.length d_b) (.int .i64 0) (.bool false) (.int .i64 q_s.f) (.bool q_s.neg) (.slice A_s q_s.num.length c_s) (.slice B_s q_s.den.length d_s) (.int .i64 q_t.f) (.bool q_t.neg) (.slice A_t q_t.num.length c_t) (.slice B_t q_t.den.length d_t) _ from by assumption)))) HK_s.out).mono ?_; rintro e w202 ⟨rfl, he2⟩) | (go_at_call 44; with_reducible refine (good_true (HR_t.out.ext (Aside.out (And.left (show KO W0 p0 p1 w103.heap.size w104.heap.size w105.heap.size (.int .i64 q_a.f) (.bool q_a.neg) (.slice A_a q_a.num.length c_a) (.slice B_a q_a.den.length d_a) (.int .i64 q_b.f) (.bool q_b.neg) (.slice A_b q_b.num.length c_b) (.slice B_b q_b.den.length d_b) (.int .i64 0) (.bool false) (.int .i64 q_s.f) (.bool q_s.neg) (.slice A_s q_s.num.length c_s) (.slice B_s q_s.den.length d_s) (.int .i64 q_t.f) (.bool q_t.neg) (.slice A_t q_t.num.length c_t) (.slice B_t q_t.den.length d_t) _ from by assumption)))) HK_t.out).mono ?_; rintro e w203 ⟨rfl, he3⟩))
          have hk9 := KO.ext he3 (KO.ext he2 (KO.ext he1 hkd'))
          have he := hk9.1.out
          clear hB_z; replace HX := Aside.mk (HX.out.trans he); replace hB_a := Four.ext he hB_a; replace hB_b := Four.ext he hB_b; replace hB_c := Four.ext he hB_c; replace hB_x := Two.ext he hB_x; replace hB_s := Four.ext he hB_s; replace hB_t := Four.ext he hB_t; replace HR_a := Aside.mk (HR_a.out.ext he); replace HR_b := Aside.mk (HR_b.out.ext he); replace HR_c := Aside.mk (HR_c.out.ext he); replace HR_s := Aside.mk (HR_s.out.ext he); replace HR_t := Aside.mk (HR_t.out.ext he)
          clear he hkd' he1 he2 he3 hk9
          go_wp2_with (first | (go_at_call 56; with_reducible refine (Less2_calls HR_s.out HR_t.out HM_u.out).mono ?_; rintro e w116 ⟨rfl, he0⟩; have he := he0.alloc (.cells #[.int .i64 0, .bool false] 55); clear hB_s hB_t HR_s HR_t; replace HX := Aside.mk (HX.out.trans he); replace hB_a := Four.ext he hB_a; replace hB_b := Four.ext he hB_b; replace hB_c := Four.ext he hB_c; replace hB_x := Two.ext he hB_x; replace HR_a := Aside.mk (HR_a.out.ext he); replace HR_b := Aside.mk (HR_b.out.ext he); replace HR_c := Aside.mk (HR_c.out.ext he); have hB_u := two_new w116 (.int .i64 0) (.bool false) 55; clear he0 he) | (go_at_call 23; with_reducible refine (alive_calls (HG.out.ext (HE1.out.trans HX.out))).mono ?_; rintro e w99 ⟨rfl, he⟩; have HEND := Aside.mk ((HE1.out.trans HX.out).trans he); clear he) | (go_at_call 39; with_reducible refine (good2 (Mul2_calls HR_a.out HR_c.out rfl) HM_p.out).mono ?_; rintro e w117 ⟨r, rfl, hr, he0⟩; obtain ⟨A_p, c_p, B_p, d_p, rfl⟩ := hr.form; have he := he0.alloc (.cells #[.int .i64 q_p.f, .bool q_p.neg, .slice A_p q_p.num.length c_p, .slice B_p q_p.den.length d_p] 26); replace HX := Aside.mk (HX.out.trans he); replace hB_a := Four.ext he hB_a; replace hB_b := Four.ext he hB_b; replace hB_c := Four.ext he hB_c; replace hB_x := Two.ext he hB_x; replace HR_a := Aside.mk (HR_a.out.ext he); replace HR_b := Aside.mk (HR_b.out.ext he); replace HR_c := Aside.mk (HR_c.out.ext he); have HR_p := Aside.mk (hr.rr.ext ((Ext.refl w117).alloc (.cells #[.int .i64 q_p.f, .bool q_p.neg, .slice A_p q_p.num.length c_p, .slice B_p q_p.den.length d_p] 26))); have hB_p := four_new w117 (.int .i64 q_p.f) (.bool q_p.neg) (.slice A_p q_p.num.length c_p) (.slice B_p q_p.den.length d_p) 26; clear hr he0 he) | (go_at_call 39; with_reducible refine (good2 (Mul2_calls HR_b.out HR_c.out rfl) HM_q.out).mono ?_; rintro e w118 ⟨r, rfl, hr, he0⟩; obtain ⟨A_q, c_q, B_q, d_q, rfl⟩ := hr.form; have he := he0.alloc (.cells #[.int .i64 q_q.f, .bool q_q.neg, .slice A_q q_q.num.length c_q, .slice B_q q_q.den.length d_q] 26); clear hB_a hB_b hB_c HR_a HR_b HR_c; replace HX := Aside.mk (HX.out.trans he); replace hB_x := Two.ext he hB_x; replace hB_p := Four.ext he hB_p; replace HR_p := Aside.mk (HR_p.out.ext he); have HR_q := Aside.mk (hr.rr.ext ((Ext.refl w118).alloc (.cells #[.int .i64 q_q.f, .bool q_q.neg, .slice A_q q_q.num.length c_q, .slice B_q q_q.den.length d_q] 26))); have hB_q := four_new w118 (.int .i64 q_q.f) (.bool q_q.neg) (.slice A_q q_q.num.length c_q) (.slice B_q q_q.den.length d_q) 26; clear hr he0 he) | (go_at_call 44; with_reducible refine (good_true HR_p.out HK_p.out).mono ?_; rintro e w119 ⟨rfl, he⟩; replace HX := Aside.mk (HX.out.trans he); replace hB_x := Two.ext he hB_x; replace hB_p := Four.ext he hB_p; replace hB_q := Four.ext he hB_q; replace HR_p := Aside.mk (HR_p.out.ext he); replace HR_q := Aside.mk (HR_q.out.ext he); clear he) | (go_at_call 44; with_reducible refine (good_true HR_q.out HK_q.out).mono ?_; rintro e w120 ⟨rfl, he⟩; replace HX := Aside.mk (HX.out.trans he); replace hB_x := Two.ext he hB_x; replace hB_p := Four.ext he hB_p; replace hB_q := Four.ext he hB_q; replace HR_p := Aside.mk (HR_p.out.ext he); replace HR_q := Aside.mk (HR_q.out.ext he); clear he) | (go_at_call 56; with_reducible refine (Less2_calls HR_p.out HR_q.out HM_v.out).mono ?_; rintro e w121 ⟨rfl, he0⟩; have he := he0.alloc (.cells #[.int .i64 0, .bool false] 55); clear hB_p hB_q HR_p HR_q; replace HX := Aside.mk (HX.out.trans he); replace hB_x := Two.ext he hB_x; have hB_v := two_new w121 (.int .i64 0) (.bool false) 55; clear he0 he))
          go_ret
          exact ⟨rfl, HEND.out⟩
      · clear NA NB NC NS NT hst h1
        simp only [hneg] at hB_c HR_c
        refine ⟨?_⟩
        simp only [Act.put, List.setIfInBounds_toArray, List.set_cons_zero, List.set_cons_succ]
        go_wp2_with (first | (go_at_call 56; with_reducible refine (Less2_calls HR_a.out HR_b.out HM_x.out).mono ?_; rintro e w101 ⟨rfl, he0⟩; have he := he0.alloc (.cells #[.int .i64 0, .bool false] 55); replace HX := Aside.mk (HX.out.trans he); replace hB_a := Four.ext he hB_a; replace hB_b := Four.ext he hB_b; replace hB_c := Four.ext he hB_c; replace HR_a := Aside.mk (HR_a.out.ext he); replace HR_b := Aside.mk (HR_b.out.ext he); replace HR_c := Aside.mk (HR_c.out.ext he); have hB_x := two_new w101 (.int .i64 0) (.bool false) 55; clear he0 he) | (go_at_call 56; with_reducible refine (Less2_calls HR_b.out HR_a.out HM_y.out).mono ?_; rintro e w102 ⟨rfl, he0⟩; have he := he0.alloc (.cells #[.int .i64 0, .bool true] 55); replace HX := Aside.mk (HX.out.trans he); replace hB_a := Four.ext he hB_a; replace hB_b := Four.ext he hB_b; replace hB_c := Four.ext he hB_c; replace hB_x := Two.ext he hB_x; replace HR_a := Aside.mk (HR_a.out.ext he); replace HR_b := Aside.mk (HR_b.out.ext he); replace HR_c := Aside.mk (HR_c.out.ext he); have hB_y := two_new w102 (.int .i64 0) (.bool true) 55; clear he0 he) | (go_at_call 57; with_reducible refine (Same2_calls HR_a.out HR_b.out HM_z.out).mono ?_; rintro e w103 ⟨rfl, he0⟩; have he := he0.alloc (.cells #[.int .i64 0, .bool false] 55); replace HX := Aside.mk (HX.out.trans he); replace hB_a := Four.ext he hB_a; replace hB_b := Four.ext he hB_b; replace hB_c := Four.ext he hB_c; replace hB_x := Two.ext he hB_x; replace hB_y := Two.ext he hB_y; replace HR_a := Aside.mk (HR_a.out.ext he); replace HR_b := Aside.mk (HR_b.out.ext he); replace HR_c := Aside.mk (HR_c.out.ext he); have hB_z := two_new w103 (.int .i64 0) (.bool false) 55; clear he0 he))
        have he := (Ext.refl (w103.alloc (.cells #[.int .i64 0, .bool false] 55))).alloc (.cells #[.int .i64 0, .bool false, .int .i64 0, .bool true, .int .i64 0, .bool false] 55); replace HX := Aside.mk (HX.out.trans he); replace hB_a := Four.ext he hB_a; replace hB_b := Four.ext he hB_b; replace hB_c := Four.ext he hB_c; replace hB_x := Two.ext he hB_x; replace hB_z := Two.ext he hB_z; replace HR_a := Aside.mk (HR_a.out.ext he); replace HR_b := Aside.mk (HR_b.out.ext he); replace HR_c := Aside.mk (HR_c.out.ext he); clear he hB_y
        go_loop [16, 18] (fun m i => (i = .int .i64 0 ∧ m = .int .i64 0) ∨ (i = .int .i64 1 ∧ m = .int .i64 (if false then 1 else 0)) ∨ (i = .int .i64 2 ∧ m = .int .i64 (if false || true then 1 else 0)) ∨ (i = .int .i64 3 ∧ m = .int .i64 1)) (fun _ i => (3 - intOf i).toNat)
        case atStart => exact .inl ⟨rfl, rfl⟩
        case round =>
        rcases hrel with ⟨rfl, rfl⟩ | ⟨rfl, rfl⟩ | ⟨rfl, rfl⟩ | ⟨rfl, rfl⟩
        · go_wp2
          go_round
          case rel => exact .inr (.inl ⟨rfl, rfl⟩)
          case measure => simp [intOf]
        · go_wp2
          go_round
          case rel => exact .inr (.inr (.inl ⟨rfl, rfl⟩))
          case measure => simp [intOf]
        · go_wp2
          go_round
          case rel => exact .inr (.inr (.inr ⟨rfl, rfl⟩))
          case measure => simp [intOf]
        go_wp2_with (first | (go_at_call 35; with_reducible refine (good2 (Add2_calls HR_a.out HR_c.out rfl) HM_s.out).mono ?_; rintro e w104 ⟨r, rfl, hr, he0⟩; obtain ⟨A_s, c_s, B_s, d_s, rfl⟩ := hr.form; have he := he0.alloc (.cells #[.int .i64 q_s.f, .bool q_s.neg, .slice A_s q_s.num.length c_s, .slice B_s q_s.den.length d_s] 26); replace HX := Aside.mk (HX.out.trans he); replace hB_a := Four.ext he hB_a; replace hB_b := Four.ext he hB_b; replace hB_c := Four.ext he hB_c; replace hB_x := Two.ext he hB_x; replace hB_z := Two.ext he hB_z; replace HR_a := Aside.mk (HR_a.out.ext he); replace HR_b := Aside.mk (HR_b.out.ext he); replace HR_c := Aside.mk (HR_c.out.ext he); have HR_s := Aside.mk (hr.rr.ext ((Ext.refl w104).alloc (.cells #[.int .i64 q_s.f, .bool q_s.neg, .slice A_s q_s.num.length c_s, .slice B_s q_s.den.length d_s] 26))); have hB_s := four_new w104 (.int .i64 q_s.f) (.bool q_s.neg) (.slice A_s q_s.num.length c_s) (.slice B_s q_s.den.length d_s) 26; clear hr he0 he) | (go_at_call 35; with_reducible refine (good2 (Add2_calls HR_b.out HR_c.out rfl) HM_t.out).mono ?_; rintro e w105 ⟨r, rfl, hr, he0⟩; obtain ⟨A_t, c_t, B_t, d_t, rfl⟩ := hr.form; have he := he0.alloc (.cells #[.int .i64 q_t.f, .bool q_t.neg, .slice A_t q_t.num.length c_t, .slice B_t q_t.den.length d_t] 26); replace HX := Aside.mk (HX.out.trans he); replace hB_a := Four.ext he hB_a; replace hB_b := Four.ext he hB_b; replace hB_c := Four.ext he hB_c; replace hB_x := Two.ext he hB_x; replace hB_z := Two.ext he hB_z; replace hB_s := Four.ext he hB_s; replace HR_a := Aside.mk (HR_a.out.ext he); replace HR_b := Aside.mk (HR_b.out.ext he); replace HR_c := Aside.mk (HR_c.out.ext he); replace HR_s := Aside.mk (HR_s.out.ext he); have HR_t := Aside.mk (hr.rr.ext ((Ext.refl w105).alloc (.cells #[.int .i64 q_t.f, .bool q_t.neg, .slice A_t q_t.num.length c_t, .slice B_t q_t.den.length d_t] 26))); have hB_t := four_new w105 (.int .i64 q_t.f) (.bool q_t.neg) (.slice A_t q_t.num.length c_t) (.slice B_t q_t.den.length d_t) 26; clear hr he0 he))
        generalize hW : w105.alloc _ = W0 at *
        have hkd : KO W0 p0 p1 w103.heap.size w104.heap.size w105.heap.size (.int .i64 q_a.f) (.bool q_a.neg) (.slice A_a q_a.num.length c_a) (.slice B_a q_a.den.length d_a) (.int .i64 q_b.f) (.bool q_b.neg) (.slice A_b q_b.num.length c_b) (.slice B_b q_b.den.length d_b) (.int .i64 0) (.bool false) (.int .i64 q_s.f) (.bool q_s.neg) (.slice A_s q_s.num.length c_s) (.slice B_s q_s.den.length d_s) (.int .i64 q_t.f) (.bool q_t.neg) (.slice A_t q_t.num.length c_t) (.slice B_t q_t.den.length d_t) W0 := ⟨⟨Ext.refl _⟩, hB_a, hB_b, hB_z, hB_s, hB_t⟩
        have hkd' := KO.ext (Ext.refl _).drew hkd
        clear hkd hW
        go_region_held (fun w' => KO W0 p0 p1 w103.heap.size w104.heap.size w105.heap.size (.int .i64 q_a.f) (.bool q_a.neg) (.slice A_a q_a.num.length c_a) (.slice B_a q_a.den.length d_a) (.int .i64 q_b.f) (.bool q_b.neg) (.slice A_b q_b.num.length c_b) (.slice B_b q_b.den.length d_b) (.int .i64 0) (.bool false) (.int .i64 q_s.f) (.bool q_s.neg) (.slice A_s q_s.num.length c_s) (.slice B_s q_s.den.length d_s) (.int .i64 q_t.f) (.bool q_t.neg) (.slice A_t q_t.num.length c_t) (.slice B_t q_t.den.length d_t) w') (first | assumption | exact KO.ext (by assumption) (by assumption)) (first | (go_at_call 33; with_reducible refine (requal_calls (HR_a.out.ext (Aside.out (And.left (show KO W0 p0 p1 w103.heap.size w104.heap.size w105.heap.size (.int .i64 q_a.f) (.bool q_a.neg) (.slice A_a q_a.num.length c_a) (.slice B_a q_a.den.length d_a) (.int .i64 q_b.f) (.bool q_b.neg) (.slice A_b q_b.num.length c_b) (.slice B_b q_b.den.length d_b) (.int .i64 0) (.bool false) (.int .i64 q_s.f) (.bool q_s.neg) (.slice A_s q_s.num.length c_s) (.slice B_s q_s.den.length d_s) (.int .i64 q_t.f) (.bool q_t.neg) (.slice A_t q_t.num.length c_t) (.slice B_t q_t.den.length d_t) _ from by assumption)))) (HR_b.out.ext (Aside.out (And.left (show KO W0 p0 p1 w103.heap.size w104.heap.size w105.heap.size (.int .i64 q_a.f) (.bool q_a.neg) (.slice A_a q_a.num.length c_a) (.slice B_a q_a.den.length d_a) (.int .i64 q_b.f) (.bool q_b.neg) (.slice A_b q_b.num.length c_b) (.slice B_b q_b.den.length d_b) (.int .i64 0) (.bool false) (.int .i64 q_s.f) (.bool q_s.neg) (.slice A_s q_s.num.length c_s) (.slice B_s q_s.den.length d_s) (.int .i64 q_t.f) (.bool q_t.neg) (.slice A_t q_t.num.length c_t) (.slice B_t q_t.den.length d_t) _ from by assumption)))) HZE.out).mono ?_; rintro e w201 ⟨rfl, he1⟩) | (go_at_call 44; with_reducible refine (good_true (HR_s.out.ext (Aside.out (And.left (show KO W0 p0 p1 w103.heap.size w104.heap.size w105.heap.size (.int .i64 q_a.f) (.bool q_a.neg) (.slice A_a q_a.num.length c_a) (.slice B_a q_a.den.length d_a) (.int .i64 q_b.f) (.bool q_b.neg) (.slice A_b q_b.num.length c_b) (.slice B_b q_b.den.length d_b) (.int .i64 0) (.bool false) (.int .i64 q_s.f) (.bool q_s.neg) (.slice A_s q_s.num.length c_s) (.slice B_s q_s.den.length d_s) (.int .i64 q_t.f) (.bool q_t.neg) (.slice A_t q_t.num.length c_t) (.slice B_t q_t.den.length d_t) _ from by assumption)))) HK_s.out).mono ?_; rintro e w202 ⟨rfl, he2⟩) | (go_at_call 44; with_reducible refine (good_true (HR_t.out.ext (Aside.out (And.left (show KO W0 p0 p1 w103.heap.size w104.heap.size w105.heap.size (.int .i64 q_a.f) (.bool q_a.neg) (.slice A_a q_a.num.length c_a) (.slice B_a q_a.den.length d_a) (.int .i64 q_b.f) (.bool q_b.neg) (.slice A_b q_b.num.length c_b) (.slice B_b q_b.den.length d_b) (.int .i64 0) (.bool false) (.int .i64 q_s.f) (.bool q_s.neg) (.slice A_s q_s.num.length c_s) (.slice B_s q_s.den.length d_s) (.int .i64 q_t.f) (.bool q_t.neg) (.slice A_t q_t.num.length c_t) (.slice B_t q_t.den.length d_t) _ from by assumption)))) HK_t.out).mono ?_; rintro e w203 ⟨rfl, he3⟩))
        have hk9 := KO.ext he3 (KO.ext he2 (KO.ext he1 hkd'))
        have he := hk9.1.out
        clear hB_z; replace HX := Aside.mk (HX.out.trans he); replace hB_a := Four.ext he hB_a; replace hB_b := Four.ext he hB_b; replace hB_c := Four.ext he hB_c; replace hB_x := Two.ext he hB_x; replace hB_s := Four.ext he hB_s; replace hB_t := Four.ext he hB_t; replace HR_a := Aside.mk (HR_a.out.ext he); replace HR_b := Aside.mk (HR_b.out.ext he); replace HR_c := Aside.mk (HR_c.out.ext he); replace HR_s := Aside.mk (HR_s.out.ext he); replace HR_t := Aside.mk (HR_t.out.ext he)
        clear he hkd' he1 he2 he3 hk9
        go_wp2_with (first | (go_at_call 56; with_reducible refine (Less2_calls HR_s.out HR_t.out HM_u.out).mono ?_; rintro e w116 ⟨rfl, he0⟩; have he := he0.alloc (.cells #[.int .i64 0, .bool false] 55); clear hB_s hB_t HR_s HR_t; replace HX := Aside.mk (HX.out.trans he); replace hB_a := Four.ext he hB_a; replace hB_b := Four.ext he hB_b; replace hB_c := Four.ext he hB_c; replace hB_x := Two.ext he hB_x; replace HR_a := Aside.mk (HR_a.out.ext he); replace HR_b := Aside.mk (HR_b.out.ext he); replace HR_c := Aside.mk (HR_c.out.ext he); have hB_u := two_new w116 (.int .i64 0) (.bool false) 55; clear he0 he) | (go_at_call 23; with_reducible refine (alive_calls (HG.out.ext (HE1.out.trans HX.out))).mono ?_; rintro e w99 ⟨rfl, he⟩; have HEND := Aside.mk ((HE1.out.trans HX.out).trans he); clear he) | (go_at_call 39; with_reducible refine (good2 (Mul2_calls HR_a.out HR_c.out rfl) HM_p.out).mono ?_; rintro e w117 ⟨r, rfl, hr, he0⟩; obtain ⟨A_p, c_p, B_p, d_p, rfl⟩ := hr.form; have he := he0.alloc (.cells #[.int .i64 q_p.f, .bool q_p.neg, .slice A_p q_p.num.length c_p, .slice B_p q_p.den.length d_p] 26); replace HX := Aside.mk (HX.out.trans he); replace hB_a := Four.ext he hB_a; replace hB_b := Four.ext he hB_b; replace hB_c := Four.ext he hB_c; replace hB_x := Two.ext he hB_x; replace HR_a := Aside.mk (HR_a.out.ext he); replace HR_b := Aside.mk (HR_b.out.ext he); replace HR_c := Aside.mk (HR_c.out.ext he); have HR_p := Aside.mk (hr.rr.ext ((Ext.refl w117).alloc (.cells #[.int .i64 q_p.f, .bool q_p.neg, .slice A_p q_p.num.length c_p, .slice B_p q_p.den.length d_p] 26))); have hB_p := four_new w117 (.int .i64 q_p.f) (.bool q_p.neg) (.slice A_p q_p.num.length c_p) (.slice B_p q_p.den.length d_p) 26; clear hr he0 he) | (go_at_call 39; with_reducible refine (good2 (Mul2_calls HR_b.out HR_c.out rfl) HM_q.out).mono ?_; rintro e w118 ⟨r, rfl, hr, he0⟩; obtain ⟨A_q, c_q, B_q, d_q, rfl⟩ := hr.form; have he := he0.alloc (.cells #[.int .i64 q_q.f, .bool q_q.neg, .slice A_q q_q.num.length c_q, .slice B_q q_q.den.length d_q] 26); clear hB_a hB_b hB_c HR_a HR_b HR_c; replace HX := Aside.mk (HX.out.trans he); replace hB_x := Two.ext he hB_x; replace hB_p := Four.ext he hB_p; replace HR_p := Aside.mk (HR_p.out.ext he); have HR_q := Aside.mk (hr.rr.ext ((Ext.refl w118).alloc (.cells #[.int .i64 q_q.f, .bool q_q.neg, .slice A_q q_q.num.length c_q, .slice B_q q_q.den.length d_q] 26))); have hB_q := four_new w118 (.int .i64 q_q.f) (.bool q_q.neg) (.slice A_q q_q.num.length c_q) (.slice B_q q_q.den.length d_q) 26; clear hr he0 he) | (go_at_call 44; with_reducible refine (good_true HR_p.out HK_p.out).mono ?_; rintro e w119 ⟨rfl, he⟩; replace HX := Aside.mk (HX.out.trans he); replace hB_x := Two.ext he hB_x; replace hB_p := Four.ext he hB_p; replace hB_q := Four.ext he hB_q; replace HR_p := Aside.mk (HR_p.out.ext he); replace HR_q := Aside.mk (HR_q.out.ext he); clear he) | (go_at_call 44; with_reducible refine (good_true HR_q.out HK_q.out).mono ?_; rintro e w120 ⟨rfl, he⟩; replace HX := Aside.mk (HX.out.trans he); replace hB_x := Two.ext he hB_x; replace hB_p := Four.ext he hB_p; replace hB_q := Four.ext he hB_q; replace HR_p := Aside.mk (HR_p.out.ext he); replace HR_q := Aside.mk (HR_q.out.ext he); clear he) | (go_at_call 56; with_reducible refine (Less2_calls HR_p.out HR_q.out HM_v.out).mono ?_; rintro e w121 ⟨rfl, he0⟩; have he := he0.alloc (.cells #[.int .i64 0, .bool false] 55); clear hB_p hB_q HR_p HR_q; replace HX := Aside.mk (HX.out.trans he); replace hB_x := Two.ext he hB_x; have hB_v := two_new w121 (.int .i64 0) (.bool false) 55; clear he0 he))
        go_ret
        exact ⟨rfl, HEND.out⟩
    · rw [decide_eq_false h1] at hla hlu
      rw [decide_eq_false h2] at hlb
      rw [decide_eq_true h3] at hlz
      have HM_x : Aside (askq q_a q_b (lessq q_a.neg (val q_a.num * val q_b.den) q_b.neg (val q_b.num * val q_a.den)) = ((0, false), 0)) := ⟨by rw [hla]; exact askq_num NA NB⟩
      have HM_y : Aside (askq q_b q_a (lessq q_b.neg (val q_b.num * val q_a.den) q_a.neg (val q_a.num * val q_b.den)) = ((0, false), 0)) := ⟨by rw [hlb]; exact askq_num NB NA⟩
      have HM_z : Aside (askq q_a q_b (sameq q_a q_b) = ((0, true), 0)) := ⟨by rw [hlz]; exact askq_num NA NB⟩
      have HM_u : Aside (askq q_s q_t (lessq q_s.neg (val q_s.num * val q_t.den) q_t.neg (val q_t.num * val q_s.den)) = ((0, false), 0)) := ⟨by rw [hlu]; exact askq_num NS NT⟩
      have HZE : Aside ((q_a.f == q_b.f && sameq q_a q_b) = true) := ⟨by rw [hlz, NA.f, NB.f]; rfl⟩
      clear hla hlb hlz hlu h2 h3 hs ht
      cases hneg : q_c.neg
      · by_cases hlc : q_c.num.length = 0
        · have hl0 : ((q_c.num.length : Int) == 0) = true := by rw [hlc]; rfl
          clear NA NB NC NS NT hst hlc h1
          simp only [hneg] at hB_c HR_c
          refine ⟨?_⟩
          simp only [Act.put, List.setIfInBounds_toArray, List.set_cons_zero, List.set_cons_succ]
          go_wp2_with (first | (go_at_call 56; with_reducible refine (Less2_calls HR_a.out HR_b.out HM_x.out).mono ?_; rintro e w101 ⟨rfl, he0⟩; have he := he0.alloc (.cells #[.int .i64 0, .bool false] 55); replace HX := Aside.mk (HX.out.trans he); replace hB_a := Four.ext he hB_a; replace hB_b := Four.ext he hB_b; replace hB_c := Four.ext he hB_c; replace HR_a := Aside.mk (HR_a.out.ext he); replace HR_b := Aside.mk (HR_b.out.ext he); replace HR_c := Aside.mk (HR_c.out.ext he); have hB_x := two_new w101 (.int .i64 0) (.bool false) 55; clear he0 he) | (go_at_call 56; with_reducible refine (Less2_calls HR_b.out HR_a.out HM_y.out).mono ?_; rintro e w102 ⟨rfl, he0⟩; have he := he0.alloc (.cells #[.int .i64 0, .bool false] 55); replace HX := Aside.mk (HX.out.trans he); replace hB_a := Four.ext he hB_a; replace hB_b := Four.ext he hB_b; replace hB_c := Four.ext he hB_c; replace hB_x := Two.ext he hB_x; replace HR_a := Aside.mk (HR_a.out.ext he); replace HR_b := Aside.mk (HR_b.out.ext he); replace HR_c := Aside.mk (HR_c.out.ext he); have hB_y := two_new w102 (.int .i64 0) (.bool false) 55; clear he0 he) | (go_at_call 57; with_reducible refine (Same2_calls HR_a.out HR_b.out HM_z.out).mono ?_; rintro e w103 ⟨rfl, he0⟩; have he := he0.alloc (.cells #[.int .i64 0, .bool true] 55); replace HX := Aside.mk (HX.out.trans he); replace hB_a := Four.ext he hB_a; replace hB_b := Four.ext he hB_b; replace hB_c := Four.ext he hB_c; replace hB_x := Two.ext he hB_x; replace hB_y := Two.ext he hB_y; replace HR_a := Aside.mk (HR_a.out.ext he); replace HR_b := Aside.mk (HR_b.out.ext he); replace HR_c := Aside.mk (HR_c.out.ext he); have hB_z := two_new w103 (.int .i64 0) (.bool true) 55; clear he0 he))
          have he := (Ext.refl (w103.alloc (.cells #[.int .i64 0, .bool true] 55))).alloc (.cells #[.int .i64 0, .bool false, .int .i64 0, .bool false, .int .i64 0, .bool true] 55); replace HX := Aside.mk (HX.out.trans he); replace hB_a := Four.ext he hB_a; replace hB_b := Four.ext he hB_b; replace hB_c := Four.ext he hB_c; replace hB_x := Two.ext he hB_x; replace hB_z := Two.ext he hB_z; replace HR_a := Aside.mk (HR_a.out.ext he); replace HR_b := Aside.mk (HR_b.out.ext he); replace HR_c := Aside.mk (HR_c.out.ext he); clear he hB_y
          go_loop [16, 18] (fun m i => (i = .int .i64 0 ∧ m = .int .i64 0) ∨ (i = .int .i64 1 ∧ m = .int .i64 (if false then 1 else 0)) ∨ (i = .int .i64 2 ∧ m = .int .i64 (if false || false then 1 else 0)) ∨ (i = .int .i64 3 ∧ m = .int .i64 1)) (fun _ i => (3 - intOf i).toNat)
          case atStart => exact .inl ⟨rfl, rfl⟩
          case round =>
          rcases hrel with ⟨rfl, rfl⟩ | ⟨rfl, rfl⟩ | ⟨rfl, rfl⟩ | ⟨rfl, rfl⟩
          · go_wp2
            go_round
            case rel => exact .inr (.inl ⟨rfl, rfl⟩)
            case measure => simp [intOf]
          · go_wp2
            go_round
            case rel => exact .inr (.inr (.inl ⟨rfl, rfl⟩))
            case measure => simp [intOf]
          · go_wp2
            go_round
            case rel => exact .inr (.inr (.inr ⟨rfl, rfl⟩))
            case measure => simp [intOf]
          go_wp2_with (first | (go_at_call 35; with_reducible refine (good2 (Add2_calls HR_a.out HR_c.out rfl) HM_s.out).mono ?_; rintro e w104 ⟨r, rfl, hr, he0⟩; obtain ⟨A_s, c_s, B_s, d_s, rfl⟩ := hr.form; have he := he0.alloc (.cells #[.int .i64 q_s.f, .bool q_s.neg, .slice A_s q_s.num.length c_s, .slice B_s q_s.den.length d_s] 26); replace HX := Aside.mk (HX.out.trans he); replace hB_a := Four.ext he hB_a; replace hB_b := Four.ext he hB_b; replace hB_c := Four.ext he hB_c; replace hB_x := Two.ext he hB_x; replace hB_z := Two.ext he hB_z; replace HR_a := Aside.mk (HR_a.out.ext he); replace HR_b := Aside.mk (HR_b.out.ext he); replace HR_c := Aside.mk (HR_c.out.ext he); have HR_s := Aside.mk (hr.rr.ext ((Ext.refl w104).alloc (.cells #[.int .i64 q_s.f, .bool q_s.neg, .slice A_s q_s.num.length c_s, .slice B_s q_s.den.length d_s] 26))); have hB_s := four_new w104 (.int .i64 q_s.f) (.bool q_s.neg) (.slice A_s q_s.num.length c_s) (.slice B_s q_s.den.length d_s) 26; clear hr he0 he) | (go_at_call 35; with_reducible refine (good2 (Add2_calls HR_b.out HR_c.out rfl) HM_t.out).mono ?_; rintro e w105 ⟨r, rfl, hr, he0⟩; obtain ⟨A_t, c_t, B_t, d_t, rfl⟩ := hr.form; have he := he0.alloc (.cells #[.int .i64 q_t.f, .bool q_t.neg, .slice A_t q_t.num.length c_t, .slice B_t q_t.den.length d_t] 26); replace HX := Aside.mk (HX.out.trans he); replace hB_a := Four.ext he hB_a; replace hB_b := Four.ext he hB_b; replace hB_c := Four.ext he hB_c; replace hB_x := Two.ext he hB_x; replace hB_z := Two.ext he hB_z; replace hB_s := Four.ext he hB_s; replace HR_a := Aside.mk (HR_a.out.ext he); replace HR_b := Aside.mk (HR_b.out.ext he); replace HR_c := Aside.mk (HR_c.out.ext he); replace HR_s := Aside.mk (HR_s.out.ext he); have HR_t := Aside.mk (hr.rr.ext ((Ext.refl w105).alloc (.cells #[.int .i64 q_t.f, .bool q_t.neg, .slice A_t q_t.num.length c_t, .slice B_t q_t.den.length d_t] 26))); have hB_t := four_new w105 (.int .i64 q_t.f) (.bool q_t.neg) (.slice A_t q_t.num.length c_t) (.slice B_t q_t.den.length d_t) 26; clear hr he0 he))
          generalize hW : w105.alloc _ = W0 at *
          have hkd : KO W0 p0 p1 w103.heap.size w104.heap.size w105.heap.size (.int .i64 q_a.f) (.bool q_a.neg) (.slice A_a q_a.num.length c_a) (.slice B_a q_a.den.length d_a) (.int .i64 q_b.f) (.bool q_b.neg) (.slice A_b q_b.num.length c_b) (.slice B_b q_b.den.length d_b) (.int .i64 0) (.bool true) (.int .i64 q_s.f) (.bool q_s.neg) (.slice A_s q_s.num.length c_s) (.slice B_s q_s.den.length d_s) (.int .i64 q_t.f) (.bool q_t.neg) (.slice A_t q_t.num.length c_t) (.slice B_t q_t.den.length d_t) W0 := ⟨⟨Ext.refl _⟩, hB_a, hB_b, hB_z, hB_s, hB_t⟩
          have hkd' := KO.ext (Ext.refl _).drew hkd
          clear hkd hW
          go_region_held (fun w' => KO W0 p0 p1 w103.heap.size w104.heap.size w105.heap.size (.int .i64 q_a.f) (.bool q_a.neg) (.slice A_a q_a.num.length c_a) (.slice B_a q_a.den.length d_a) (.int .i64 q_b.f) (.bool q_b.neg) (.slice A_b q_b.num.length c_b) (.slice B_b q_b.den.length d_b) (.int .i64 0) (.bool true) (.int .i64 q_s.f) (.bool q_s.neg) (.slice A_s q_s.num.length c_s) (.slice B_s q_s.den.length d_s) (.int .i64 q_t.f) (.bool q_t.neg) (.slice A_t q_t.num.length c_t) (.slice B_t q_t.den.length d_t) w') (first | assumption | exact KO.ext (by assumption) (by assumption)) (first | (go_at_call 33; with_reducible refine (requal_calls (HR_a.out.ext (Aside.out (And.left (show KO W0 p0 p1 w103.heap.size w104.heap.size w105.heap.size (.int .i64 q_a.f) (.bool q_a.neg) (.slice A_a q_a.num.length c_a) (.slice B_a q_a.den.length d_a) (.int .i64 q_b.f) (.bool q_b.neg) (.slice A_b q_b.num.length c_b) (.slice B_b q_b.den.length d_b) (.int .i64 0) (.bool true) (.int .i64 q_s.f) (.bool q_s.neg) (.slice A_s q_s.num.length c_s) (.slice B_s q_s.den.length d_s) (.int .i64 q_t.f) (.bool q_t.neg) (.slice A_t q_t.num.length c_t) (.slice B_t q_t.den.length d_t) _ from by assumption)))) (HR_b.out.ext (Aside.out (And.left (show KO W0 p0 p1 w103.heap.size w104.heap.size w105.heap.size (.int .i64 q_a.f) (.bool q_a.neg) (.slice A_a q_a.num.length c_a) (.slice B_a q_a.den.length d_a) (.int .i64 q_b.f) (.bool q_b.neg) (.slice A_b q_b.num.length c_b) (.slice B_b q_b.den.length d_b) (.int .i64 0) (.bool true) (.int .i64 q_s.f) (.bool q_s.neg) (.slice A_s q_s.num.length c_s) (.slice B_s q_s.den.length d_s) (.int .i64 q_t.f) (.bool q_t.neg) (.slice A_t q_t.num.length c_t) (.slice B_t q_t.den.length d_t) _ from by assumption)))) HZE.out).mono ?_; rintro e w201 ⟨rfl, he1⟩) | (go_at_call 44; with_reducible refine (good_true (HR_s.out.ext (Aside.out (And.left (show KO W0 p0 p1 w103.heap.size w104.heap.size w105.heap.size (.int .i64 q_a.f) (.bool q_a.neg) (.slice A_a q_a.num.length c_a) (.slice B_a q_a.den.length d_a) (.int .i64 q_b.f) (.bool q_b.neg) (.slice A_b q_b.num.length c_b) (.slice B_b q_b.den.length d_b) (.int .i64 0) (.bool true) (.int .i64 q_s.f) (.bool q_s.neg) (.slice A_s q_s.num.length c_s) (.slice B_s q_s.den.length d_s) (.int .i64 q_t.f) (.bool q_t.neg) (.slice A_t q_t.num.length c_t) (.slice B_t q_t.den.length d_t) _ from by assumption)))) HK_s.out).mono ?_; rintro e w202 ⟨rfl, he2⟩) | (go_at_call 44; with_reducible refine (good_true (HR_t.out.ext (Aside.out (And.left (show KO W0 p0 p1 w103.heap.size w104.heap.size w105.heap.size (.int .i64 q_a.f) (.bool q_a.neg) (.slice A_a q_a.num.length c_a) (.slice B_a q_a.den.length d_a) (.int .i64 q_b.f) (.bool q_b.neg) (.slice A_b q_b.num.length c_b) (.slice B_b q_b.den.length d_b) (.int .i64 0) (.bool true) (.int .i64 q_s.f) (.bool q_s.neg) (.slice A_s q_s.num.length c_s) (.slice B_s q_s.den.length d_s) (.int .i64 q_t.f) (.bool q_t.neg) (.slice A_t q_t.num.length c_t) (.slice B_t q_t.den.length d_t) _ from by assumption)))) HK_t.out).mono ?_; rintro e w203 ⟨rfl, he3⟩))
          have hk9 := KO.ext he3 (KO.ext he2 (KO.ext he1 hkd'))
          have he := hk9.1.out
          clear hB_z; replace HX := Aside.mk (HX.out.trans he); replace hB_a := Four.ext he hB_a; replace hB_b := Four.ext he hB_b; replace hB_c := Four.ext he hB_c; replace hB_x := Two.ext he hB_x; replace hB_s := Four.ext he hB_s; replace hB_t := Four.ext he hB_t; replace HR_a := Aside.mk (HR_a.out.ext he); replace HR_b := Aside.mk (HR_b.out.ext he); replace HR_c := Aside.mk (HR_c.out.ext he); replace HR_s := Aside.mk (HR_s.out.ext he); replace HR_t := Aside.mk (HR_t.out.ext he)
          clear he hkd' he1 he2 he3 hk9
          go_wp2_with (first | (go_at_call 56; with_reducible refine (Less2_calls HR_s.out HR_t.out HM_u.out).mono ?_; rintro e w116 ⟨rfl, he0⟩; have he := he0.alloc (.cells #[.int .i64 0, .bool false] 55); clear hB_s hB_t HR_s HR_t; replace HX := Aside.mk (HX.out.trans he); replace hB_a := Four.ext he hB_a; replace hB_b := Four.ext he hB_b; replace hB_c := Four.ext he hB_c; replace hB_x := Two.ext he hB_x; replace HR_a := Aside.mk (HR_a.out.ext he); replace HR_b := Aside.mk (HR_b.out.ext he); replace HR_c := Aside.mk (HR_c.out.ext he); have hB_u := two_new w116 (.int .i64 0) (.bool false) 55; clear he0 he) | (go_at_call 23; with_reducible refine (alive_calls (HG.out.ext (HE1.out.trans HX.out))).mono ?_; rintro e w99 ⟨rfl, he⟩; have HEND := Aside.mk ((HE1.out.trans HX.out).trans he); clear he) | (go_at_call 39; with_reducible refine (good2 (Mul2_calls HR_a.out HR_c.out rfl) HM_p.out).mono ?_; rintro e w117 ⟨r, rfl, hr, he0⟩; obtain ⟨A_p, c_p, B_p, d_p, rfl⟩ := hr.form; have he := he0.alloc (.cells #[.int .i64 q_p.f, .bool q_p.neg, .slice A_p q_p.num.length c_p, .slice B_p q_p.den.length d_p] 26); replace HX := Aside.mk (HX.out.trans he); replace hB_a := Four.ext he hB_a; replace hB_b := Four.ext he hB_b; replace hB_c := Four.ext he hB_c; replace hB_x := Two.ext he hB_x; replace HR_a := Aside.mk (HR_a.out.ext he); replace HR_b := Aside.mk (HR_b.out.ext he); replace HR_c := Aside.mk (HR_c.out.ext he); have HR_p := Aside.mk (hr.rr.ext ((Ext.refl w117).alloc (.cells #[.int .i64 q_p.f, .bool q_p.neg, .slice A_p q_p.num.length c_p, .slice B_p q_p.den.length d_p] 26))); have hB_p := four_new w117 (.int .i64 q_p.f) (.bool q_p.neg) (.slice A_p q_p.num.length c_p) (.slice B_p q_p.den.length d_p) 26; clear hr he0 he) | (go_at_call 39; with_reducible refine (good2 (Mul2_calls HR_b.out HR_c.out rfl) HM_q.out).mono ?_; rintro e w118 ⟨r, rfl, hr, he0⟩; obtain ⟨A_q, c_q, B_q, d_q, rfl⟩ := hr.form; have he := he0.alloc (.cells #[.int .i64 q_q.f, .bool q_q.neg, .slice A_q q_q.num.length c_q, .slice B_q q_q.den.length d_q] 26); clear hB_a hB_b hB_c HR_a HR_b HR_c; replace HX := Aside.mk (HX.out.trans he); replace hB_x := Two.ext he hB_x; replace hB_p := Four.ext he hB_p; replace HR_p := Aside.mk (HR_p.out.ext he); have HR_q := Aside.mk (hr.rr.ext ((Ext.refl w118).alloc (.cells #[.int .i64 q_q.f, .bool q_q.neg, .slice A_q q_q.num.length c_q, .slice B_q q_q.den.length d_q] 26))); have hB_q := four_new w118 (.int .i64 q_q.f) (.bool q_q.neg) (.slice A_q q_q.num.length c_q) (.slice B_q q_q.den.length d_q) 26; clear hr he0 he) | (go_at_call 44; with_reducible refine (good_true HR_p.out HK_p.out).mono ?_; rintro e w119 ⟨rfl, he⟩; replace HX := Aside.mk (HX.out.trans he); replace hB_x := Two.ext he hB_x; replace hB_p := Four.ext he hB_p; replace hB_q := Four.ext he hB_q; replace HR_p := Aside.mk (HR_p.out.ext he); replace HR_q := Aside.mk (HR_q.out.ext he); clear he) | (go_at_call 44; with_reducible refine (good_true HR_q.out HK_q.out).mono ?_; rintro e w120 ⟨rfl, he⟩; replace HX := Aside.mk (HX.out.trans he); replace hB_x := Two.ext he hB_x; replace hB_p := Four.ext he hB_p; replace hB_q := Four.ext he hB_q; replace HR_p := Aside.mk (HR_p.out.ext he); replace HR_q := Aside.mk (HR_q.out.ext he); clear he) | (go_at_call 56; with_reducible refine (Less2_calls HR_p.out HR_q.out HM_v.out).mono ?_; rintro e w121 ⟨rfl, he0⟩; have he := he0.alloc (.cells #[.int .i64 0, .bool false] 55); clear hB_p hB_q HR_p HR_q; replace HX := Aside.mk (HX.out.trans he); replace hB_x := Two.ext he hB_x; have hB_v := two_new w121 (.int .i64 0) (.bool false) 55; clear he0 he))
          go_ret
          exact ⟨rfl, HEND.out⟩
        · have hl0 : ((q_c.num.length : Int) == 0) = false := beq_eq_false_iff_ne.2 (by omega)
          obtain ⟨NP, NQ, hpq⟩ := order_mul NA NB NC (ord_pos NC hneg (by omega))
          obtain ⟨q_p, hp⟩ : ∃ q, mulr q_a q_c = q := ⟨_, rfl⟩
          obtain ⟨q_q, hq⟩ : ∃ q, mulr q_b q_c = q := ⟨_, rfl⟩
          rw [hp] at NP hpq
          rw [hq] at NQ hpq
          have HM_p : Aside (madeq q_a q_c (ratio (q_a.neg != q_c.neg) (val q_a.num * val q_c.num) (val q_a.den * val q_c.den)) = (q_p, 0)) := ⟨by rw [← hp]; exact made_num NA NC⟩
          have HM_q : Aside (madeq q_b q_c (ratio (q_b.neg != q_c.neg) (val q_b.num * val q_c.num) (val q_b.den * val q_c.den)) = (q_q, 0)) := ⟨by rw [← hq]; exact made_num NB NC⟩
          have HK_p := Aside.mk NP.ok
          have HK_q := Aside.mk NQ.ok
          have hlv := NP.lt NQ
          rw [hpq, decide_eq_false h1] at hlv
          have HM_v : Aside (askq q_p q_q (lessq q_p.neg (val q_p.num * val q_q.den) q_q.neg (val q_q.num * val q_p.den)) = ((0, false), 0)) := ⟨by rw [hlv]; exact askq_num NP NQ⟩
          clear NA NB NC NS NT NP NQ hst hpq hlv hp hq hlc h1
          simp only [hneg] at hB_c HR_c
          refine ⟨?_⟩
          simp only [Act.put, List.setIfInBounds_toArray, List.set_cons_zero, List.set_cons_succ]
          go_wp2_with (first | (go_at_call 56; with_reducible refine (Less2_calls HR_a.out HR_b.out HM_x.out).mono ?_; rintro e w101 ⟨rfl, he0⟩; have he := he0.alloc (.cells #[.int .i64 0, .bool false] 55); replace HX := Aside.mk (HX.out.trans he); replace hB_a := Four.ext he hB_a; replace hB_b := Four.ext he hB_b; replace hB_c := Four.ext he hB_c; replace HR_a := Aside.mk (HR_a.out.ext he); replace HR_b := Aside.mk (HR_b.out.ext he); replace HR_c := Aside.mk (HR_c.out.ext he); have hB_x := two_new w101 (.int .i64 0) (.bool false) 55; clear he0 he) | (go_at_call 56; with_reducible refine (Less2_calls HR_b.out HR_a.out HM_y.out).mono ?_; rintro e w102 ⟨rfl, he0⟩; have he := he0.alloc (.cells #[.int .i64 0, .bool false] 55); replace HX := Aside.mk (HX.out.trans he); replace hB_a := Four.ext he hB_a; replace hB_b := Four.ext he hB_b; replace hB_c := Four.ext he hB_c; replace hB_x := Two.ext he hB_x; replace HR_a := Aside.mk (HR_a.out.ext he); replace HR_b := Aside.mk (HR_b.out.ext he); replace HR_c := Aside.mk (HR_c.out.ext he); have hB_y := two_new w102 (.int .i64 0) (.bool false) 55; clear he0 he) | (go_at_call 57; with_reducible refine (Same2_calls HR_a.out HR_b.out HM_z.out).mono ?_; rintro e w103 ⟨rfl, he0⟩; have he := he0.alloc (.cells #[.int .i64 0, .bool true] 55); replace HX := Aside.mk (HX.out.trans he); replace hB_a := Four.ext he hB_a; replace hB_b := Four.ext he hB_b; replace hB_c := Four.ext he hB_c; replace hB_x := Two.ext he hB_x; replace hB_y := Two.ext he hB_y; replace HR_a := Aside.mk (HR_a.out.ext he); replace HR_b := Aside.mk (HR_b.out.ext he); replace HR_c := Aside.mk (HR_c.out.ext he); have hB_z := two_new w103 (.int .i64 0) (.bool true) 55; clear he0 he))
          have he := (Ext.refl (w103.alloc (.cells #[.int .i64 0, .bool true] 55))).alloc (.cells #[.int .i64 0, .bool false, .int .i64 0, .bool false, .int .i64 0, .bool true] 55); replace HX := Aside.mk (HX.out.trans he); replace hB_a := Four.ext he hB_a; replace hB_b := Four.ext he hB_b; replace hB_c := Four.ext he hB_c; replace hB_x := Two.ext he hB_x; replace hB_z := Two.ext he hB_z; replace HR_a := Aside.mk (HR_a.out.ext he); replace HR_b := Aside.mk (HR_b.out.ext he); replace HR_c := Aside.mk (HR_c.out.ext he); clear he hB_y
          go_loop [16, 18] (fun m i => (i = .int .i64 0 ∧ m = .int .i64 0) ∨ (i = .int .i64 1 ∧ m = .int .i64 (if false then 1 else 0)) ∨ (i = .int .i64 2 ∧ m = .int .i64 (if false || false then 1 else 0)) ∨ (i = .int .i64 3 ∧ m = .int .i64 1)) (fun _ i => (3 - intOf i).toNat)
          case atStart => exact .inl ⟨rfl, rfl⟩
          case round =>
          rcases hrel with ⟨rfl, rfl⟩ | ⟨rfl, rfl⟩ | ⟨rfl, rfl⟩ | ⟨rfl, rfl⟩
          · go_wp2
            go_round
            case rel => exact .inr (.inl ⟨rfl, rfl⟩)
            case measure => simp [intOf]
          · go_wp2
            go_round
            case rel => exact .inr (.inr (.inl ⟨rfl, rfl⟩))
            case measure => simp [intOf]
          · go_wp2
            go_round
            case rel => exact .inr (.inr (.inr ⟨rfl, rfl⟩))
            case measure => simp [intOf]
          go_wp2_with (first | (go_at_call 35; with_reducible refine (good2 (Add2_calls HR_a.out HR_c.out rfl) HM_s.out).mono ?_; rintro e w104 ⟨r, rfl, hr, he0⟩; obtain ⟨A_s, c_s, B_s, d_s, rfl⟩ := hr.form; have he := he0.alloc (.cells #[.int .i64 q_s.f, .bool q_s.neg, .slice A_s q_s.num.length c_s, .slice B_s q_s.den.length d_s] 26); replace HX := Aside.mk (HX.out.trans he); replace hB_a := Four.ext he hB_a; replace hB_b := Four.ext he hB_b; replace hB_c := Four.ext he hB_c; replace hB_x := Two.ext he hB_x; replace hB_z := Two.ext he hB_z; replace HR_a := Aside.mk (HR_a.out.ext he); replace HR_b := Aside.mk (HR_b.out.ext he); replace HR_c := Aside.mk (HR_c.out.ext he); have HR_s := Aside.mk (hr.rr.ext ((Ext.refl w104).alloc (.cells #[.int .i64 q_s.f, .bool q_s.neg, .slice A_s q_s.num.length c_s, .slice B_s q_s.den.length d_s] 26))); have hB_s := four_new w104 (.int .i64 q_s.f) (.bool q_s.neg) (.slice A_s q_s.num.length c_s) (.slice B_s q_s.den.length d_s) 26; clear hr he0 he) | (go_at_call 35; with_reducible refine (good2 (Add2_calls HR_b.out HR_c.out rfl) HM_t.out).mono ?_; rintro e w105 ⟨r, rfl, hr, he0⟩; obtain ⟨A_t, c_t, B_t, d_t, rfl⟩ := hr.form; have he := he0.alloc (.cells #[.int .i64 q_t.f, .bool q_t.neg, .slice A_t q_t.num.length c_t, .slice B_t q_t.den.length d_t] 26); replace HX := Aside.mk (HX.out.trans he); replace hB_a := Four.ext he hB_a; replace hB_b := Four.ext he hB_b; replace hB_c := Four.ext he hB_c; replace hB_x := Two.ext he hB_x; replace hB_z := Two.ext he hB_z; replace hB_s := Four.ext he hB_s; replace HR_a := Aside.mk (HR_a.out.ext he); replace HR_b := Aside.mk (HR_b.out.ext he); replace HR_c := Aside.mk (HR_c.out.ext he); replace HR_s := Aside.mk (HR_s.out.ext he); have HR_t := Aside.mk (hr.rr.ext ((Ext.refl w105).alloc (.cells #[.int .i64 q_t.f, .bool q_t.neg, .slice A_t q_t.num.length c_t, .slice B_t q_t.den.length d_t] 26))); have hB_t := four_new w105 (.int .i64 q_t.f) (.bool q_t.neg) (.slice A_t q_t.num.length c_t) (.slice B_t q_t.den.length d_t) 26; clear hr he0 he))
          generalize hW : w105.alloc _ = W0 at *
          have hkd : KO W0 p0 p1 w103.heap.size w104.heap.size w105.heap.size (.int .i64 q_a.f) (.bool q_a.neg) (.slice A_a q_a.num.length c_a) (.slice B_a q_a.den.length d_a) (.int .i64 q_b.f) (.bool q_b.neg) (.slice A_b q_b.num.length c_b) (.slice B_b q_b.den.length d_b) (.int .i64 0) (.bool true) (.int .i64 q_s.f) (.bool q_s.neg) (.slice A_s q_s.num.length c_s) (.slice B_s q_s.den.length d_s) (.int .i64 q_t.f) (.bool q_t.neg) (.slice A_t q_t.num.length c_t) (.slice B_t q_t.den.length d_t) W0 := ⟨⟨Ext.refl _⟩, hB_a, hB_b, hB_z, hB_s, hB_t⟩
          have hkd' := KO.ext (Ext.refl _).drew hkd
          clear hkd hW
          go_region_held (fun w' => KO W0 p0 p1 w103.heap.size w104.heap.size w105.heap.size (.int .i64 q_a.f) (.bool q_a.neg) (.slice A_a q_a.num.length c_a) (.slice B_a q_a.den.length d_a) (.int .i64 q_b.f) (.bool q_b.neg) (.slice A_b q_b.num.length c_b) (.slice B_b q_b.den.length d_b) (.int .i64 0) (.bool true) (.int .i64 q_s.f) (.bool q_s.neg) (.slice A_s q_s.num.length c_s) (.slice B_s q_s.den.length d_s) (.int .i64 q_t.f) (.bool q_t.neg) (.slice A_t q_t.num.length c_t) (.slice B_t q_t.den.length d_t) w') (first | assumption | exact KO.ext (by assumption) (by assumption)) (first | (go_at_call 33; with_reducible refine (requal_calls (HR_a.out.ext (Aside.out (And.left (show KO W0 p0 p1 w103.heap.size w104.heap.size w105.heap.size (.int .i64 q_a.f) (.bool q_a.neg) (.slice A_a q_a.num.length c_a) (.slice B_a q_a.den.length d_a) (.int .i64 q_b.f) (.bool q_b.neg) (.slice A_b q_b.num.length c_b) (.slice B_b q_b.den.length d_b) (.int .i64 0) (.bool true) (.int .i64 q_s.f) (.bool q_s.neg) (.slice A_s q_s.num.length c_s) (.slice B_s q_s.den.length d_s) (.int .i64 q_t.f) (.bool q_t.neg) (.slice A_t q_t.num.length c_t) (.slice B_t q_t.den.length d_t) _ from by assumption)))) (HR_b.out.ext (Aside.out (And.left (show KO W0 p0 p1 w103.heap.size w104.heap.size w105.heap.size (.int .i64 q_a.f) (.bool q_a.neg) (.slice A_a q_a.num.length c_a) (.slice B_a q_a.den.length d_a) (.int .i64 q_b.f) (.bool q_b.neg) (.slice A_b q_b.num.length c_b) (.slice B_b q_b.den.length d_b) (.int .i64 0) (.bool true) (.int .i64 q_s.f) (.bool q_s.neg) (.slice A_s q_s.num.length c_s) (.slice B_s q_s.den.length d_s) (.int .i64 q_t.f) (.bool q_t.neg) (.slice A_t q_t.num.length c_t) (.slice B_t q_t.den.length d_t) _ from by assumption)))) HZE.out).mono ?_; rintro e w201 ⟨rfl, he1⟩) | (go_at_call 44; with_reducible refine (good_true (HR_s.out.ext (Aside.out (And.left (show KO W0 p0 p1 w103.heap.size w104.heap.size w105.heap.size (.int .i64 q_a.f) (.bool q_a.neg) (.slice A_a q_a.num.length c_a) (.slice B_a q_a.den.length d_a) (.int .i64 q_b.f) (.bool q_b.neg) (.slice A_b q_b.num.length c_b) (.slice B_b q_b.den.length d_b) (.int .i64 0) (.bool true) (.int .i64 q_s.f) (.bool q_s.neg) (.slice A_s q_s.num.length c_s) (.slice B_s q_s.den.length d_s) (.int .i64 q_t.f) (.bool q_t.neg) (.slice A_t q_t.num.length c_t) (.slice B_t q_t.den.length d_t) _ from by assumption)))) HK_s.out).mono ?_; rintro e w202 ⟨rfl, he2⟩) | (go_at_call 44; with_reducible refine (good_true (HR_t.out.ext (Aside.out (And.left (show KO W0 p0 p1 w103.heap.size w104.heap.size w105.heap.size (.int .i64 q_a.f) (.bool q_a.neg) (.slice A_a q_a.num.length c_a) (.slice B_a q_a.den.length d_a) (.int .i64 q_b.f) (.bool q_b.neg) (.slice A_b q_b.num.length c_b) (.slice B_b q_b.den.length d_b) (.int .i64 0) (.bool true) (.int .i64 q_s.f) (.bool q_s.neg) (.slice A_s q_s.num.length c_s) (.slice B_s q_s.den.length d_s) (.int .i64 q_t.f) (.bool q_t.neg) (.slice A_t q_t.num.length c_t) (.slice B_t q_t.den.length d_t) _ from by assumption)))) HK_t.out).mono ?_; rintro e w203 ⟨rfl, he3⟩))
          have hk9 := KO.ext he3 (KO.ext he2 (KO.ext he1 hkd'))
          have he := hk9.1.out
          clear hB_z; replace HX := Aside.mk (HX.out.trans he); replace hB_a := Four.ext he hB_a; replace hB_b := Four.ext he hB_b; replace hB_c := Four.ext he hB_c; replace hB_x := Two.ext he hB_x; replace hB_s := Four.ext he hB_s; replace hB_t := Four.ext he hB_t; replace HR_a := Aside.mk (HR_a.out.ext he); replace HR_b := Aside.mk (HR_b.out.ext he); replace HR_c := Aside.mk (HR_c.out.ext he); replace HR_s := Aside.mk (HR_s.out.ext he); replace HR_t := Aside.mk (HR_t.out.ext he)
          clear he hkd' he1 he2 he3 hk9
          go_wp2_with (first | (go_at_call 56; with_reducible refine (Less2_calls HR_s.out HR_t.out HM_u.out).mono ?_; rintro e w116 ⟨rfl, he0⟩; have he := he0.alloc (.cells #[.int .i64 0, .bool false] 55); clear hB_s hB_t HR_s HR_t; replace HX := Aside.mk (HX.out.trans he); replace hB_a := Four.ext he hB_a; replace hB_b := Four.ext he hB_b; replace hB_c := Four.ext he hB_c; replace hB_x := Two.ext he hB_x; replace HR_a := Aside.mk (HR_a.out.ext he); replace HR_b := Aside.mk (HR_b.out.ext he); replace HR_c := Aside.mk (HR_c.out.ext he); have hB_u := two_new w116 (.int .i64 0) (.bool false) 55; clear he0 he) | (go_at_call 23; with_reducible refine (alive_calls (HG.out.ext (HE1.out.trans HX.out))).mono ?_; rintro e w99 ⟨rfl, he⟩; have HEND := Aside.mk ((HE1.out.trans HX.out).trans he); clear he) | (go_at_call 39; with_reducible refine (good2 (Mul2_calls HR_a.out HR_c.out rfl) HM_p.out).mono ?_; rintro e w117 ⟨r, rfl, hr, he0⟩; obtain ⟨A_p, c_p, B_p, d_p, rfl⟩ := hr.form; have he := he0.alloc (.cells #[.int .i64 q_p.f, .bool q_p.neg, .slice A_p q_p.num.length c_p, .slice B_p q_p.den.length d_p] 26); replace HX := Aside.mk (HX.out.trans he); replace hB_a := Four.ext he hB_a; replace hB_b := Four.ext he hB_b; replace hB_c := Four.ext he hB_c; replace hB_x := Two.ext he hB_x; replace HR_a := Aside.mk (HR_a.out.ext he); replace HR_b := Aside.mk (HR_b.out.ext he); replace HR_c := Aside.mk (HR_c.out.ext he); have HR_p := Aside.mk (hr.rr.ext ((Ext.refl w117).alloc (.cells #[.int .i64 q_p.f, .bool q_p.neg, .slice A_p q_p.num.length c_p, .slice B_p q_p.den.length d_p] 26))); have hB_p := four_new w117 (.int .i64 q_p.f) (.bool q_p.neg) (.slice A_p q_p.num.length c_p) (.slice B_p q_p.den.length d_p) 26; clear hr he0 he) | (go_at_call 39; with_reducible refine (good2 (Mul2_calls HR_b.out HR_c.out rfl) HM_q.out).mono ?_; rintro e w118 ⟨r, rfl, hr, he0⟩; obtain ⟨A_q, c_q, B_q, d_q, rfl⟩ := hr.form; have he := he0.alloc (.cells #[.int .i64 q_q.f, .bool q_q.neg, .slice A_q q_q.num.length c_q, .slice B_q q_q.den.length d_q] 26); clear hB_a hB_b hB_c HR_a HR_b HR_c; replace HX := Aside.mk (HX.out.trans he); replace hB_x := Two.ext he hB_x; replace hB_p := Four.ext he hB_p; replace HR_p := Aside.mk (HR_p.out.ext he); have HR_q := Aside.mk (hr.rr.ext ((Ext.refl w118).alloc (.cells #[.int .i64 q_q.f, .bool q_q.neg, .slice A_q q_q.num.length c_q, .slice B_q q_q.den.length d_q] 26))); have hB_q := four_new w118 (.int .i64 q_q.f) (.bool q_q.neg) (.slice A_q q_q.num.length c_q) (.slice B_q q_q.den.length d_q) 26; clear hr he0 he) | (go_at_call 44; with_reducible refine (good_true HR_p.out HK_p.out).mono ?_; rintro e w119 ⟨rfl, he⟩; replace HX := Aside.mk (HX.out.trans he); replace hB_x := Two.ext he hB_x; replace hB_p := Four.ext he hB_p; replace hB_q := Four.ext he hB_q; replace HR_p := Aside.mk (HR_p.out.ext he); replace HR_q := Aside.mk (HR_q.out.ext he); clear he) | (go_at_call 44; with_reducible refine (good_true HR_q.out HK_q.out).mono ?_; rintro e w120 ⟨rfl, he⟩; replace HX := Aside.mk (HX.out.trans he); replace hB_x := Two.ext he hB_x; replace hB_p := Four.ext he hB_p; replace hB_q := Four.ext he hB_q; replace HR_p := Aside.mk (HR_p.out.ext he); replace HR_q := Aside.mk (HR_q.out.ext he); clear he) | (go_at_call 56; with_reducible refine (Less2_calls HR_p.out HR_q.out HM_v.out).mono ?_; rintro e w121 ⟨rfl, he0⟩; have he := he0.alloc (.cells #[.int .i64 0, .bool false] 55); clear hB_p hB_q HR_p HR_q; replace HX := Aside.mk (HX.out.trans he); replace hB_x := Two.ext he hB_x; have hB_v := two_new w121 (.int .i64 0) (.bool false) 55; clear he0 he))
          go_ret
          exact ⟨rfl, HEND.out⟩
      · clear NA NB NC NS NT hst h1
        simp only [hneg] at hB_c HR_c
        refine ⟨?_⟩
        simp only [Act.put, List.setIfInBounds_toArray, List.set_cons_zero, List.set_cons_succ]
        go_wp2_with (first | (go_at_call 56; with_reducible refine (Less2_calls HR_a.out HR_b.out HM_x.out).mono ?_; rintro e w101 ⟨rfl, he0⟩; have he := he0.alloc (.cells #[.int .i64 0, .bool false] 55); replace HX := Aside.mk (HX.out.trans he); replace hB_a := Four.ext he hB_a; replace hB_b := Four.ext he hB_b; replace hB_c := Four.ext he hB_c; replace HR_a := Aside.mk (HR_a.out.ext he); replace HR_b := Aside.mk (HR_b.out.ext he); replace HR_c := Aside.mk (HR_c.out.ext he); have hB_x := two_new w101 (.int .i64 0) (.bool false) 55; clear he0 he) | (go_at_call 56; with_reducible refine (Less2_calls HR_b.out HR_a.out HM_y.out).mono ?_; rintro e w102 ⟨rfl, he0⟩; have he := he0.alloc (.cells #[.int .i64 0, .bool false] 55); replace HX := Aside.mk (HX.out.trans he); replace hB_a := Four.ext he hB_a; replace hB_b := Four.ext he hB_b; replace hB_c := Four.ext he hB_c; replace hB_x := Two.ext he hB_x; replace HR_a := Aside.mk (HR_a.out.ext he); replace HR_b := Aside.mk (HR_b.out.ext he); replace HR_c := Aside.mk (HR_c.out.ext he); have hB_y := two_new w102 (.int .i64 0) (.bool false) 55; clear he0 he) | (go_at_call 57; with_reducible refine (Same2_calls HR_a.out HR_b.out HM_z.out).mono ?_; rintro e w103 ⟨rfl, he0⟩; have he := he0.alloc (.cells #[.int .i64 0, .bool true] 55); replace HX := Aside.mk (HX.out.trans he); replace hB_a := Four.ext he hB_a; replace hB_b := Four.ext he hB_b; replace hB_c := Four.ext he hB_c; replace hB_x := Two.ext he hB_x; replace hB_y := Two.ext he hB_y; replace HR_a := Aside.mk (HR_a.out.ext he); replace HR_b := Aside.mk (HR_b.out.ext he); replace HR_c := Aside.mk (HR_c.out.ext he); have hB_z := two_new w103 (.int .i64 0) (.bool true) 55; clear he0 he))
        have he := (Ext.refl (w103.alloc (.cells #[.int .i64 0, .bool true] 55))).alloc (.cells #[.int .i64 0, .bool false, .int .i64 0, .bool false, .int .i64 0, .bool true] 55); replace HX := Aside.mk (HX.out.trans he); replace hB_a := Four.ext he hB_a; replace hB_b := Four.ext he hB_b; replace hB_c := Four.ext he hB_c; replace hB_x := Two.ext he hB_x; replace hB_z := Two.ext he hB_z; replace HR_a := Aside.mk (HR_a.out.ext he); replace HR_b := Aside.mk (HR_b.out.ext he); replace HR_c := Aside.mk (HR_c.out.ext he); clear he hB_y
        go_loop [16, 18] (fun m i => (i = .int .i64 0 ∧ m = .int .i64 0) ∨ (i = .int .i64 1 ∧ m = .int .i64 (if false then 1 else 0)) ∨ (i = .int .i64 2 ∧ m = .int .i64 (if false || false then 1 else 0)) ∨ (i = .int .i64 3 ∧ m = .int .i64 1)) (fun _ i => (3 - intOf i).toNat)
        case atStart => exact .inl ⟨rfl, rfl⟩
        case round =>
        rcases hrel with ⟨rfl, rfl⟩ | ⟨rfl, rfl⟩ | ⟨rfl, rfl⟩ | ⟨rfl, rfl⟩
        · go_wp2
          go_round
          case rel => exact .inr (.inl ⟨rfl, rfl⟩)
          case measure => simp [intOf]
        · go_wp2
          go_round
          case rel => exact .inr (.inr (.inl ⟨rfl, rfl⟩))
          case measure => simp [intOf]
        · go_wp2
          go_round
          case rel => exact .inr (.inr (.inr ⟨rfl, rfl⟩))
          case measure => simp [intOf]
        go_wp2_with (first | (go_at_call 35; with_reducible refine (good2 (Add2_calls HR_a.out HR_c.out rfl) HM_s.out).mono ?_; rintro e w104 ⟨r, rfl, hr, he0⟩; obtain ⟨A_s, c_s, B_s, d_s, rfl⟩ := hr.form; have he := he0.alloc (.cells #[.int .i64 q_s.f, .bool q_s.neg, .slice A_s q_s.num.length c_s, .slice B_s q_s.den.length d_s] 26); replace HX := Aside.mk (HX.out.trans he); replace hB_a := Four.ext he hB_a; replace hB_b := Four.ext he hB_b; replace hB_c := Four.ext he hB_c; replace hB_x := Two.ext he hB_x; replace hB_z := Two.ext he hB_z; replace HR_a := Aside.mk (HR_a.out.ext he); replace HR_b := Aside.mk (HR_b.out.ext he); replace HR_c := Aside.mk (HR_c.out.ext he); have HR_s := Aside.mk (hr.rr.ext ((Ext.refl w104).alloc (.cells #[.int .i64 q_s.f, .bool q_s.neg, .slice A_s q_s.num.length c_s, .slice B_s q_s.den.length d_s] 26))); have hB_s := four_new w104 (.int .i64 q_s.f) (.bool q_s.neg) (.slice A_s q_s.num.length c_s) (.slice B_s q_s.den.length d_s) 26; clear hr he0 he) | (go_at_call 35; with_reducible refine (good2 (Add2_calls HR_b.out HR_c.out rfl) HM_t.out).mono ?_; rintro e w105 ⟨r, rfl, hr, he0⟩; obtain ⟨A_t, c_t, B_t, d_t, rfl⟩ := hr.form; have he := he0.alloc (.cells #[.int .i64 q_t.f, .bool q_t.neg, .slice A_t q_t.num.length c_t, .slice B_t q_t.den.length d_t] 26); replace HX := Aside.mk (HX.out.trans he); replace hB_a := Four.ext he hB_a; replace hB_b := Four.ext he hB_b; replace hB_c := Four.ext he hB_c; replace hB_x := Two.ext he hB_x; replace hB_z := Two.ext he hB_z; replace hB_s := Four.ext he hB_s; replace HR_a := Aside.mk (HR_a.out.ext he); replace HR_b := Aside.mk (HR_b.out.ext he); replace HR_c := Aside.mk (HR_c.out.ext he); replace HR_s := Aside.mk (HR_s.out.ext he); have HR_t := Aside.mk (hr.rr.ext ((Ext.refl w105).alloc (.cells #[.int .i64 q_t.f, .bool q_t.neg, .slice A_t q_t.num.length c_t, .slice B_t q_t.den.length d_t] 26))); have hB_t := four_new w105 (.int .i64 q_t.f) (.bool q_t.neg) (.slice A_t q_t.num.length c_t) (.slice B_t q_t.den.length d_t) 26; clear hr he0 he))
        generalize hW : w105.alloc _ = W0 at *
        have hkd : KO W0 p0 p1 w103.heap.size w104.heap.size w105.heap.size (.int .i64 q_a.f) (.bool q_a.neg) (.slice A_a q_a.num.length c_a) (.slice B_a q_a.den.length d_a) (.int .i64 q_b.f) (.bool q_b.neg) (.slice A_b q_b.num.length c_b) (.slice B_b q_b.den.length d_b) (.int .i64 0) (.bool true) (.int .i64 q_s.f) (.bool q_s.neg) (.slice A_s q_s.num.length c_s) (.slice B_s q_s.den.length d_s) (.int .i64 q_t.f) (.bool q_t.neg) (.slice A_t q_t.num.length c_t) (.slice B_t q_t.den.length d_t) W0 := ⟨⟨Ext.refl _⟩, hB_a, hB_b, hB_z, hB_s, hB_t⟩
        have hkd' := KO.ext (Ext.refl _).drew hkd
        clear hkd hW
        go_region_held (fun w' => KO W0 p0 p1 w103.heap.size w104.heap.size w105.heap.size (.int .i64 q_a.f) (.bool q_a.neg) (.slice A_a q_a.num.length c_a) (.slice B_a q_a.den.length d_a) (.int .i64 q_b.f) (.bool q_b.neg) (.slice A_b q_b.num.length c_b) (.slice B_b q_b.den.length d_b) (.int .i64 0) (.bool true) (.int .i64 q_s.f) (.bool q_s.neg) (.slice A_s q_s.num.length c_s) (.slice B_s q_s.den.length d_s) (.int .i64 q_t.f) (.bool q_t.neg) (.slice A_t q_t.num.length c_t) (.slice B_t q_t.den.length d_t) w') (first | assumption | exact KO.ext (by assumption) (by assumption)) (first | (go_at_call 33; with_reducible refine (requal_calls (HR_a.out.ext (Aside.out (And.left (show KO W0 p0 p1 w103.heap.size w104.heap.size w105.heap.size (.int .i64 q_a.f) (.bool q_a.neg) (.slice A_a q_a.num.length c_a) (.slice B_a q_a.den.length d_a) (.int .i64 q_b.f) (.bool q_b.neg) (.slice A_b q_b.num.length c_b) (.slice B_b q_b.den.length d_b) (.int .i64 0) (.bool true) (.int .i64 q_s.f) (.bool q_s.neg) (.slice A_s q_s.num.length c_s) (.slice B_s q_s.den.length d_s) (.int .i64 q_t.f) (.bool q_t.neg) (.slice A_t q_t.num.length c_t) (.slice B_t q_t.den.length d_t) _ from by assumption)))) (HR_b.out.ext (Aside.out (And.left (show KO W0 p0 p1 w103.heap.size w104.heap.size w105.heap.size (.int .i64 q_a.f) (.bool q_a.neg) (.slice A_a q_a.num.length c_a) (.slice B_a q_a.den.length d_a) (.int .i64 q_b.f) (.bool q_b.neg) (.slice A_b q_b.num.length c_b) (.slice B_b q_b.den.length d_b) (.int .i64 0) (.bool true) (.int .i64 q_s.f) (.bool q_s.neg) (.slice A_s q_s.num.length c_s) (.slice B_s q_s.den.length d_s) (.int .i64 q_t.f) (.bool q_t.neg) (.slice A_t q_t.num.length c_t) (.slice B_t q_t.den.length d_t) _ from by assumption)))) HZE.out).mono ?_; rintro e w201 ⟨rfl, he1⟩) | (go_at_call 44; with_reducible refine (good_true (HR_s.out.ext (Aside.out (And.left (show KO W0 p0 p1 w103.heap.size w104.heap.size w105.heap.size (.int .i64 q_a.f) (.bool q_a.neg) (.slice A_a q_a.num.length c_a) (.slice B_a q_a.den.length d_a) (.int .i64 q_b.f) (.bool q_b.neg) (.slice A_b q_b.num.length c_b) (.slice B_b q_b.den.length d_b) (.int .i64 0) (.bool true) (.int .i64 q_s.f) (.bool q_s.neg) (.slice A_s q_s.num.length c_s) (.slice B_s q_s.den.length d_s) (.int .i64 q_t.f) (.bool q_t.neg) (.slice A_t q_t.num.length c_t) (.slice B_t q_t.den.length d_t) _ from by assumption)))) HK_s.out).mono ?_; rintro e w202 ⟨rfl, he2⟩) | (go_at_call 44; with_reducible refine (good_true (HR_t.out.ext (Aside.out (And.left (show KO W0 p0 p1 w103.heap.size w104.heap.size w105.heap.size (.int .i64 q_a.f) (.bool q_a.neg) (.slice A_a q_a.num.length c_a) (.slice B_a q_a.den.length d_a) (.int .i64 q_b.f) (.bool q_b.neg) (.slice A_b q_b.num.length c_b) (.slice B_b q_b.den.length d_b) (.int .i64 0) (.bool true) (.int .i64 q_s.f) (.bool q_s.neg) (.slice A_s q_s.num.length c_s) (.slice B_s q_s.den.length d_s) (.int .i64 q_t.f) (.bool q_t.neg) (.slice A_t q_t.num.length c_t) (.slice B_t q_t.den.length d_t) _ from by assumption)))) HK_t.out).mono ?_; rintro e w203 ⟨rfl, he3⟩))
        have hk9 := KO.ext he3 (KO.ext he2 (KO.ext he1 hkd'))
        have he := hk9.1.out
        clear hB_z; replace HX := Aside.mk (HX.out.trans he); replace hB_a := Four.ext he hB_a; replace hB_b := Four.ext he hB_b; replace hB_c := Four.ext he hB_c; replace hB_x := Two.ext he hB_x; replace hB_s := Four.ext he hB_s; replace hB_t := Four.ext he hB_t; replace HR_a := Aside.mk (HR_a.out.ext he); replace HR_b := Aside.mk (HR_b.out.ext he); replace HR_c := Aside.mk (HR_c.out.ext he); replace HR_s := Aside.mk (HR_s.out.ext he); replace HR_t := Aside.mk (HR_t.out.ext he)
        clear he hkd' he1 he2 he3 hk9
        go_wp2_with (first | (go_at_call 56; with_reducible refine (Less2_calls HR_s.out HR_t.out HM_u.out).mono ?_; rintro e w116 ⟨rfl, he0⟩; have he := he0.alloc (.cells #[.int .i64 0, .bool false] 55); clear hB_s hB_t HR_s HR_t; replace HX := Aside.mk (HX.out.trans he); replace hB_a := Four.ext he hB_a; replace hB_b := Four.ext he hB_b; replace hB_c := Four.ext he hB_c; replace hB_x := Two.ext he hB_x; replace HR_a := Aside.mk (HR_a.out.ext he); replace HR_b := Aside.mk (HR_b.out.ext he); replace HR_c := Aside.mk (HR_c.out.ext he); have hB_u := two_new w116 (.int .i64 0) (.bool false) 55; clear he0 he) | (go_at_call 23; with_reducible refine (alive_calls (HG.out.ext (HE1.out.trans HX.out))).mono ?_; rintro e w99 ⟨rfl, he⟩; have HEND := Aside.mk ((HE1.out.trans HX.out).trans he); clear he) | (go_at_call 39; with_reducible refine (good2 (Mul2_calls HR_a.out HR_c.out rfl) HM_p.out).mono ?_; rintro e w117 ⟨r, rfl, hr, he0⟩; obtain ⟨A_p, c_p, B_p, d_p, rfl⟩ := hr.form; have he := he0.alloc (.cells #[.int .i64 q_p.f, .bool q_p.neg, .slice A_p q_p.num.length c_p, .slice B_p q_p.den.length d_p] 26); replace HX := Aside.mk (HX.out.trans he); replace hB_a := Four.ext he hB_a; replace hB_b := Four.ext he hB_b; replace hB_c := Four.ext he hB_c; replace hB_x := Two.ext he hB_x; replace HR_a := Aside.mk (HR_a.out.ext he); replace HR_b := Aside.mk (HR_b.out.ext he); replace HR_c := Aside.mk (HR_c.out.ext he); have HR_p := Aside.mk (hr.rr.ext ((Ext.refl w117).alloc (.cells #[.int .i64 q_p.f, .bool q_p.neg, .slice A_p q_p.num.length c_p, .slice B_p q_p.den.length d_p] 26))); have hB_p := four_new w117 (.int .i64 q_p.f) (.bool q_p.neg) (.slice A_p q_p.num.length c_p) (.slice B_p q_p.den.length d_p) 26; clear hr he0 he) | (go_at_call 39; with_reducible refine (good2 (Mul2_calls HR_b.out HR_c.out rfl) HM_q.out).mono ?_; rintro e w118 ⟨r, rfl, hr, he0⟩; obtain ⟨A_q, c_q, B_q, d_q, rfl⟩ := hr.form; have he := he0.alloc (.cells #[.int .i64 q_q.f, .bool q_q.neg, .slice A_q q_q.num.length c_q, .slice B_q q_q.den.length d_q] 26); clear hB_a hB_b hB_c HR_a HR_b HR_c; replace HX := Aside.mk (HX.out.trans he); replace hB_x := Two.ext he hB_x; replace hB_p := Four.ext he hB_p; replace HR_p := Aside.mk (HR_p.out.ext he); have HR_q := Aside.mk (hr.rr.ext ((Ext.refl w118).alloc (.cells #[.int .i64 q_q.f, .bool q_q.neg, .slice A_q q_q.num.length c_q, .slice B_q q_q.den.length d_q] 26))); have hB_q := four_new w118 (.int .i64 q_q.f) (.bool q_q.neg) (.slice A_q q_q.num.length c_q) (.slice B_q q_q.den.length d_q) 26; clear hr he0 he) | (go_at_call 44; with_reducible refine (good_true HR_p.out HK_p.out).mono ?_; rintro e w119 ⟨rfl, he⟩; replace HX := Aside.mk (HX.out.trans he); replace hB_x := Two.ext he hB_x; replace hB_p := Four.ext he hB_p; replace hB_q := Four.ext he hB_q; replace HR_p := Aside.mk (HR_p.out.ext he); replace HR_q := Aside.mk (HR_q.out.ext he); clear he) | (go_at_call 44; with_reducible refine (good_true HR_q.out HK_q.out).mono ?_; rintro e w120 ⟨rfl, he⟩; replace HX := Aside.mk (HX.out.trans he); replace hB_x := Two.ext he hB_x; replace hB_p := Four.ext he hB_p; replace hB_q := Four.ext he hB_q; replace HR_p := Aside.mk (HR_p.out.ext he); replace HR_q := Aside.mk (HR_q.out.ext he); clear he) | (go_at_call 56; with_reducible refine (Less2_calls HR_p.out HR_q.out HM_v.out).mono ?_; rintro e w121 ⟨rfl, he0⟩; have he := he0.alloc (.cells #[.int .i64 0, .bool false] 55); clear hB_p hB_q HR_p HR_q; replace HX := Aside.mk (HX.out.trans he); replace hB_x := Two.ext he hB_x; have hB_v := two_new w121 (.int .i64 0) (.bool false) 55; clear he0 he))
        go_ret
        exact ⟨rfl, HEND.out⟩
end Go.Proofs.YtgfkachfbnbikaaGreatDoor

namespace Go.Proofs.YtgfkachfbnbikaaGreatDoor
open Go.RowKit Go.ChangeShapes Go.WideShapes Go.ChangeAt

set_option maxRecDepth 100000 in
theorem order_lifted (os : Os) (started : os.Started) (H : Type) (enc : TypeId × Value → H) :
    ReturnsInHanded {} Tryz.checked os 13 .any (fun w args => (Rows.fracOrderSpec.pre enc Tryz.prog Tryz.f13 [] false w args ∧ laidMetH Tryz.prog Rows.fracOrderRow.laid w) ∧ sizedMet enc Tryz.prog Tryz.f13 (OpenSpec.ofChange Rows.fracOrderSpec) false w args)
      (Rows.fracOrderSpec.post enc Tryz.prog Tryz.f13 false true false false) := by
  refine returns_law (C := Tryz.checked) (X := fun w _ => laidMetH Tryz.prog Rows.fracOrderRow.laid w) (fun _ _ _ hh h => h.of_heap hh) Tryz.own started (by kernel_rfl) Tryz.func13
    (ChangeSpec.witness_shaped (enc := enc) (C := Tryz.checked) (os := os) (X := fun w _ => laidMetH Tryz.prog Rows.fracOrderRow.laid w) false (World.laidAll Tryz.prog os Rows.fracOrderRow.laid) #[.agg #[.int .i64 0, .bool false, .slice none 0 0, .slice none 0 0], .agg #[.int .i64 0, .bool false, .slice none 0 0, .slice none 0 0], .agg #[.int .i64 0, .bool false, .slice none 0 0, .slice none 0 0]] 8 (World.laidAll_os _ _ _)
      (World.shaped_of_ZipB (by kernel_rfl) (by kernel_rfl)) (by kernel_rfl) (by kernel_rfl) (by kernel_rfl)
      (by rw [MakeChecks.laidMetH_plain _ _ _ (by kernel_rfl)]; exact laidMet_laidAll _ (by kernel_rfl) (by kernel_rfl))) ?_
  intro W base args ds gs before hval0 hW hL hsh
  have hval : ∀ (j : Nat) t v, Tryz.f13.params[j]? = some t → args[j]? = some v → Value.okWide Tryz.prog W .any base t v := hval0
  have hW' := hW
  obtain ⟨p, q, hA0, hV, rfl, hfz, hnd⟩ := hW
  have hA : DataW.TrodAll enc Tryz.prog W 0 (fun _ => true) true Tryz.f13.params.toList args.toList ds p := hA0
  have hA' := hA
  rw [Tryz.params13] at hA hval
  obtain ⟨v0, v1, v2, d0, d1, d2, p0, p1, p2, rfl, rfl, rfl, ⟨k0, h0⟩, ⟨k1, h1⟩, ⟨k2, h2⟩⟩ := trodAll_three hA
  obtain ⟨rfl, rfl⟩ := trodVars_none hV
  have hG := glob_of (by kernel_rfl) rfl hL hsh
  obtain ⟨f1, n1, sx1, sy1, xs1, ys1, rfl, hx1, hy1⟩ := rat_of (hval 0 26 v0 rfl rfl) h0
  obtain ⟨f2, n2, sx2, sy2, xs2, ys2, rfl, hx2, hy2⟩ := rat_of (hval 1 26 v1 rfl rfl) h1
  obtain ⟨f3, n3, sx3, sy3, xs3, ys3, rfl, hx3, hy3⟩ := rat_of (hval 2 26 v2 rfl rfl) h2
  refine (order_calls hG hx1 hy1 hx2 hy2 hx3 hy3).mono fun e W' ⟨he, hw⟩ => ?_
  subst he
  refine ⟨_, rfl, law_post (ts := Tryz.f13.params.toList) rfl rfl rfl ?_ ⟨rfl, rfl, rfl⟩ hW' (by simpa using hA') hw⟩
  rw [Tryz.params13]
  exact read_all (by kernel_rfl)

theorem fracOrder_holds : Rows.FracOrderSaid :=
  OpenClaim.holds_of_wide 13 Tryz.f13 rfl rfl rfl rfl rfl rfl rfl ⟨rfl, rfl, rfl, rfl, rfl⟩ rfl rfl rfl rfl rfl (by kernel_rfl) Tryz.func13 (by kernel_rfl)
    (of_decide_eq_true (by kernel_rfl)) (by unfold Func.isWrapper; first | (rw [if_neg (by decide +kernel)]; exact ⟨rfl, rfl⟩) | (rw [if_pos (by decide +kernel)]; kernel_rfl))
    (fun os started H enc _ => order_lifted os started H enc)
end Go.Proofs.YtgfkachfbnbikaaGreatDoor

namespace Go.Proofs.YtgfkachfbnbikaaGreatDoor
open Go

set_option maxRecDepth 100000 in
theorem fracOrder_card : Rows.FracOrderCardSaid :=
  Claim7.holds_tied_plain_at .later [] [.data, .data, .pinned] true (true, "d85da3931ba373f0f2d5a7ce168e29c3a5db8cee51669ffe15e332533fbaa330") false
    fracOrder_holds (fun _ h => by cases h) (by kernel_rfl) (fun _ h => by cases h) fracOrder_row_tie rfl ⟨rfl, rfl⟩ (by kernel_rfl) rfl
    (fun f fn hf hfn => by
      obtain rfl : f = 13 := Option.some.inj ((show Tryz.prog.funcNamed "fluxion/fluxionlaw02.FracOrder" = some 13 by kernel_rfl).symm.trans hf) |>.symm
      obtain rfl : fn = Tryz.f13 := (Option.some.inj (Tryz.func13.symm.trans hfn)).symm
      exact ⟨by kernel_rfl, fun j t ht => by
        rw [Tryz.params13] at ht
        have hm : t ∈ Tryz.f13.params.toList := by rw [Tryz.params13]; exact Array.mem_toList_iff.2 (Array.mem_of_getElem? ht)
        have hall : (Tryz.f13.params.toList.all fun u => !Tryz.prog.wantsStandIn u) = true := by kernel_rfl
        exact (show Tryz.prog.wantsStandIn t = false by simpa using List.all_eq_true.1 hall t hm)⟩)
    (by kernel_rfl)
#print axioms fracOrder_card
end Go.Proofs.YtgfkachfbnbikaaGreatDoor
