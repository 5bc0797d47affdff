/- The plain law of faults, and the region of FracFaults that draws its order. FracFaults: the call returns true. An argument that is a bit. FracFaults: of every input the call returns true, and each argument reads behind it as it read before. FracFaults: the tied card holds: whatever is done with a fault gives a fault, which is not greater, as the number of an error. Conditions: the package-level variables that the row lists start as the program's text lays them (the tie is given). -/
import Derived.Test.YtgfkachfbnbikaaGreatDoorMn
import Derived.Test.YtgfkachfbnbikaaGreatDoorMs
import Derived.Test.YtgfkachfbnbikaaGreatDoorMt
import Derived.Test.YtgfkachfbnbikaaGreatDoorMu
import Derived.Test.YtgfkachfbnbikaaGreatDoorMq
import Derived.Test.YtgfkachfbnbikaaGreatDoorMr
import Derived.Deep.DeepCutAuto
import Derived.Deep.QuietTactic
import Derived.BigQuiet
import Derived.Deep.RegionHeld
import Derived.Test.YtgfkachfbnbikaaGreatDoorMp
import Derived.Test.YtgfkachfbnbikaaGreatDoorCards
import Derived.Test.YtgfkachfbnbikaaGreatDoorTie
import Derived.SevenTiedAt
namespace Go.Proofs.YtgfkachfbnbikaaGreatDoor
open Go.RowKit

theorem madeq_fault {a b : Rq} {l : Int} (ka : okq a = true) (kb : okq b = true) (hl : leastq a.f b.f = l) (h0 : l ≠ 0) (res : Rq) : madeq a b res = (fq l, 0) := by
  unfold madeq
  rw [ka, kb, hl]
  simp [h0]
theorem askq_fault {a b : Rq} {l : Int} (ka : okq a = true) (kb : okq b = true) (hl : leastq a.f b.f = l) (h0 : l ≠ 0) (is : Bool) : askq a b is = ((l, false), 0) := by
  unfold askq rbit
  rw [ka, kb, hl]
  simp [h0]
theorem bitq_fault {fa fb l : Int} {oa ob : Bool} (ka : okb fa oa = true) (kb : okb fb ob = true) (hl : leastq fa fb = l) (h0 : l ≠ 0) (is : Bool) : bitq fa fb oa ob is = ((l, false), 0) := by
  unfold bitq rbit
  rw [ka, kb, hl]
  simp [h0]
theorem leastq_sym (a b : Int) : leastq a b = leastq b a := by unfold leastq; split <;> split <;> omega
theorem fault2 {F : FuncId} {args : Array Value} {w : World} {m : Rq × Int} {l : Int} (h : Calls Tryz.prog F args w fun e w' => ∃ r, e = .returned (.tuple #[r, .int .i64 m.2]) ∧ RO w.heap.size w' r m.1 ∧ Ext w w') (hm : m = (fq l, 0)) :
    Calls Tryz.prog F args w fun e w' => ∃ A c B d, e = .returned (.tuple #[.agg #[.int .i64 l, .bool false, .slice A 0 c, .slice B 0 d], .int .i64 0]) ∧ Ext w w' := by
  subst hm
  refine h.mono ?_
  rintro e w' ⟨r, rfl, hr, he⟩
  obtain ⟨A, c, B, d, rfl⟩ := hr.form
  exact ⟨A, c, B, d, rfl, he⟩
theorem tame20f {w : World} {f : Int} {neg : Bool} {sx sy : Value} {xs ys : List Nat} {q : Rq} (hx : RL w sx xs) (hy : RL w sy ys) (hq : tameq f neg xs ys 20 = q) :
    Calls Tryz.prog 34 #[.agg #[.int .i64 f, .bool neg, sx, sy], .int .i64 20] w fun e w' => ∃ r, e = .returned r ∧ RO w.heap.size w' r q ∧ Ext w w' := tame_calls (most := 20) hx hy (by decide) hq

/-- The list of the region's operations, read as the list of two calls, two boxes: the first operation is both a load and a call. -/
def perm7 (l : Array Bool) : Array Bool := #[l.getD 0 false, l.getD 0 false, l.getD 1 false, l.getD 2 false, l.getD 3 false, l.getD 4 false, l.getD 5 false, l.getD 6 false]
theorem getD_at {l : Array Bool} {i j : Nat} (h : l.getD i true = false) : (l.setIfInBounds i true).getD j false = if i = j then true else l.getD j false := by
  have hi : i < l.size := by
    rcases Nat.lt_or_ge i l.size with h' | h'
    · exact h'
    · simp [Array.getElem?_eq_none h'] at h
  by_cases e : i = j
  · subst e; simp [hi]
  · rw [Go.getD_set_ne false e, if_neg e]
theorem getD_low {l : Array Bool} {i : Nat} (h : l.getD i true = false) : l.getD i false = false := by
  rcases Nat.lt_or_ge i l.size with h' | h'
  · simp [h'] at h ⊢; exact h
  · simp [Array.getElem?_eq_none h'] at h
theorem perm7_set {l : Array Bool} {i j : Nat} (h : l.getD i true = false) (hj : j = i + 1) (h1 : 1 ≤ i) (h6 : i ≤ 6) : perm7 (l.setIfInBounds i true) = (perm7 l).setIfInBounds j true := by
  subst hj
  unfold perm7
  simp only [getD_at h]
  rcases (show i = 1 ∨ i = 2 ∨ i = 3 ∨ i = 4 ∨ i = 5 ∨ i = 6 by omega) with rfl | rfl | rfl | rfl | rfl | rfl <;> simp
theorem perm7_zero {l : Array Bool} (h : l.getD 0 true = false) : perm7 (l.setIfInBounds 0 true) = ((perm7 l).setIfInBounds 0 true).setIfInBounds 1 true := by
  unfold perm7
  simp only [getD_at h]
  simp
theorem perm7_start : perm7 (Array.replicate 7 false) = Array.replicate 8 false := by decide
theorem perm7_low {l : Array Bool} {i j : Nat} (h : l.getD i true = false) (hj : j = i + 1) (h6 : i ≤ 6) : (perm7 l).getD j true = false := by
  have h' := getD_low h
  subst hj
  unfold perm7
  rcases (show i = 0 ∨ i = 1 ∨ i = 2 ∨ i = 3 ∨ i = 4 ∨ i = 5 ∨ i = 6 by omega) with rfl | rfl | rfl | rfl | rfl | rfl | rfl <;> simpa using h'
theorem perm7_lst {l : Array Bool} {i j : Nat} (h : Lst l i) (hj : j = i + 1) (h6 : i ≤ 6) : Lst (perm7 l) j := by
  unfold Lst at *
  subst hj
  unfold perm7
  rcases (show i = 0 ∨ i = 1 ∨ i = 2 ∨ i = 3 ∨ i = 4 ∨ i = 5 ∨ i = 6 by omega) with rfl | rfl | rfl | rfl | rfl | rfl | rfl <;> simpa using h
theorem perm7_all {l : Array Bool} (h : ∀ i, i < 7 → Lst l i) : ∀ i, i < 8 → Lst (perm7 l) i := by
  intro i hi
  rcases Nat.eq_zero_or_pos i with rfl | h0
  · have := h 0 (by decide)
    unfold Lst at *
    unfold perm7
    simpa using this
  · exact perm7_lst (h (i - 1) (by omega)) (by omega) (by omega)
end Go.Proofs.YtgfkachfbnbikaaGreatDoor

namespace Go.Proofs.YtgfkachfbnbikaaGreatDoor
open Go.RowKit

theorem four_new (w : World) (x0 x1 x2 x3 : Value) (t : TypeId) : Four (w.alloc (.cells #[x0, x1, x2, x3] t)) w.heap.size x0 x1 x2 x3 := ⟨cell_new rfl rfl, cell_new rfl rfl, cell_new rfl rfl, cell_new rfl rfl⟩
/-- The two cells of a box. -/
abbrev Two (w : World) (g : Nat) (x0 x1 : Value) : Prop := w.cell? ⟨g, 0, none⟩ = some x0 ∧ w.cell? ⟨g, 1, none⟩ = some x1
theorem Two.ext {a b : World} (e : Ext a b) {g : Nat} {x0 x1 : Value} (h : Two a g x0 x1) : Two b g x0 x1 := ⟨e.cell h.1, e.cell h.2⟩
theorem Two.four {w : World} {g g' : Nat} {x0 x1 : Value} (h : Two w g x0 x1) (hne : g' ≠ g) (v0 v1 v2 v3 : Value) : Two (set4 w g' v0 v1 v2 v3) g x0 x1 :=
  ⟨cell_other (cell_other (cell_other (cell_other h.1 hne) hne) hne) hne, cell_other (cell_other (cell_other (cell_other h.2 hne) hne) hne) hne⟩
theorem two_new (w : World) (x0 x1 : Value) (t : TypeId) : Two (w.alloc (.cells #[x0, x1] t)) w.heap.size x0 x1 := ⟨cell_new rfl rfl, cell_new rfl rfl⟩
/-- The boxes that are read all along: the Rat, the bit, the fault. -/
abbrev KF (w : World) (px : Nat) (r0 r1 r2 r3 c0 c1 : Value) (fx : Int) (w' : World) : Prop :=
  Aside (Ext w w') ∧ Four w' w.heap.size r0 r1 r2 r3 ∧ Two w' (w.heap.size + 1) c0 c1 ∧ Four w' px (.int .i64 fx) (.bool false) (.slice none 0 0) (.slice none 0 0)
theorem KF.ext {w w1 w2 : World} {px : Nat} {r0 r1 r2 r3 c0 c1 : Value} {fx : Int} (e : Ext w1 w2) (h : KF w px r0 r1 r2 r3 c0 c1 fx w1) : KF w px r0 r1 r2 r3 c0 c1 fx w2 :=
  ⟨⟨h.1.out.trans e⟩, h.2.1.ext e, h.2.2.1.ext e, h.2.2.2.ext e⟩
theorem KF.four {w w1 : World} {px : Nat} {r0 r1 r2 r3 c0 c1 : Value} {fx : Int} (h : KF w px r0 r1 r2 r3 c0 c1 fx w1) (hx : w.heap.size + 2 ≤ px) {g : Nat} (hg : px + 1 ≤ g) (v0 v1 v2 v3 : Value) : KF w px r0 r1 r2 r3 c0 c1 fx (set4 w1 g v0 v1 v2 v3) :=
  ⟨⟨ext_set4 h.1.out (by omega) _ _ _ _⟩, h.2.1.four (by omega) _ _ _ _, h.2.2.1.four (by omega) _ _ _ _, h.2.2.2.four (by omega) _ _ _ _⟩
theorem KF.big {w w1 : World} {px : Nat} {r0 r1 r2 r3 c0 c1 : Value} {fx : Int} (h : KF w px r0 r1 r2 r3 c0 c1 fx w1) : px + 1 ≤ w1.heap.size := World.block_lt_of_cell? _ _ h.2.2.2.1
theorem KF.init {w w3 : World} {r0 r1 r2 r3 c0 c1 : Value} {fx : Int} {t t' t'' : TypeId} (he : Ext ((w.alloc (.cells #[r0, r1, r2, r3] t)).alloc (.cells #[c0, c1] t')) w3) :
    KF w w3.heap.size r0 r1 r2 r3 c0 c1 fx (w3.alloc (.cells #[.int .i64 fx, .bool false, .slice none 0 0, .slice none 0 0] t'')) ∧ w.heap.size + 2 ≤ w3.heap.size := by
  refine ⟨⟨⟨(((Ext.refl w).alloc _).alloc _).trans (he.alloc _)⟩, ((four_new w _ _ _ _ _).ext ((Ext.refl _).alloc _)).ext (he.alloc _), ?_, four_new w3 _ _ _ _ _⟩, ?_⟩
  · have h : Two ((w.alloc (.cells #[r0, r1, r2, r3] t)).alloc (.cells #[c0, c1] t')) (w.heap.size + 1) c0 c1 := ⟨cell_new (by simp) rfl, cell_new (by simp) rfl⟩
    exact h.ext (he.alloc _)
  · have := he.size; simp at this; omega
theorem KF.reset {w w1 : World} {px : Nat} {r0 r1 r2 r3 c0 c1 : Value} {fx : Int} (h : KF w px r0 r1 r2 r3 c0 c1 fx w1) (hx : w.heap.size + 2 ≤ px) (fy : Int) : KF w px r0 r1 r2 r3 c0 c1 fy (set4 w1 px (.int .i64 fy) (.bool false) (.slice none 0 0) (.slice none 0 0)) :=
  ⟨⟨ext_set4 h.1.out (by omega) _ _ _ _⟩, h.2.1.four (by omega) _ _ _ _, h.2.2.1.four (by omega) _ _ _ _, set4_same h.2.2.2 _ _ _ _⟩

/-- What is known behind the exchange. -/
def CutA (w : World) (px p0 p1 : Nat) (c0 c1 : Value) (fx l : Int) (wx : World) : Prop :=
  ∃ (q1 q2 : Rq) (A1 : Option Addr) (k1 : Nat) (B1 : Option Addr) (d1 : Nat) (A2 : Option Addr) (k2 : Nat) (B2 : Option Addr) (d2 : Nat), Ext w wx ∧
    Four wx p0 (.int .i64 q1.f) (.bool q1.neg) (.slice A1 q1.num.length k1) (.slice B1 q1.den.length d1) ∧ Four wx p1 (.int .i64 q2.f) (.bool q2.neg) (.slice A2 q2.num.length k2) (.slice B2 q2.den.length d2) ∧
    Two wx (w.heap.size + 1) c0 c1 ∧ Four wx px (.int .i64 fx) (.bool false) (.slice none 0 0) (.slice none 0 0) ∧
    RR wx (.agg #[.int .i64 q1.f, .bool q1.neg, .slice A1 q1.num.length k1, .slice B1 q1.den.length d1]) q1 ∧ RR wx (.agg #[.int .i64 q2.f, .bool q2.neg, .slice A2 q2.num.length k2, .slice B2 q2.den.length d2]) q2 ∧
    okq q1 = true ∧ okq q2 = true ∧ leastq q1.f q2.f = l

/-- What is known behind the list of faults. -/
abbrev KG (w W0 : World) (g px : Nat) (c0 c1 : Value) (fx l : Int) (w' : World) : Prop :=
  Aside (Ext W0 w') ∧ Two w' (w.heap.size + 1) c0 c1 ∧ Four w' px (.int .i64 fx) (.bool false) (.slice none 0 0) (.slice none 0 0) ∧
    Aside (∀ k, k < 8 → w'.cell? ⟨g, k, none⟩ = some (.int .i64 l) ∨ w'.cell? ⟨g, k, none⟩ = some (.int .i64 fx))
theorem KG.ext {w W0 w1 w2 : World} {g px : Nat} {c0 c1 : Value} {fx l : Int} (e : Ext w1 w2) (h : KG w W0 g px c0 c1 fx l w1) : KG w W0 g px c0 c1 fx l w2 :=
  ⟨⟨h.1.out.trans e⟩, h.2.1.ext e, h.2.2.1.ext e, ⟨fun k hk => (h.2.2.2.out k hk).imp (fun h => e.cell h) (fun h => e.cell h)⟩⟩

/-- What the last statement reads. -/
abbrev KH (W0 : World) (px pc pb py pz pu : Nat) (fx cf : Int) (co : Bool) (lc : Int) (w' : World) : Prop :=
  Aside (Ext W0 w') ∧ Four w' px (.int .i64 fx) (.bool false) (.slice none 0 0) (.slice none 0 0) ∧ Two w' pc (.int .i64 cf) (.bool co) ∧ Two w' pb (.int .i64 fx) (.bool false) ∧
    Two w' py (.int .i64 lc) (.bool false) ∧ Two w' pz (.int .i64 lc) (.bool false) ∧ Two w' pu (.int .i64 fx) (.bool false)
theorem KH.ext {W0 w1 w2 : World} {px pc pb py pz pu : Nat} {fx cf : Int} {co : Bool} {lc : Int} (e : Ext w1 w2) (h : KH W0 px pc pb py pz pu fx cf co lc w1) : KH W0 px pc pb py pz pu fx cf co lc w2 :=
  ⟨⟨h.1.out.trans e⟩, h.2.1.ext e, h.2.2.1.ext e, h.2.2.2.1.ext e, h.2.2.2.2.1.ext e, h.2.2.2.2.2.1.ext e, h.2.2.2.2.2.2.ext e⟩

/-! The region that draws -/
set_option maxRecDepth 10000 in
set_option maxHeartbeats 16000000 in
theorem faults_calls {w : World} {f1 cf : Int} {n1 lg fl co : Bool} {sx1 sy1 : Value} {xs1 ys1 : List Nat} (hg : Glob w) (hx1 : RL w sx1 xs1) (hy1 : RL w sy1 ys1) :
    Calls Tryz.prog 15 #[.agg #[.int .i64 f1, .bool n1, sx1, sy1], .bool lg, .bool fl, .agg #[.int .i64 cf, .bool co]] w fun e w' => e = .returned (.bool true) ∧ Ext w w' := by
  have HG := Aside.mk hg
  have HX1 := Aside.mk hx1
  have HY1 := Aside.mk hy1
  obtain ⟨q_b, hb⟩ : ∃ b : Rq, tameq f1 n1 xs1 ys1 20 = b := ⟨_, rfl⟩
  have HQ1 := Aside.mk hb
  have hkb : okq q_b = true := hb ▸ tameq_okq _ _ _ _ _
  obtain ⟨AX1, cx1, rfl, _⟩ := hx1
  obtain ⟨AY1, cy1, rfl, _⟩ := hy1
  generalize xs1.length = nx1 at *
  generalize ys1.length = ny1 at *
  clear hb hg
  cases lg
  · go_enter Tryz.func15, Tryz.ntmps15
    go_upto_region 4 with (first | (go_at_call 64; refine rfault_calls.mono ?_; rintro e w3 ⟨rfl, he⟩; have hk0 := (KF.init (fx := 11) (t'' := 26) he).1; have hpx := (KF.init (fx := 11) (t'' := 26) he).2; have hf0 := Keep4.init (Ext.refl w3) (.int .i64 11) (.bool false) (.slice none 0 0) (.slice none 0 0) 26; clear he) | (go_at_call 64; refine rfault_calls.mono ?_; rintro e w4 ⟨rfl, he⟩; have hk1 := KF.ext he hk0; have hf1 := Keep4.ext he hf0; clear he hk0 hf0))
    skip
    have HK0 := Aside.mk (KF.ext (Ext.refl _).drew hk0)
    clear hk0 hf0
    have HPX := Aside.mk hpx
    have HL : Lasts (KF w w3.heap.size (.int .i64 f1) (.bool n1) (.slice AX1 nx1 cx1) (.slice AY1 ny1 cy1) (.int .i64 cf) (.bool co) 11) (w3.heap.size + 1) := ⟨fun _ _ e h => KF.ext e h, fun _ _ _ _ _ _ h k => KF.four k HPX.out h _ _ _ _⟩
    clear hpx
    obtain ⟨q_a, hqa⟩ : ∃ q, fq 11 = q := ⟨_, rfl⟩
    have HQA := Aside.mk hqa
    clear hqa
    have h8 := InvN.start (n := 2) (m := 8) (ag := two undef (.agg #[.int .i64 f1, .bool n1, .slice AX1 nx1 cx1, .slice AY1 ny1 cy1])) (q := two q_a q_b) (vl := fun _ => undef) (vc := fun _ => undef) (vb := fun _ => undef) (P := fun _ => 0) HK0.out (KF.big HK0.out)
    rw [← perm7_start] at h8
    refine wp_region_each (fun a0 l a' w' => ∃ (vl vc vb : Nat → Value) (P : Nat → Nat), a' = ((((a0.put (some 37) (vc 0)).put (some 38) (vl 1)).put (some 39) (vc 1)).put (some 10) (vb 0)).put (some 11) (vb 1) ∧
      InvN 2 (perm7 l) (KF w w3.heap.size (.int .i64 f1) (.bool n1) (.slice AX1 nx1 cx1) (.slice AY1 ny1 cy1) (.int .i64 cf) (.bool co) 11) (w3.heap.size + 1) (two undef (.agg #[.int .i64 f1, .bool n1, .slice AX1 nx1 cx1, .slice AY1 ny1 cy1])) (two q_a q_b) vl vc vb P w') (by kernel_rfl) (by kernel_rfl) ?start ?fin ?each
    case start => exact ⟨fun _ => undef, fun _ => undef, fun _ => undef, fun _ => 0, by simp only [Act.put, List.setIfInBounds_toArray, List.set_cons_zero, List.set_cons_succ], h8⟩
    case each =>
      refine Each.cons (j := 1) rfl ?s0 (Each.cons (j := 2) rfl ?s1 (Each.cons (j := 3) rfl ?s2 (Each.cons (j := 4) rfl ?s3 (Each.cons (j := 5) rfl ?s4 (Each.cons (j := 6) rfl ?s5 (Each.cons (j := 7) rfl ?s6 Each.nil))))))
      case s0 =>
        rintro l a' w' h0 - ⟨vl, vc, vb, P, rfl, I⟩
        have hk := I.keep
        intro K' hK
        simp only [Act.put, List.setIfInBounds_toArray, List.set_cons_zero, List.set_cons_succ]
        go_simp
        refine hK.out _ _ ⟨upd vl 0 _, upd vc 0 (.agg #[.int .i64 11, .bool false, .slice none 0 0, .slice none 0 0]), vb, P, ?_, by rw [perm7_zero h0]; exact (I.loads 0 (by decide)).calls HL 0 (by decide) (by rw [Go.getD_set_ne true (by decide)]; exact perm7_low h0 rfl (by decide)) (Ext.refl _) (by rw [two0, ← HQA.out]; exact RO.fq _ _ _)⟩
        simp [Act.put, List.setIfInBounds_toArray, List.set_cons_zero, List.set_cons_succ, upd]
      case s1 =>
        rintro l a' w' h0 - ⟨vl, vc, vb, P, rfl, I⟩
        have hk := I.keep
        intro K' hK
        simp only [Act.put, List.setIfInBounds_toArray, List.set_cons_zero, List.set_cons_succ]
        go_simp
        refine hK.out _ _ ⟨upd vl 1 _, vc, vb, P, ?_, by rw [perm7_set h0 rfl (by decide) (by decide)]; exact I.loads 1 (by decide)⟩
        simp [Act.put, List.setIfInBounds_toArray, List.set_cons_zero, List.set_cons_succ, upd, two1]
      case s2 =>
        rintro l a' w' h0 hd ⟨vl, vc, vb, P, rfl, I⟩
        obtain ⟨vl, rfl⟩ := upd_eta (I.load 1 (by decide) (perm7_lst (hd 1 (by decide)) rfl (by decide)))
        have HK := Aside.mk I.keep.1.out
        clear hd
        intro K' hK
        simp only [Act.put, List.setIfInBounds_toArray, List.set_cons_zero, List.set_cons_succ, upd_same, two1]
        go_simp
        go_wp2_with (go_at_call 34; with_reducible refine (tame20f (HX1.out.ext HK.out) (HY1.out.ext HK.out) HQ1.out).mono ?_; rintro e w5 ⟨r, rfl, hr, he⟩)
        refine hK.out _ _ ⟨upd vl 1 _, upd vc 1 r, vb, P, ?_, by rw [perm7_set h0 rfl (by decide) (by decide)]; exact I.calls HL 1 (by decide) (perm7_low h0 rfl (by decide)) he hr⟩
        simp [Act.put, List.setIfInBounds_toArray, List.set_cons_zero, List.set_cons_succ, upd, two1]
      case s3 =>
        rintro l a' w' h0 - ⟨vl, vc, vb, P, rfl, I⟩
        intro K' hK
        simp only [Act.put, List.setIfInBounds_toArray, List.set_cons_zero, List.set_cons_succ]
        go_simp
        refine hK.out _ _ ⟨vl, vc, upd vb 0 _, upd P 0 _, ?_, by rw [perm7_set h0 rfl (by decide) (by decide)]; exact I.allocs HL 0 (by decide) (perm7_low h0 rfl (by decide))⟩
        simp [Act.put, List.setIfInBounds_toArray, List.set_cons_zero, List.set_cons_succ, upd]
      case s4 =>
        rintro l a' w' h0 - ⟨vl, vc, vb, P, rfl, I⟩
        intro K' hK
        simp only [Act.put, List.setIfInBounds_toArray, List.set_cons_zero, List.set_cons_succ]
        go_simp
        refine hK.out _ _ ⟨vl, vc, upd vb 1 _, upd P 1 _, ?_, by rw [perm7_set h0 rfl (by decide) (by decide)]; exact I.allocs HL 1 (by decide) (perm7_low h0 rfl (by decide))⟩
        simp [Act.put, List.setIfInBounds_toArray, List.set_cons_zero, List.set_cons_succ, upd]
      case s5 =>
        rintro l a' w' h0 hd ⟨vl, vc, vb, P, rfl, I⟩
        have hb := perm7_lst (hd 3 (List.elem_iff.1 (by kernel_rfl))) rfl (by decide)
        have hc := perm7_lst (hd (2 * 0) (List.elem_iff.1 (by kernel_rfl))) rfl (by decide)
        obtain ⟨hbx, -, x0, x1, x2, x3, ⟨hx0, hx1, hx2, hx3⟩, hf0, hf1, hf2, hf3⟩ := I.box 0 (by decide) hb
        obtain ⟨_, _, hro, -⟩ := I.call 0 (by decide) hc
        obtain ⟨A3, c3, B3, d3, hv⟩ := hro.form
        have hv' := hv
        obtain ⟨vb, rfl⟩ := upd_eta hbx
        obtain ⟨vc, rfl⟩ := upd_eta hv
        clear hd hro hbx hv
        intro K' hK
        simp only [Act.put, List.setIfInBounds_toArray, List.set_cons_zero, List.set_cons_succ, upd_same]
        go_simp
        refine hK.out _ _ ⟨vl, upd vc 0 _, upd vb 0 _, P, ?_, by rw [perm7_set h0 rfl (by decide) (by decide)]; exact I.stores HL 0 (by decide) hb hc hv'⟩
        simp [Act.put, List.setIfInBounds_toArray, List.set_cons_zero, List.set_cons_succ, upd]
      case s6 =>
        rintro l a' w' h0 hd ⟨vl, vc, vb, P, rfl, I⟩
        have hb := perm7_lst (hd 4 (List.elem_iff.1 (by kernel_rfl))) rfl (by decide)
        have hc := perm7_lst (hd (2 * 1) (List.elem_iff.1 (by kernel_rfl))) rfl (by decide)
        obtain ⟨hbx, -, x0, x1, x2, x3, ⟨hx0, hx1, hx2, hx3⟩, hf0, hf1, hf2, hf3⟩ := I.box 1 (by decide) hb
        obtain ⟨_, _, hro, -⟩ := I.call 1 (by decide) hc
        obtain ⟨A3, c3, B3, d3, hv⟩ := hro.form
        have hv' := hv
        obtain ⟨vb, rfl⟩ := upd_eta hbx
        obtain ⟨vc, rfl⟩ := upd_eta hv
        clear hd hro hbx hv
        intro K' hK
        simp only [Act.put, List.setIfInBounds_toArray, List.set_cons_zero, List.set_cons_succ, upd_same]
        go_simp
        refine hK.out _ _ ⟨vl, upd vc 1 _, upd vb 1 _, P, ?_, by rw [perm7_set h0 rfl (by decide) (by decide)]; exact I.stores HL 1 (by decide) hb hc hv'⟩
        simp [Act.put, List.setIfInBounds_toArray, List.set_cons_zero, List.set_cons_succ, upd]
    case fin =>
    clear HX1 HY1 HQ1 HL HK0
    rintro l a' w1 hl ⟨vl, vc, vb, P, rfl, I⟩
    have hla := perm7_all (fun i hi => hl i hi)
    obtain ⟨hke, hD⟩ := I.done hla
    obtain ⟨hb0, hlo0, hh0, hr0⟩ := hD 0 (by decide)
    obtain ⟨hb1, hlo1, hh1, hr1⟩ := hD 1 (by decide)
    obtain ⟨b0, wa, hro0, hfa0, hpa0⟩ := I.call 0 (by decide) (hla 1 (by decide))
    obtain ⟨b1, wb, hro1, hfa1, hpa1⟩ := I.call 1 (by decide) (hla 3 (by decide))
    have hP00 := hpa0 0 (by decide) (hla 4 (by decide))
    have hP01 := hpa0 1 (by decide) (hla 5 (by decide))
    have hP10 := hpa1 0 (by decide) (hla 4 (by decide))
    have hP11 := hpa1 1 (by decide) (hla 5 (by decide))
    have hft0 := (I.box 0 (by decide) (hla 4 (by decide))).2.2
    have hft1 := (I.box 1 (by decide) (hla 5 (by decide))).2.2
    have hne := I.ne 0 (by decide) 1 (by decide) (by decide) (hla 4 (by decide)) (hla 5 (by decide))
    rw [two0] at hr0 hro0
    rw [two1] at hr1 hro1
    obtain ⟨A_a, c_a, B_a, d_a, hv0, hB_a⟩ := hh0.rr hr0
    obtain ⟨A_b, c_b, B_b, d_b, hv1, hB_b⟩ := hh1.rr hr1
    rw [hv0] at hr0 hro0
    rw [hv1] at hr1 hro1
    rw [hb0, hb1]
    generalize P 0 = p0 at *
    generalize P 1 = p1 at *
    generalize vl 0 = z0 at *
    generalize vl 1 = z1 at *
    generalize vc 0 = z2 at *
    generalize vc 1 = z3 at *
    clear hl I hD hb0 hb1 hh0 hh1 hv0 hv1 vl vc vb P hla hpa0 hpa1 l
    refine ⟨?_⟩
    simp only [Act.put, List.setIfInBounds_toArray, List.set_cons_zero, List.set_cons_succ]
    clear h8
    have hpx := HPX.out
    have hx0 := hke.2.2.2
    have hc0 := hke.2.2.1
    have hpx0 : p0 ≠ w3.heap.size := by omega
    have hpx1 : p1 ≠ w3.heap.size := by omega
    have hpc0 : p0 ≠ w.heap.size + 1 := by omega
    have hpc1 : p1 ≠ w.heap.size + 1 := by omega
    have hne' : p1 ≠ p0 := fun e => hne e.symm
    have HKB := Aside.mk hkb
    have HKA : Aside (okq q_a = true) := ⟨by rw [← HQA.out]; rfl⟩
    have HFA : Aside (q_a.f = 11) := ⟨by rw [← HQA.out]; rfl⟩
    clear hkb
    go_upto_if 40 with fail
    go_cut [10] from 41 to 42 (fun s10 wx => s10 = .pointer (some ⟨p0, 0, none⟩) ∧ CutA w w3.heap.size p0 p1 (.int .i64 cf) (.bool co) 11 (leastq q_a.f q_b.f) wx)
    case first =>
      cases fl
      · go_wp2
        go_meet
        exact ⟨rfl, q_a, q_b, _, _, _, _, _, _, _, _, hke.1.out, hB_a, hB_b, hc0, hx0, hr0, hr1, HKA.out, HKB.out, rfl⟩
      · obtain ⟨_, _, _, _, _, hf00, hf01, hf02, hf03⟩ := hft0
        obtain ⟨_, _, _, _, _, hf10, hf11, hf12, hf13⟩ := hft1
        have HLO : Aside (w.heap.size ≤ p0 ∧ w.heap.size ≤ p1) := ⟨by omega⟩
        have HNE := Aside.mk hne
        have HFR := Aside.mk (hro1.far ((hfa1.four hP10 (.int .i64 q_b.f) (.bool q_b.neg) (.slice A_b q_b.num.length c_b) (.slice B_b q_b.den.length d_b)).four hP11 (.int .i64 11) (.bool false) (.slice none 0 0) (.slice none 0 0))).rr
        clear hro0 hro1 hfa0 hfa1 hP00 hP01 hP10 hP11 hlo0 hlo1 hpx hne hr0 hr1
        have HKE := Aside.mk hke
        have HBA := Aside.mk hB_a
        have HBB := Aside.mk hB_b
        clear hke
        go_wp2
        go_meet
        refine ⟨rfl, q_b, fq 11, _, _, _, _, _, _, _, _, ?_, ?_, ?_, ?_, ?_, HFR.out, RO.rr (RO.fq 0 _ 11), HKB.out, rfl, ?_⟩
        · exact ext_set4 (ext_set4 HKE.out.1.out HLO.out.1 _ _ _ _) HLO.out.2 _ _ _ _
        · exact (set4_same HBA.out _ _ _ _).four (fun e => HNE.out e.symm) _ _ _ _
        · exact set4_same (HBB.out.four HNE.out _ _ _ _) _ _ _ _
        · exact (HKE.out.2.2.1.four hpc0 _ _ _ _).four hpc1 _ _ _ _
        · exact (HKE.out.2.2.2.four hpx0 _ _ _ _).four hpx1 _ _ _ _
        · rw [leastq_sym, ← HQA.out]
    case rest =>
      clear hB_a hB_b hr0 hr1 hro0 hro1 hfa0 hfa1 hP00 hP01 hP10 hP11 hft0 hft1 hke hx0 hc0 hlo0 hlo1 hne hne' hpx0 hpx1 hpc0 hpc1 hpx HPX
      unfold CutA at hcut
      obtain ⟨rfl, q1, q2, A1, k1, B1, d1, A2, k2, B2, d2, he1, hB_a, hB_b, hB_c, hB_x, hr1, hr2, hk1, hk2, hls⟩ := hcut
      have HE1 := Aside.mk he1
      have HX := Aside.mk (Ext.refl wc)
      have HR_a := Aside.mk hr1
      have HR_b := Aside.mk hr2
      have HR_x : Aside (RR wc (.agg #[.int .i64 11, .bool false, .slice none 0 0, .slice none 0 0]) (fq 11)) := ⟨RO.rr (RO.fq 0 _ 11)⟩
      rw [HFA.out] at hls
      have hqf := okq_f HKB.out
      clear he1 hr1 hr2 HKB HKA HFA
      clear HQA
      by_cases h4 : q_b.f = 4
      · have hl : leastq q1.f q2.f = 4 := by rw [hls, h4]; rfl
        clear hls hqf h4
        have HM : Aside (∀ res, madeq q1 q2 res = (fq 4, 0)) := ⟨madeq_fault hk1 hk2 hl (by decide)⟩
        have HMX : Aside (∀ res, madeq (fq 11) (fq 11) res = (fq 11, 0)) := ⟨madeq_fault rfl rfl rfl (by decide)⟩
        have HMB : Aside (∀ is, askq q1 q2 is = ((4, false), 0)) := ⟨askq_fault hk1 hk2 hl (by decide)⟩
        clear hl hk1 hk2
        go_upto_region 18 with (first | (go_at_call 35; with_reducible refine (fault2 (Add2_calls HR_a.out HR_b.out rfl) (HM.out _)).mono ?_; rintro e w101 ⟨A_s, c_s, B_s, d_s, rfl, he0⟩; have he := he0.alloc (.cells #[.int .i64 4, .bool false, .slice A_s 0 c_s, .slice B_s 0 d_s] 26); replace HX := Aside.mk (HX.out.trans he); replace hB_x := Four.ext he hB_x; replace hB_a := Four.ext he hB_a; replace hB_b := Four.ext he hB_b; replace hB_c := Two.ext he hB_c; replace HR_a := Aside.mk (HR_a.out.ext he); replace HR_b := Aside.mk (HR_b.out.ext he); replace HR_x := Aside.mk (HR_x.out.ext he); have hB_s := four_new w101 (.int .i64 4) (.bool false) (.slice A_s 0 c_s) (.slice B_s 0 d_s) 26; clear he0 he) | (go_at_call 36; with_reducible refine (fault2 (Sub2_calls HR_a.out HR_b.out rfl) (HM.out _)).mono ?_; rintro e w102 ⟨A_d, c_d, B_d, d_d, rfl, he0⟩; have he := he0.alloc (.cells #[.int .i64 4, .bool false, .slice A_d 0 c_d, .slice B_d 0 d_d] 26); replace HX := Aside.mk (HX.out.trans he); replace hB_x := Four.ext he hB_x; replace hB_a := Four.ext he hB_a; replace hB_b := Four.ext he hB_b; replace hB_c := Two.ext he hB_c; replace hB_s := Four.ext he hB_s; replace HR_a := Aside.mk (HR_a.out.ext he); replace HR_b := Aside.mk (HR_b.out.ext he); replace HR_x := Aside.mk (HR_x.out.ext he); have hB_d := four_new w102 (.int .i64 4) (.bool false) (.slice A_d 0 c_d) (.slice B_d 0 d_d) 26; clear he0 he) | (go_at_call 39; with_reducible refine (fault2 (Mul2_calls HR_a.out HR_b.out rfl) (HM.out _)).mono ?_; rintro e w103 ⟨A_p, c_p, B_p, d_p, rfl, he0⟩; have he := he0.alloc (.cells #[.int .i64 4, .bool false, .slice A_p 0 c_p, .slice B_p 0 d_p] 26); replace HX := Aside.mk (HX.out.trans he); replace hB_x := Four.ext he hB_x; replace hB_a := Four.ext he hB_a; replace hB_b := Four.ext he hB_b; replace hB_c := Two.ext he hB_c; replace hB_s := Four.ext he hB_s; replace hB_d := Four.ext he hB_d; replace HR_a := Aside.mk (HR_a.out.ext he); replace HR_b := Aside.mk (HR_b.out.ext he); replace HR_x := Aside.mk (HR_x.out.ext he); have hB_p := four_new w103 (.int .i64 4) (.bool false) (.slice A_p 0 c_p) (.slice B_p 0 d_p) 26; clear he0 he) | (go_at_call 40; with_reducible refine (fault2 (Div2_calls HR_a.out HR_b.out rfl) (HM.out _)).mono ?_; rintro e w104 ⟨A_q, c_q, B_q, d_q, rfl, he0⟩; have he := he0.alloc (.cells #[.int .i64 4, .bool false, .slice A_q 0 c_q, .slice B_q 0 d_q] 26); replace HX := Aside.mk (HX.out.trans he); replace hB_x := Four.ext he hB_x; replace hB_a := Four.ext he hB_a; replace hB_b := Four.ext he hB_b; replace hB_c := Two.ext he hB_c; replace hB_s := Four.ext he hB_s; replace hB_d := Four.ext he hB_d; replace hB_p := Four.ext he hB_p; replace HR_a := Aside.mk (HR_a.out.ext he); replace HR_b := Aside.mk (HR_b.out.ext he); replace HR_x := Aside.mk (HR_x.out.ext he); have hB_q := four_new w104 (.int .i64 4) (.bool false) (.slice A_q 0 c_q) (.slice B_q 0 d_q) 26; clear he0 he) | (go_at_call 43; with_reducible refine (fault2 (Neg2_calls HR_x.out rfl) (HMX.out _)).mono ?_; rintro e w105 ⟨A_n, c_n, B_n, d_n, rfl, he0⟩; have he := he0.alloc (.cells #[.int .i64 11, .bool false, .slice A_n 0 c_n, .slice B_n 0 d_n] 26); replace HX := Aside.mk (HX.out.trans he); replace hB_x := Four.ext he hB_x; replace hB_a := Four.ext he hB_a; replace hB_b := Four.ext he hB_b; replace hB_c := Two.ext he hB_c; replace hB_s := Four.ext he hB_s; replace hB_d := Four.ext he hB_d; replace hB_p := Four.ext he hB_p; replace hB_q := Four.ext he hB_q; replace HR_a := Aside.mk (HR_a.out.ext he); replace HR_b := Aside.mk (HR_b.out.ext he); replace HR_x := Aside.mk (HR_x.out.ext he); have hB_n := four_new w105 (.int .i64 11) (.bool false) (.slice A_n 0 c_n) (.slice B_n 0 d_n) 26; clear he0 he) | (go_at_call 45; with_reducible refine (fault2 (Floor2_calls HR_x.out rfl) (HMX.out _)).mono ?_; rintro e w106 ⟨A_w, c_w, B_w, d_w, rfl, he0⟩; have he := he0.alloc (.cells #[.int .i64 11, .bool false, .slice A_w 0 c_w, .slice B_w 0 d_w] 26); replace HX := Aside.mk (HX.out.trans he); replace hB_x := Four.ext he hB_x; replace hB_a := Four.ext he hB_a; replace hB_b := Four.ext he hB_b; replace hB_c := Two.ext he hB_c; replace hB_s := Four.ext he hB_s; replace hB_d := Four.ext he hB_d; replace hB_p := Four.ext he hB_p; replace hB_q := Four.ext he hB_q; replace hB_n := Four.ext he hB_n; replace HR_a := Aside.mk (HR_a.out.ext he); replace HR_b := Aside.mk (HR_b.out.ext he); replace HR_x := Aside.mk (HR_x.out.ext he); have hB_w := four_new w106 (.int .i64 11) (.bool false) (.slice A_w 0 c_w) (.slice B_w 0 d_w) 26; clear he0 he) | (go_at_call 56; with_reducible refine (Less2_calls HR_a.out HR_b.out (HMB.out _)).mono ?_; rintro e w107 ⟨rfl, he0⟩; have he := he0.alloc (.cells #[.int .i64 4, .bool false] 55); replace HX := Aside.mk (HX.out.trans he); replace hB_x := Four.ext he hB_x; replace hB_a := Four.ext he hB_a; replace hB_b := Four.ext he hB_b; replace hB_c := Two.ext he hB_c; replace hB_s := Four.ext he hB_s; replace hB_d := Four.ext he hB_d; replace hB_p := Four.ext he hB_p; replace hB_q := Four.ext he hB_q; replace hB_n := Four.ext he hB_n; replace hB_w := Four.ext he hB_w; replace HR_a := Aside.mk (HR_a.out.ext he); replace HR_b := Aside.mk (HR_b.out.ext he); replace HR_x := Aside.mk (HR_x.out.ext he); have hB_l := two_new w107 (.int .i64 4) (.bool false) 55; clear he0 he) | (go_at_call 57; with_reducible refine (Same2_calls HR_a.out HR_b.out (HMB.out _)).mono ?_; rintro e w108 ⟨rfl, he0⟩; have he := he0.alloc (.cells #[.int .i64 4, .bool false] 55); replace HX := Aside.mk (HX.out.trans he); replace hB_x := Four.ext he hB_x; replace hB_a := Four.ext he hB_a; replace hB_b := Four.ext he hB_b; replace hB_c := Two.ext he hB_c; replace hB_s := Four.ext he hB_s; replace hB_d := Four.ext he hB_d; replace hB_p := Four.ext he hB_p; replace hB_q := Four.ext he hB_q; replace hB_n := Four.ext he hB_n; replace hB_w := Four.ext he hB_w; replace hB_l := Two.ext he hB_l; replace HR_a := Aside.mk (HR_a.out.ext he); replace HR_b := Aside.mk (HR_b.out.ext he); replace HR_x := Aside.mk (HR_x.out.ext he); have hB_m := two_new w108 (.int .i64 4) (.bool false) 55; clear he0 he))
        go_cut [28] from 12 to 135 (fun s28 wx => ∃ g, s28 = .slice (some ⟨g, 0, none⟩) 8 8 ∧ KG w w g w3.heap.size (.int .i64 cf) (.bool co) 11 4 wx)
        case first =>
          go_wp2
          go_meet
          refine ⟨_, rfl, ⟨HE1.out.trans (HX.out.alloc _)⟩, hB_c.ext ((Ext.refl _).alloc _), hB_x.ext ((Ext.refl _).alloc _), ⟨?_⟩⟩
          intro k hk
          rcases (show k = 0 ∨ k = 1 ∨ k = 2 ∨ k = 3 ∨ k = 4 ∨ k = 5 ∨ k = 6 ∨ k = 7 by omega) with rfl | rfl | rfl | rfl | rfl | rfl | rfl | rfl <;> first | exact .inl (cell_new (by simp) rfl) | exact .inr (cell_new (by simp) rfl)
        case rest =>
          clear hB_a hB_b hB_c hB_x hB_s hB_d hB_p hB_q hB_n hB_w hB_l hB_m HR_a HR_b HR_x HX HM HMX HMB
          obtain ⟨g, rfl, hkg⟩ := hcut
          go_wp2
          go_loopw [29] (fun i wr => ∃ k : Nat, k ≤ 8 ∧ i = .int .i64 (k : Int) ∧ KG w w g w3.heap.size (.int .i64 cf) (.bool co) 11 4 wr) (fun i _ => 8 - (intOf i).toNat)
          case atStart => exact ⟨0, by omega, rfl, hkg⟩
          case round =>
            clear hkg
            obtain ⟨k, hk, rfl, hkg⟩ := hrel
            by_cases hlt : k < 8
            · rcases hkg.2.2.2.out k hlt with hcell | hcell
              all_goals
                have HKG := Aside.mk hkg
                have hB_x := hkg.2.2.1
                clear hkg
                go_wp2_with fail
                go_quiet (fail)
                go_wp2
                go_roundw
                case rel => exact ⟨k + 1, by omega, by go_num, KG.ext (Ext.of_drewN ⟨_, rfl⟩) HKG.out⟩
                case measure => simp [intOf]; omega
            · have HE1 := hkg.1
              have HX := Aside.mk (Ext.refl wr)
              have hB_c := hkg.2.1
              have hB_x := hkg.2.2.1
              clear hkg
              cases hkb : okb cf co
              · have HKB := Aside.mk hkb
                clear hkb
                go_wp2_with (first | (go_at_call 48; with_reducible refine (risbit_calls HKB.out).mono ?_; rintro e w301 ⟨rfl, he⟩; replace HX := Aside.mk (HX.out.trans he); replace hB_x := Four.ext he hB_x; replace hB_c := Two.ext he hB_c; clear he) | (go_at_call 23; with_reducible refine (alive_calls (HG.out.ext (HE1.out.trans HX.out))).mono ?_; rintro e w99 ⟨rfl, he⟩; have HEND := Aside.mk ((HE1.out.trans HX.out).trans he); clear he))
                go_ret
                exact ⟨rfl, HEND.out⟩
              · have HKB := Aside.mk hkb
                obtain ⟨lc, hlc⟩ : ∃ l, leastq 11 cf = l := ⟨_, rfl⟩
                have hlc0 : lc ≠ 0 := by
                  rw [← hlc]; unfold leastq
                  split <;> rename_i h
                  · omega
                  · decide
                have HMC : Aside (∀ is, bitq 11 cf false co is = ((lc, false), 0)) := ⟨bitq_fault rfl hkb hlc hlc0⟩
                have HMD : Aside (∀ is, bitq cf 11 co false is = ((lc, false), 0)) := ⟨bitq_fault hkb rfl (by rw [leastq_sym]; exact hlc) hlc0⟩
                have HMN : Aside (bitq 11 11 false false (!false) = ((11, false), 0)) := ⟨rfl⟩
                have HLC := Aside.mk hlc
                clear hkb hlc hlc0
                go_upto_region 30 with (first | (go_at_call 48; with_reducible refine (risbit_calls HKB.out).mono ?_; rintro e w201 ⟨rfl, he⟩; replace HX := Aside.mk (HX.out.trans he); replace hB_x := Four.ext he hB_x; replace hB_c := Two.ext he hB_c; clear he; have he := (Ext.refl w201).alloc (.cells #[.int .i64 11, .bool false] 55); have hD_x := Four.ext he hB_x; have hD_c := Two.ext he hB_c; have HD := Aside.mk (HX.out.trans he); have hB_bit := two_new w201 (.int .i64 11) (.bool false) 55; clear he) | (go_at_call 60; with_reducible refine (and2_calls (HMC.out _)).mono ?_; rintro e w202 ⟨rfl, he0⟩; clear hB_x hB_c HX; have hB_x := hD_x; have hB_c := hD_c; have HX := HD; clear hD_x hD_c HD; have he := he0.alloc (.cells #[.int .i64 lc, .bool false] 55); replace HX := Aside.mk (HX.out.trans he); replace hB_x := Four.ext he hB_x; replace hB_c := Two.ext he hB_c; replace hB_bit := Two.ext he hB_bit; have hB_y := two_new w202 (.int .i64 lc) (.bool false) 55; clear he0 he) | (go_at_call 61; with_reducible refine (or2_calls (HMD.out _)).mono ?_; rintro e w203 ⟨rfl, he0⟩; have he := he0.alloc (.cells #[.int .i64 lc, .bool false] 55); replace HX := Aside.mk (HX.out.trans he); replace hB_x := Four.ext he hB_x; replace hB_c := Two.ext he hB_c; replace hB_bit := Two.ext he hB_bit; replace hB_y := Two.ext he hB_y; have hB_z := two_new w203 (.int .i64 lc) (.bool false) 55; clear he0 he) | (go_at_call 51; with_reducible refine (not2_calls HMN.out).mono ?_; rintro e w204 ⟨rfl, he0⟩; have he := he0.alloc (.cells #[.int .i64 11, .bool false] 55); replace HX := Aside.mk (HX.out.trans he); replace hB_x := Four.ext he hB_x; replace hB_c := Two.ext he hB_c; replace hB_bit := Two.ext he hB_bit; replace hB_y := Two.ext he hB_y; replace hB_z := Two.ext he hB_z; have hB_u := two_new w204 (.int .i64 11) (.bool false) 55; clear he0 he))
                generalize hW : w204.alloc _ = W0 at *
                have hkd : KH W0 w3.heap.size (w.heap.size + 1) w201.heap.size w202.heap.size w203.heap.size w204.heap.size 11 cf co lc W0 := ⟨⟨Ext.refl _⟩, hB_x, hB_c, hB_bit, hB_y, hB_z, hB_u⟩
                have hkd' := KH.ext (Ext.refl _).drew hkd
                have HG2 := Aside.mk (HG.out.ext (HE1.out.trans HX.out))
                clear hkd hW hB_x hB_c hB_bit hB_y hB_z hB_u HMC HMD HMN HKB
                go_region_held (fun w' => KH W0 w3.heap.size (w.heap.size + 1) w201.heap.size w202.heap.size w203.heap.size w204.heap.size 11 cf co lc w') (first | assumption | exact KH.ext (by assumption) (by assumption)) (first | (go_at_call 65; with_reducible refine (rleast_calls HLC.out).mono ?_; rintro e w205 ⟨rfl, rfl⟩) | (go_at_call 23; with_reducible refine (alive_calls (HG2.out.ext (Aside.out (And.left (show KH W0 w3.heap.size (w.heap.size + 1) w201.heap.size w202.heap.size w203.heap.size w204.heap.size 11 cf co lc _ from by assumption))))).mono ?_; rintro e w206 ⟨rfl, he2⟩))
                have HEND := Aside.mk ((HE1.out.trans HX.out).trans (KH.ext he2 hkd').1.out)
                clear hkd' he2
                go_wp2
                go_ret
                exact ⟨rfl, HEND.out⟩
      · have hl : leastq q1.f q2.f = 11 := by
          rw [hls]
          rcases hqf with h | h | h
          · rw [h]; rfl
          · exact absurd h h4
          · rw [h]; rfl
        clear hls hqf h4
        have HM : Aside (∀ res, madeq q1 q2 res = (fq 11, 0)) := ⟨madeq_fault hk1 hk2 hl (by decide)⟩
        have HMX : Aside (∀ res, madeq (fq 11) (fq 11) res = (fq 11, 0)) := ⟨madeq_fault rfl rfl rfl (by decide)⟩
        have HMB : Aside (∀ is, askq q1 q2 is = ((11, false), 0)) := ⟨askq_fault hk1 hk2 hl (by decide)⟩
        clear hl hk1 hk2
        go_upto_region 18 with (first | (go_at_call 35; with_reducible refine (fault2 (Add2_calls HR_a.out HR_b.out rfl) (HM.out _)).mono ?_; rintro e w101 ⟨A_s, c_s, B_s, d_s, rfl, he0⟩; have he := he0.alloc (.cells #[.int .i64 11, .bool false, .slice A_s 0 c_s, .slice B_s 0 d_s] 26); replace HX := Aside.mk (HX.out.trans he); replace hB_x := Four.ext he hB_x; replace hB_a := Four.ext he hB_a; replace hB_b := Four.ext he hB_b; replace hB_c := Two.ext he hB_c; replace HR_a := Aside.mk (HR_a.out.ext he); replace HR_b := Aside.mk (HR_b.out.ext he); replace HR_x := Aside.mk (HR_x.out.ext he); have hB_s := four_new w101 (.int .i64 11) (.bool false) (.slice A_s 0 c_s) (.slice B_s 0 d_s) 26; clear he0 he) | (go_at_call 36; with_reducible refine (fault2 (Sub2_calls HR_a.out HR_b.out rfl) (HM.out _)).mono ?_; rintro e w102 ⟨A_d, c_d, B_d, d_d, rfl, he0⟩; have he := he0.alloc (.cells #[.int .i64 11, .bool false, .slice A_d 0 c_d, .slice B_d 0 d_d] 26); replace HX := Aside.mk (HX.out.trans he); replace hB_x := Four.ext he hB_x; replace hB_a := Four.ext he hB_a; replace hB_b := Four.ext he hB_b; replace hB_c := Two.ext he hB_c; replace hB_s := Four.ext he hB_s; replace HR_a := Aside.mk (HR_a.out.ext he); replace HR_b := Aside.mk (HR_b.out.ext he); replace HR_x := Aside.mk (HR_x.out.ext he); have hB_d := four_new w102 (.int .i64 11) (.bool false) (.slice A_d 0 c_d) (.slice B_d 0 d_d) 26; clear he0 he) | (go_at_call 39; with_reducible refine (fault2 (Mul2_calls HR_a.out HR_b.out rfl) (HM.out _)).mono ?_; rintro e w103 ⟨A_p, c_p, B_p, d_p, rfl, he0⟩; have he := he0.alloc (.cells #[.int .i64 11, .bool false, .slice A_p 0 c_p, .slice B_p 0 d_p] 26); replace HX := Aside.mk (HX.out.trans he); replace hB_x := Four.ext he hB_x; replace hB_a := Four.ext he hB_a; replace hB_b := Four.ext he hB_b; replace hB_c := Two.ext he hB_c; replace hB_s := Four.ext he hB_s; replace hB_d := Four.ext he hB_d; replace HR_a := Aside.mk (HR_a.out.ext he); replace HR_b := Aside.mk (HR_b.out.ext he); replace HR_x := Aside.mk (HR_x.out.ext he); have hB_p := four_new w103 (.int .i64 11) (.bool false) (.slice A_p 0 c_p) (.slice B_p 0 d_p) 26; clear he0 he) | (go_at_call 40; with_reducible refine (fault2 (Div2_calls HR_a.out HR_b.out rfl) (HM.out _)).mono ?_; rintro e w104 ⟨A_q, c_q, B_q, d_q, rfl, he0⟩; have he := he0.alloc (.cells #[.int .i64 11, .bool false, .slice A_q 0 c_q, .slice B_q 0 d_q] 26); replace HX := Aside.mk (HX.out.trans he); replace hB_x := Four.ext he hB_x; replace hB_a := Four.ext he hB_a; replace hB_b := Four.ext he hB_b; replace hB_c := Two.ext he hB_c; replace hB_s := Four.ext he hB_s; replace hB_d := Four.ext he hB_d; replace hB_p := Four.ext he hB_p; replace HR_a := Aside.mk (HR_a.out.ext he); replace HR_b := Aside.mk (HR_b.out.ext he); replace HR_x := Aside.mk (HR_x.out.ext he); have hB_q := four_new w104 (.int .i64 11) (.bool false) (.slice A_q 0 c_q) (.slice B_q 0 d_q) 26; clear he0 he) | (go_at_call 43; with_reducible refine (fault2 (Neg2_calls HR_x.out rfl) (HMX.out _)).mono ?_; rintro e w105 ⟨A_n, c_n, B_n, d_n, rfl, he0⟩; have he := he0.alloc (.cells #[.int .i64 11, .bool false, .slice A_n 0 c_n, .slice B_n 0 d_n] 26); replace HX := Aside.mk (HX.out.trans he); replace hB_x := Four.ext he hB_x; replace hB_a := Four.ext he hB_a; replace hB_b := Four.ext he hB_b; replace hB_c := Two.ext he hB_c; replace hB_s := Four.ext he hB_s; replace hB_d := Four.ext he hB_d; replace hB_p := Four.ext he hB_p; replace hB_q := Four.ext he hB_q; replace HR_a := Aside.mk (HR_a.out.ext he); replace HR_b := Aside.mk (HR_b.out.ext he); replace HR_x := Aside.mk (HR_x.out.ext he); have hB_n := four_new w105 (.int .i64 11) (.bool false) (.slice A_n 0 c_n) (.slice B_n 0 d_n) 26; clear he0 he) | (go_at_call 45; with_reducible refine (fault2 (Floor2_calls HR_x.out rfl) (HMX.out _)).mono ?_; rintro e w106 ⟨A_w, c_w, B_w, d_w, rfl, he0⟩; have he := he0.alloc (.cells #[.int .i64 11, .bool false, .slice A_w 0 c_w, .slice B_w 0 d_w] 26); replace HX := Aside.mk (HX.out.trans he); replace hB_x := Four.ext he hB_x; replace hB_a := Four.ext he hB_a; replace hB_b := Four.ext he hB_b; replace hB_c := Two.ext he hB_c; replace hB_s := Four.ext he hB_s; replace hB_d := Four.ext he hB_d; replace hB_p := Four.ext he hB_p; replace hB_q := Four.ext he hB_q; replace hB_n := Four.ext he hB_n; replace HR_a := Aside.mk (HR_a.out.ext he); replace HR_b := Aside.mk (HR_b.out.ext he); replace HR_x := Aside.mk (HR_x.out.ext he); have hB_w := four_new w106 (.int .i64 11) (.bool false) (.slice A_w 0 c_w) (.slice B_w 0 d_w) 26; clear he0 he) | (go_at_call 56; with_reducible refine (Less2_calls HR_a.out HR_b.out (HMB.out _)).mono ?_; rintro e w107 ⟨rfl, he0⟩; have he := he0.alloc (.cells #[.int .i64 11, .bool false] 55); replace HX := Aside.mk (HX.out.trans he); replace hB_x := Four.ext he hB_x; replace hB_a := Four.ext he hB_a; replace hB_b := Four.ext he hB_b; replace hB_c := Two.ext he hB_c; replace hB_s := Four.ext he hB_s; replace hB_d := Four.ext he hB_d; replace hB_p := Four.ext he hB_p; replace hB_q := Four.ext he hB_q; replace hB_n := Four.ext he hB_n; replace hB_w := Four.ext he hB_w; replace HR_a := Aside.mk (HR_a.out.ext he); replace HR_b := Aside.mk (HR_b.out.ext he); replace HR_x := Aside.mk (HR_x.out.ext he); have hB_l := two_new w107 (.int .i64 11) (.bool false) 55; clear he0 he) | (go_at_call 57; with_reducible refine (Same2_calls HR_a.out HR_b.out (HMB.out _)).mono ?_; rintro e w108 ⟨rfl, he0⟩; have he := he0.alloc (.cells #[.int .i64 11, .bool false] 55); replace HX := Aside.mk (HX.out.trans he); replace hB_x := Four.ext he hB_x; replace hB_a := Four.ext he hB_a; replace hB_b := Four.ext he hB_b; replace hB_c := Two.ext he hB_c; replace hB_s := Four.ext he hB_s; replace hB_d := Four.ext he hB_d; replace hB_p := Four.ext he hB_p; replace hB_q := Four.ext he hB_q; replace hB_n := Four.ext he hB_n; replace hB_w := Four.ext he hB_w; replace hB_l := Two.ext he hB_l; replace HR_a := Aside.mk (HR_a.out.ext he); replace HR_b := Aside.mk (HR_b.out.ext he); replace HR_x := Aside.mk (HR_x.out.ext he); have hB_m := two_new w108 (.int .i64 11) (.bool false) 55; clear he0 he))
        go_cut [28] from 12 to 135 (fun s28 wx => ∃ g, s28 = .slice (some ⟨g, 0, none⟩) 8 8 ∧ KG w w g w3.heap.size (.int .i64 cf) (.bool co) 11 11 wx)
        case first =>
          go_wp2
          go_meet
          refine ⟨_, rfl, ⟨HE1.out.trans (HX.out.alloc _)⟩, hB_c.ext ((Ext.refl _).alloc _), hB_x.ext ((Ext.refl _).alloc _), ⟨?_⟩⟩
          intro k hk
          rcases (show k = 0 ∨ k = 1 ∨ k = 2 ∨ k = 3 ∨ k = 4 ∨ k = 5 ∨ k = 6 ∨ k = 7 by omega) with rfl | rfl | rfl | rfl | rfl | rfl | rfl | rfl <;> first | exact .inl (cell_new (by simp) rfl) | exact .inr (cell_new (by simp) rfl)
        case rest =>
          clear hB_a hB_b hB_c hB_x hB_s hB_d hB_p hB_q hB_n hB_w hB_l hB_m HR_a HR_b HR_x HX HM HMX HMB
          obtain ⟨g, rfl, hkg⟩ := hcut
          go_wp2
          go_loopw [29] (fun i wr => ∃ k : Nat, k ≤ 8 ∧ i = .int .i64 (k : Int) ∧ KG w w g w3.heap.size (.int .i64 cf) (.bool co) 11 11 wr) (fun i _ => 8 - (intOf i).toNat)
          case atStart => exact ⟨0, by omega, rfl, hkg⟩
          case round =>
            clear hkg
            obtain ⟨k, hk, rfl, hkg⟩ := hrel
            by_cases hlt : k < 8
            · rcases hkg.2.2.2.out k hlt with hcell | hcell
              all_goals
                have HKG := Aside.mk hkg
                have hB_x := hkg.2.2.1
                clear hkg
                go_wp2_with fail
                go_quiet (fail)
                go_wp2
                go_roundw
                case rel => exact ⟨k + 1, by omega, by go_num, KG.ext (Ext.of_drewN ⟨_, rfl⟩) HKG.out⟩
                case measure => simp [intOf]; omega
            · have HE1 := hkg.1
              have HX := Aside.mk (Ext.refl wr)
              have hB_c := hkg.2.1
              have hB_x := hkg.2.2.1
              clear hkg
              cases hkb : okb cf co
              · have HKB := Aside.mk hkb
                clear hkb
                go_wp2_with (first | (go_at_call 48; with_reducible refine (risbit_calls HKB.out).mono ?_; rintro e w301 ⟨rfl, he⟩; replace HX := Aside.mk (HX.out.trans he); replace hB_x := Four.ext he hB_x; replace hB_c := Two.ext he hB_c; clear he) | (go_at_call 23; with_reducible refine (alive_calls (HG.out.ext (HE1.out.trans HX.out))).mono ?_; rintro e w99 ⟨rfl, he⟩; have HEND := Aside.mk ((HE1.out.trans HX.out).trans he); clear he))
                go_ret
                exact ⟨rfl, HEND.out⟩
              · have HKB := Aside.mk hkb
                obtain ⟨lc, hlc⟩ : ∃ l, leastq 11 cf = l := ⟨_, rfl⟩
                have hlc0 : lc ≠ 0 := by
                  rw [← hlc]; unfold leastq
                  split <;> rename_i h
                  · omega
                  · decide
                have HMC : Aside (∀ is, bitq 11 cf false co is = ((lc, false), 0)) := ⟨bitq_fault rfl hkb hlc hlc0⟩
                have HMD : Aside (∀ is, bitq cf 11 co false is = ((lc, false), 0)) := ⟨bitq_fault hkb rfl (by rw [leastq_sym]; exact hlc) hlc0⟩
                have HMN : Aside (bitq 11 11 false false (!false) = ((11, false), 0)) := ⟨rfl⟩
                have HLC := Aside.mk hlc
                clear hkb hlc hlc0
                go_upto_region 30 with (first | (go_at_call 48; with_reducible refine (risbit_calls HKB.out).mono ?_; rintro e w201 ⟨rfl, he⟩; replace HX := Aside.mk (HX.out.trans he); replace hB_x := Four.ext he hB_x; replace hB_c := Two.ext he hB_c; clear he; have he := (Ext.refl w201).alloc (.cells #[.int .i64 11, .bool false] 55); have hD_x := Four.ext he hB_x; have hD_c := Two.ext he hB_c; have HD := Aside.mk (HX.out.trans he); have hB_bit := two_new w201 (.int .i64 11) (.bool false) 55; clear he) | (go_at_call 60; with_reducible refine (and2_calls (HMC.out _)).mono ?_; rintro e w202 ⟨rfl, he0⟩; clear hB_x hB_c HX; have hB_x := hD_x; have hB_c := hD_c; have HX := HD; clear hD_x hD_c HD; have he := he0.alloc (.cells #[.int .i64 lc, .bool false] 55); replace HX := Aside.mk (HX.out.trans he); replace hB_x := Four.ext he hB_x; replace hB_c := Two.ext he hB_c; replace hB_bit := Two.ext he hB_bit; have hB_y := two_new w202 (.int .i64 lc) (.bool false) 55; clear he0 he) | (go_at_call 61; with_reducible refine (or2_calls (HMD.out _)).mono ?_; rintro e w203 ⟨rfl, he0⟩; have he := he0.alloc (.cells #[.int .i64 lc, .bool false] 55); replace HX := Aside.mk (HX.out.trans he); replace hB_x := Four.ext he hB_x; replace hB_c := Two.ext he hB_c; replace hB_bit := Two.ext he hB_bit; replace hB_y := Two.ext he hB_y; have hB_z := two_new w203 (.int .i64 lc) (.bool false) 55; clear he0 he) | (go_at_call 51; with_reducible refine (not2_calls HMN.out).mono ?_; rintro e w204 ⟨rfl, he0⟩; have he := he0.alloc (.cells #[.int .i64 11, .bool false] 55); replace HX := Aside.mk (HX.out.trans he); replace hB_x := Four.ext he hB_x; replace hB_c := Two.ext he hB_c; replace hB_bit := Two.ext he hB_bit; replace hB_y := Two.ext he hB_y; replace hB_z := Two.ext he hB_z; have hB_u := two_new w204 (.int .i64 11) (.bool false) 55; clear he0 he))
                generalize hW : w204.alloc _ = W0 at *
                have hkd : KH W0 w3.heap.size (w.heap.size + 1) w201.heap.size w202.heap.size w203.heap.size w204.heap.size 11 cf co lc W0 := ⟨⟨Ext.refl _⟩, hB_x, hB_c, hB_bit, hB_y, hB_z, hB_u⟩
                have hkd' := KH.ext (Ext.refl _).drew hkd
                have HG2 := Aside.mk (HG.out.ext (HE1.out.trans HX.out))
                clear hkd hW hB_x hB_c hB_bit hB_y hB_z hB_u HMC HMD HMN HKB
                go_region_held (fun w' => KH W0 w3.heap.size (w.heap.size + 1) w201.heap.size w202.heap.size w203.heap.size w204.heap.size 11 cf co lc w') (first | assumption | exact KH.ext (by assumption) (by assumption)) (first | (go_at_call 65; with_reducible refine (rleast_calls HLC.out).mono ?_; rintro e w205 ⟨rfl, rfl⟩) | (go_at_call 23; with_reducible refine (alive_calls (HG2.out.ext (Aside.out (And.left (show KH W0 w3.heap.size (w.heap.size + 1) w201.heap.size w202.heap.size w203.heap.size w204.heap.size 11 cf co lc _ from by assumption))))).mono ?_; rintro e w206 ⟨rfl, he2⟩))
                have HEND := Aside.mk ((HE1.out.trans HX.out).trans (KH.ext he2 hkd').1.out)
                clear hkd' he2
                go_wp2
                go_ret
                exact ⟨rfl, HEND.out⟩
  · go_enter Tryz.func15, Tryz.ntmps15
    go_upto_region 4 with (first | (go_at_call 64; refine rfault_calls.mono ?_; rintro e w3 ⟨rfl, he⟩; have hk0 := (KF.init (fx := 11) (t'' := 26) he).1; have hpx := (KF.init (fx := 11) (t'' := 26) he).2; have hf0 := Keep4.init (Ext.refl w3) (.int .i64 11) (.bool false) (.slice none 0 0) (.slice none 0 0) 26; clear he) | (go_at_call 64; refine rfault_calls.mono ?_; rintro e w4 ⟨rfl, he⟩; have hk1 := KF.ext he hk0; have hf1 := Keep4.ext he hf0; clear he hk0 hf0))
    have HK0 := Aside.mk (KF.ext (Ext.refl _).drew (KF.reset hk1 hpx 4))
    clear hk1 hf1
    have HPX := Aside.mk hpx
    have HL : Lasts (KF w w3.heap.size (.int .i64 f1) (.bool n1) (.slice AX1 nx1 cx1) (.slice AY1 ny1 cy1) (.int .i64 cf) (.bool co) 4) (w3.heap.size + 1) := ⟨fun _ _ e h => KF.ext e h, fun _ _ _ _ _ _ h k => KF.four k HPX.out h _ _ _ _⟩
    clear hpx
    obtain ⟨q_a, hqa⟩ : ∃ q, fq 4 = q := ⟨_, rfl⟩
    have HQA := Aside.mk hqa
    clear hqa
    have h8 := InvN.start (n := 2) (m := 8) (ag := two undef (.agg #[.int .i64 f1, .bool n1, .slice AX1 nx1 cx1, .slice AY1 ny1 cy1])) (q := two q_a q_b) (vl := fun _ => undef) (vc := fun _ => undef) (vb := fun _ => undef) (P := fun _ => 0) HK0.out (KF.big HK0.out)
    rw [← perm7_start] at h8
    refine wp_region_each (fun a0 l a' w' => ∃ (vl vc vb : Nat → Value) (P : Nat → Nat), a' = ((((a0.put (some 37) (vc 0)).put (some 38) (vl 1)).put (some 39) (vc 1)).put (some 10) (vb 0)).put (some 11) (vb 1) ∧
      InvN 2 (perm7 l) (KF w w3.heap.size (.int .i64 f1) (.bool n1) (.slice AX1 nx1 cx1) (.slice AY1 ny1 cy1) (.int .i64 cf) (.bool co) 4) (w3.heap.size + 1) (two undef (.agg #[.int .i64 f1, .bool n1, .slice AX1 nx1 cx1, .slice AY1 ny1 cy1])) (two q_a q_b) vl vc vb P w') (by kernel_rfl) (by kernel_rfl) ?start ?fin ?each
    case start => exact ⟨fun _ => undef, fun _ => undef, fun _ => undef, fun _ => 0, by simp only [Act.put, List.setIfInBounds_toArray, List.set_cons_zero, List.set_cons_succ], h8⟩
    case each =>
      refine Each.cons (j := 1) rfl ?s0 (Each.cons (j := 2) rfl ?s1 (Each.cons (j := 3) rfl ?s2 (Each.cons (j := 4) rfl ?s3 (Each.cons (j := 5) rfl ?s4 (Each.cons (j := 6) rfl ?s5 (Each.cons (j := 7) rfl ?s6 Each.nil))))))
      case s0 =>
        rintro l a' w' h0 - ⟨vl, vc, vb, P, rfl, I⟩
        have hk := I.keep
        intro K' hK
        simp only [Act.put, List.setIfInBounds_toArray, List.set_cons_zero, List.set_cons_succ]
        go_simp
        refine hK.out _ _ ⟨upd vl 0 _, upd vc 0 (.agg #[.int .i64 4, .bool false, .slice none 0 0, .slice none 0 0]), vb, P, ?_, by rw [perm7_zero h0]; exact (I.loads 0 (by decide)).calls HL 0 (by decide) (by rw [Go.getD_set_ne true (by decide)]; exact perm7_low h0 rfl (by decide)) (Ext.refl _) (by rw [two0, ← HQA.out]; exact RO.fq _ _ _)⟩
        simp [Act.put, List.setIfInBounds_toArray, List.set_cons_zero, List.set_cons_succ, upd]
      case s1 =>
        rintro l a' w' h0 - ⟨vl, vc, vb, P, rfl, I⟩
        have hk := I.keep
        intro K' hK
        simp only [Act.put, List.setIfInBounds_toArray, List.set_cons_zero, List.set_cons_succ]
        go_simp
        refine hK.out _ _ ⟨upd vl 1 _, vc, vb, P, ?_, by rw [perm7_set h0 rfl (by decide) (by decide)]; exact I.loads 1 (by decide)⟩
        simp [Act.put, List.setIfInBounds_toArray, List.set_cons_zero, List.set_cons_succ, upd, two1]
      case s2 =>
        rintro l a' w' h0 hd ⟨vl, vc, vb, P, rfl, I⟩
        obtain ⟨vl, rfl⟩ := upd_eta (I.load 1 (by decide) (perm7_lst (hd 1 (by decide)) rfl (by decide)))
        have HK := Aside.mk I.keep.1.out
        clear hd
        intro K' hK
        simp only [Act.put, List.setIfInBounds_toArray, List.set_cons_zero, List.set_cons_succ, upd_same, two1]
        go_simp
        go_wp2_with (go_at_call 34; with_reducible refine (tame20f (HX1.out.ext HK.out) (HY1.out.ext HK.out) HQ1.out).mono ?_; rintro e w5 ⟨r, rfl, hr, he⟩)
        refine hK.out _ _ ⟨upd vl 1 _, upd vc 1 r, vb, P, ?_, by rw [perm7_set h0 rfl (by decide) (by decide)]; exact I.calls HL 1 (by decide) (perm7_low h0 rfl (by decide)) he hr⟩
        simp [Act.put, List.setIfInBounds_toArray, List.set_cons_zero, List.set_cons_succ, upd, two1]
      case s3 =>
        rintro l a' w' h0 - ⟨vl, vc, vb, P, rfl, I⟩
        intro K' hK
        simp only [Act.put, List.setIfInBounds_toArray, List.set_cons_zero, List.set_cons_succ]
        go_simp
        refine hK.out _ _ ⟨vl, vc, upd vb 0 _, upd P 0 _, ?_, by rw [perm7_set h0 rfl (by decide) (by decide)]; exact I.allocs HL 0 (by decide) (perm7_low h0 rfl (by decide))⟩
        simp [Act.put, List.setIfInBounds_toArray, List.set_cons_zero, List.set_cons_succ, upd]
      case s4 =>
        rintro l a' w' h0 - ⟨vl, vc, vb, P, rfl, I⟩
        intro K' hK
        simp only [Act.put, List.setIfInBounds_toArray, List.set_cons_zero, List.set_cons_succ]
        go_simp
        refine hK.out _ _ ⟨vl, vc, upd vb 1 _, upd P 1 _, ?_, by rw [perm7_set h0 rfl (by decide) (by decide)]; exact I.allocs HL 1 (by decide) (perm7_low h0 rfl (by decide))⟩
        simp [Act.put, List.setIfInBounds_toArray, List.set_cons_zero, List.set_cons_succ, upd]
      case s5 =>
        rintro l a' w' h0 hd ⟨vl, vc, vb, P, rfl, I⟩
        have hb := perm7_lst (hd 3 (List.elem_iff.1 (by kernel_rfl))) rfl (by decide)
        have hc := perm7_lst (hd (2 * 0) (List.elem_iff.1 (by kernel_rfl))) rfl (by decide)
        obtain ⟨hbx, -, x0, x1, x2, x3, ⟨hx0, hx1, hx2, hx3⟩, hf0, hf1, hf2, hf3⟩ := I.box 0 (by decide) hb
        obtain ⟨_, _, hro, -⟩ := I.call 0 (by decide) hc
        obtain ⟨A3, c3, B3, d3, hv⟩ := hro.form
        have hv' := hv
        obtain ⟨vb, rfl⟩ := upd_eta hbx
        obtain ⟨vc, rfl⟩ := upd_eta hv
        clear hd hro hbx hv
        intro K' hK
        simp only [Act.put, List.setIfInBounds_toArray, List.set_cons_zero, List.set_cons_succ, upd_same]
        go_simp
        refine hK.out _ _ ⟨vl, upd vc 0 _, upd vb 0 _, P, ?_, by rw [perm7_set h0 rfl (by decide) (by decide)]; exact I.stores HL 0 (by decide) hb hc hv'⟩
        simp [Act.put, List.setIfInBounds_toArray, List.set_cons_zero, List.set_cons_succ, upd]
      case s6 =>
        rintro l a' w' h0 hd ⟨vl, vc, vb, P, rfl, I⟩
        have hb := perm7_lst (hd 4 (List.elem_iff.1 (by kernel_rfl))) rfl (by decide)
        have hc := perm7_lst (hd (2 * 1) (List.elem_iff.1 (by kernel_rfl))) rfl (by decide)
        obtain ⟨hbx, -, x0, x1, x2, x3, ⟨hx0, hx1, hx2, hx3⟩, hf0, hf1, hf2, hf3⟩ := I.box 1 (by decide) hb
        obtain ⟨_, _, hro, -⟩ := I.call 1 (by decide) hc
        obtain ⟨A3, c3, B3, d3, hv⟩ := hro.form
        have hv' := hv
        obtain ⟨vb, rfl⟩ := upd_eta hbx
        obtain ⟨vc, rfl⟩ := upd_eta hv
        clear hd hro hbx hv
        intro K' hK
        simp only [Act.put, List.setIfInBounds_toArray, List.set_cons_zero, List.set_cons_succ, upd_same]
        go_simp
        refine hK.out _ _ ⟨vl, upd vc 1 _, upd vb 1 _, P, ?_, by rw [perm7_set h0 rfl (by decide) (by decide)]; exact I.stores HL 1 (by decide) hb hc hv'⟩
        simp [Act.put, List.setIfInBounds_toArray, List.set_cons_zero, List.set_cons_succ, upd]
    case fin =>
    clear HX1 HY1 HQ1 HL HK0
    rintro l a' w1 hl ⟨vl, vc, vb, P, rfl, I⟩
    have hla := perm7_all (fun i hi => hl i hi)
    obtain ⟨hke, hD⟩ := I.done hla
    obtain ⟨hb0, hlo0, hh0, hr0⟩ := hD 0 (by decide)
    obtain ⟨hb1, hlo1, hh1, hr1⟩ := hD 1 (by decide)
    obtain ⟨b0, wa, hro0, hfa0, hpa0⟩ := I.call 0 (by decide) (hla 1 (by decide))
    obtain ⟨b1, wb, hro1, hfa1, hpa1⟩ := I.call 1 (by decide) (hla 3 (by decide))
    have hP00 := hpa0 0 (by decide) (hla 4 (by decide))
    have hP01 := hpa0 1 (by decide) (hla 5 (by decide))
    have hP10 := hpa1 0 (by decide) (hla 4 (by decide))
    have hP11 := hpa1 1 (by decide) (hla 5 (by decide))
    have hft0 := (I.box 0 (by decide) (hla 4 (by decide))).2.2
    have hft1 := (I.box 1 (by decide) (hla 5 (by decide))).2.2
    have hne := I.ne 0 (by decide) 1 (by decide) (by decide) (hla 4 (by decide)) (hla 5 (by decide))
    rw [two0] at hr0 hro0
    rw [two1] at hr1 hro1
    obtain ⟨A_a, c_a, B_a, d_a, hv0, hB_a⟩ := hh0.rr hr0
    obtain ⟨A_b, c_b, B_b, d_b, hv1, hB_b⟩ := hh1.rr hr1
    rw [hv0] at hr0 hro0
    rw [hv1] at hr1 hro1
    rw [hb0, hb1]
    generalize P 0 = p0 at *
    generalize P 1 = p1 at *
    generalize vl 0 = z0 at *
    generalize vl 1 = z1 at *
    generalize vc 0 = z2 at *
    generalize vc 1 = z3 at *
    clear hl I hD hb0 hb1 hh0 hh1 hv0 hv1 vl vc vb P hla hpa0 hpa1 l
    refine ⟨?_⟩
    simp only [Act.put, List.setIfInBounds_toArray, List.set_cons_zero, List.set_cons_succ]
    clear h8
    have hpx := HPX.out
    have hx0 := hke.2.2.2
    have hc0 := hke.2.2.1
    have hpx0 : p0 ≠ w3.heap.size := by omega
    have hpx1 : p1 ≠ w3.heap.size := by omega
    have hpc0 : p0 ≠ w.heap.size + 1 := by omega
    have hpc1 : p1 ≠ w.heap.size + 1 := by omega
    have hne' : p1 ≠ p0 := fun e => hne e.symm
    have HKB := Aside.mk hkb
    have HKA : Aside (okq q_a = true) := ⟨by rw [← HQA.out]; rfl⟩
    have HFA : Aside (q_a.f = 4) := ⟨by rw [← HQA.out]; rfl⟩
    clear hkb
    go_upto_if 40 with fail
    go_cut [10] from 41 to 42 (fun s10 wx => s10 = .pointer (some ⟨p0, 0, none⟩) ∧ CutA w w3.heap.size p0 p1 (.int .i64 cf) (.bool co) 4 (leastq q_a.f q_b.f) wx)
    case first =>
      cases fl
      · go_wp2
        go_meet
        exact ⟨rfl, q_a, q_b, _, _, _, _, _, _, _, _, hke.1.out, hB_a, hB_b, hc0, hx0, hr0, hr1, HKA.out, HKB.out, rfl⟩
      · obtain ⟨_, _, _, _, _, hf00, hf01, hf02, hf03⟩ := hft0
        obtain ⟨_, _, _, _, _, hf10, hf11, hf12, hf13⟩ := hft1
        have HLO : Aside (w.heap.size ≤ p0 ∧ w.heap.size ≤ p1) := ⟨by omega⟩
        have HNE := Aside.mk hne
        have HFR := Aside.mk (hro1.far ((hfa1.four hP10 (.int .i64 q_b.f) (.bool q_b.neg) (.slice A_b q_b.num.length c_b) (.slice B_b q_b.den.length d_b)).four hP11 (.int .i64 4) (.bool false) (.slice none 0 0) (.slice none 0 0))).rr
        clear hro0 hro1 hfa0 hfa1 hP00 hP01 hP10 hP11 hlo0 hlo1 hpx hne hr0 hr1
        have HKE := Aside.mk hke
        have HBA := Aside.mk hB_a
        have HBB := Aside.mk hB_b
        clear hke
        go_wp2
        go_meet
        refine ⟨rfl, q_b, fq 4, _, _, _, _, _, _, _, _, ?_, ?_, ?_, ?_, ?_, HFR.out, RO.rr (RO.fq 0 _ 4), HKB.out, rfl, ?_⟩
        · exact ext_set4 (ext_set4 HKE.out.1.out HLO.out.1 _ _ _ _) HLO.out.2 _ _ _ _
        · exact (set4_same HBA.out _ _ _ _).four (fun e => HNE.out e.symm) _ _ _ _
        · exact set4_same (HBB.out.four HNE.out _ _ _ _) _ _ _ _
        · exact (HKE.out.2.2.1.four hpc0 _ _ _ _).four hpc1 _ _ _ _
        · exact (HKE.out.2.2.2.four hpx0 _ _ _ _).four hpx1 _ _ _ _
        · rw [leastq_sym, ← HQA.out]
    case rest =>
      clear hB_a hB_b hr0 hr1 hro0 hro1 hfa0 hfa1 hP00 hP01 hP10 hP11 hft0 hft1 hke hx0 hc0 hlo0 hlo1 hne hne' hpx0 hpx1 hpc0 hpc1 hpx HPX
      unfold CutA at hcut
      obtain ⟨rfl, q1, q2, A1, k1, B1, d1, A2, k2, B2, d2, he1, hB_a, hB_b, hB_c, hB_x, hr1, hr2, hk1, hk2, hls⟩ := hcut
      have HE1 := Aside.mk he1
      have HX := Aside.mk (Ext.refl wc)
      have HR_a := Aside.mk hr1
      have HR_b := Aside.mk hr2
      have HR_x : Aside (RR wc (.agg #[.int .i64 4, .bool false, .slice none 0 0, .slice none 0 0]) (fq 4)) := ⟨RO.rr (RO.fq 0 _ 4)⟩
      rw [HFA.out] at hls
      have hqf := okq_f HKB.out
      clear he1 hr1 hr2 HKB HKA HFA
      clear HQA
      have hl : leastq q1.f q2.f = 4 := by rw [hls]; rcases hqf with h | h | h <;> rw [h] <;> rfl
      clear hls hqf
      have HM : Aside (∀ res, madeq q1 q2 res = (fq 4, 0)) := ⟨madeq_fault hk1 hk2 hl (by decide)⟩
      have HMX : Aside (∀ res, madeq (fq 4) (fq 4) res = (fq 4, 0)) := ⟨madeq_fault rfl rfl rfl (by decide)⟩
      have HMB : Aside (∀ is, askq q1 q2 is = ((4, false), 0)) := ⟨askq_fault hk1 hk2 hl (by decide)⟩
      clear hl hk1 hk2
      go_upto_region 18 with (first | (go_at_call 35; with_reducible refine (fault2 (Add2_calls HR_a.out HR_b.out rfl) (HM.out _)).mono ?_; rintro e w101 ⟨A_s, c_s, B_s, d_s, rfl, he0⟩; have he := he0.alloc (.cells #[.int .i64 4, .bool false, .slice A_s 0 c_s, .slice B_s 0 d_s] 26); replace HX := Aside.mk (HX.out.trans he); replace hB_x := Four.ext he hB_x; replace hB_a := Four.ext he hB_a; replace hB_b := Four.ext he hB_b; replace hB_c := Two.ext he hB_c; replace HR_a := Aside.mk (HR_a.out.ext he); replace HR_b := Aside.mk (HR_b.out.ext he); replace HR_x := Aside.mk (HR_x.out.ext he); have hB_s := four_new w101 (.int .i64 4) (.bool false) (.slice A_s 0 c_s) (.slice B_s 0 d_s) 26; clear he0 he) | (go_at_call 36; with_reducible refine (fault2 (Sub2_calls HR_a.out HR_b.out rfl) (HM.out _)).mono ?_; rintro e w102 ⟨A_d, c_d, B_d, d_d, rfl, he0⟩; have he := he0.alloc (.cells #[.int .i64 4, .bool false, .slice A_d 0 c_d, .slice B_d 0 d_d] 26); replace HX := Aside.mk (HX.out.trans he); replace hB_x := Four.ext he hB_x; replace hB_a := Four.ext he hB_a; replace hB_b := Four.ext he hB_b; replace hB_c := Two.ext he hB_c; replace hB_s := Four.ext he hB_s; replace HR_a := Aside.mk (HR_a.out.ext he); replace HR_b := Aside.mk (HR_b.out.ext he); replace HR_x := Aside.mk (HR_x.out.ext he); have hB_d := four_new w102 (.int .i64 4) (.bool false) (.slice A_d 0 c_d) (.slice B_d 0 d_d) 26; clear he0 he) | (go_at_call 39; with_reducible refine (fault2 (Mul2_calls HR_a.out HR_b.out rfl) (HM.out _)).mono ?_; rintro e w103 ⟨A_p, c_p, B_p, d_p, rfl, he0⟩; have he := he0.alloc (.cells #[.int .i64 4, .bool false, .slice A_p 0 c_p, .slice B_p 0 d_p] 26); replace HX := Aside.mk (HX.out.trans he); replace hB_x := Four.ext he hB_x; replace hB_a := Four.ext he hB_a; replace hB_b := Four.ext he hB_b; replace hB_c := Two.ext he hB_c; replace hB_s := Four.ext he hB_s; replace hB_d := Four.ext he hB_d; replace HR_a := Aside.mk (HR_a.out.ext he); replace HR_b := Aside.mk (HR_b.out.ext he); replace HR_x := Aside.mk (HR_x.out.ext he); have hB_p := four_new w103 (.int .i64 4) (.bool false) (.slice A_p 0 c_p) (.slice B_p 0 d_p) 26; clear he0 he) | (go_at_call 40; with_reducible refine (fault2 (Div2_calls HR_a.out HR_b.out rfl) (HM.out _)).mono ?_; rintro e w104 ⟨A_q, c_q, B_q, d_q, rfl, he0⟩; have he := he0.alloc (.cells #[.int .i64 4, .bool false, .slice A_q 0 c_q, .slice B_q 0 d_q] 26); replace HX := Aside.mk (HX.out.trans he); replace hB_x := Four.ext he hB_x; replace hB_a := Four.ext he hB_a; replace hB_b := Four.ext he hB_b; replace hB_c := Two.ext he hB_c; replace hB_s := Four.ext he hB_s; replace hB_d := Four.ext he hB_d; replace hB_p := Four.ext he hB_p; replace HR_a := Aside.mk (HR_a.out.ext he); replace HR_b := Aside.mk (HR_b.out.ext he); replace HR_x := Aside.mk (HR_x.out.ext he); have hB_q := four_new w104 (.int .i64 4) (.bool false) (.slice A_q 0 c_q) (.slice B_q 0 d_q) 26; clear he0 he) | (go_at_call 43; with_reducible refine (fault2 (Neg2_calls HR_x.out rfl) (HMX.out _)).mono ?_; rintro e w105 ⟨A_n, c_n, B_n, d_n, rfl, he0⟩; have he := he0.alloc (.cells #[.int .i64 4, .bool false, .slice A_n 0 c_n, .slice B_n 0 d_n] 26); replace HX := Aside.mk (HX.out.trans he); replace hB_x := Four.ext he hB_x; replace hB_a := Four.ext he hB_a; replace hB_b := Four.ext he hB_b; replace hB_c := Two.ext he hB_c; replace hB_s := Four.ext he hB_s; replace hB_d := Four.ext he hB_d; replace hB_p := Four.ext he hB_p; replace hB_q := Four.ext he hB_q; replace HR_a := Aside.mk (HR_a.out.ext he); replace HR_b := Aside.mk (HR_b.out.ext he); replace HR_x := Aside.mk (HR_x.out.ext he); have hB_n := four_new w105 (.int .i64 4) (.bool false) (.slice A_n 0 c_n) (.slice B_n 0 d_n) 26; clear he0 he) | (go_at_call 45; with_reducible refine (fault2 (Floor2_calls HR_x.out rfl) (HMX.out _)).mono ?_; rintro e w106 ⟨A_w, c_w, B_w, d_w, rfl, he0⟩; have he := he0.alloc (.cells #[.int .i64 4, .bool false, .slice A_w 0 c_w, .slice B_w 0 d_w] 26); replace HX := Aside.mk (HX.out.trans he); replace hB_x := Four.ext he hB_x; replace hB_a := Four.ext he hB_a; replace hB_b := Four.ext he hB_b; replace hB_c := Two.ext he hB_c; replace hB_s := Four.ext he hB_s; replace hB_d := Four.ext he hB_d; replace hB_p := Four.ext he hB_p; replace hB_q := Four.ext he hB_q; replace hB_n := Four.ext he hB_n; replace HR_a := Aside.mk (HR_a.out.ext he); replace HR_b := Aside.mk (HR_b.out.ext he); replace HR_x := Aside.mk (HR_x.out.ext he); have hB_w := four_new w106 (.int .i64 4) (.bool false) (.slice A_w 0 c_w) (.slice B_w 0 d_w) 26; clear he0 he) | (go_at_call 56; with_reducible refine (Less2_calls HR_a.out HR_b.out (HMB.out _)).mono ?_; rintro e w107 ⟨rfl, he0⟩; have he := he0.alloc (.cells #[.int .i64 4, .bool false] 55); replace HX := Aside.mk (HX.out.trans he); replace hB_x := Four.ext he hB_x; replace hB_a := Four.ext he hB_a; replace hB_b := Four.ext he hB_b; replace hB_c := Two.ext he hB_c; replace hB_s := Four.ext he hB_s; replace hB_d := Four.ext he hB_d; replace hB_p := Four.ext he hB_p; replace hB_q := Four.ext he hB_q; replace hB_n := Four.ext he hB_n; replace hB_w := Four.ext he hB_w; replace HR_a := Aside.mk (HR_a.out.ext he); replace HR_b := Aside.mk (HR_b.out.ext he); replace HR_x := Aside.mk (HR_x.out.ext he); have hB_l := two_new w107 (.int .i64 4) (.bool false) 55; clear he0 he) | (go_at_call 57; with_reducible refine (Same2_calls HR_a.out HR_b.out (HMB.out _)).mono ?_; rintro e w108 ⟨rfl, he0⟩; have he := he0.alloc (.cells #[.int .i64 4, .bool false] 55); replace HX := Aside.mk (HX.out.trans he); replace hB_x := Four.ext he hB_x; replace hB_a := Four.ext he hB_a; replace hB_b := Four.ext he hB_b; replace hB_c := Two.ext he hB_c; replace hB_s := Four.ext he hB_s; replace hB_d := Four.ext he hB_d; replace hB_p := Four.ext he hB_p; replace hB_q := Four.ext he hB_q; replace hB_n := Four.ext he hB_n; replace hB_w := Four.ext he hB_w; replace hB_l := Two.ext he hB_l; replace HR_a := Aside.mk (HR_a.out.ext he); replace HR_b := Aside.mk (HR_b.out.ext he); replace HR_x := Aside.mk (HR_x.out.ext he); have hB_m := two_new w108 (.int .i64 4) (.bool false) 55; clear he0 he))
      go_cut [28] from 12 to 135 (fun s28 wx => ∃ g, s28 = .slice (some ⟨g, 0, none⟩) 8 8 ∧ KG w w g w3.heap.size (.int .i64 cf) (.bool co) 4 4 wx)
      case first =>
        go_wp2
        go_meet
        refine ⟨_, rfl, ⟨HE1.out.trans (HX.out.alloc _)⟩, hB_c.ext ((Ext.refl _).alloc _), hB_x.ext ((Ext.refl _).alloc _), ⟨?_⟩⟩
        intro k hk
        rcases (show k = 0 ∨ k = 1 ∨ k = 2 ∨ k = 3 ∨ k = 4 ∨ k = 5 ∨ k = 6 ∨ k = 7 by omega) with rfl | rfl | rfl | rfl | rfl | rfl | rfl | rfl <;> first | exact .inl (cell_new (by simp) rfl) | exact .inr (cell_new (by simp) rfl)
      case rest =>
        clear hB_a hB_b hB_c hB_x hB_s hB_d hB_p hB_q hB_n hB_w hB_l hB_m HR_a HR_b HR_x HX HM HMX HMB
        obtain ⟨g, rfl, hkg⟩ := hcut
        go_wp2
        go_loopw [29] (fun i wr => ∃ k : Nat, k ≤ 8 ∧ i = .int .i64 (k : Int) ∧ KG w w g w3.heap.size (.int .i64 cf) (.bool co) 4 4 wr) (fun i _ => 8 - (intOf i).toNat)
        case atStart => exact ⟨0, by omega, rfl, hkg⟩
        case round =>
          clear hkg
          obtain ⟨k, hk, rfl, hkg⟩ := hrel
          by_cases hlt : k < 8
          · rcases hkg.2.2.2.out k hlt with hcell | hcell
            all_goals
              have HKG := Aside.mk hkg
              have hB_x := hkg.2.2.1
              clear hkg
              go_wp2_with fail
              go_quiet (fail)
              go_wp2
              go_roundw
              case rel => exact ⟨k + 1, by omega, by go_num, KG.ext (Ext.of_drewN ⟨_, rfl⟩) HKG.out⟩
              case measure => simp [intOf]; omega
          · have HE1 := hkg.1
            have HX := Aside.mk (Ext.refl wr)
            have hB_c := hkg.2.1
            have hB_x := hkg.2.2.1
            clear hkg
            cases hkb : okb cf co
            · have HKB := Aside.mk hkb
              clear hkb
              go_wp2_with (first | (go_at_call 48; with_reducible refine (risbit_calls HKB.out).mono ?_; rintro e w301 ⟨rfl, he⟩; replace HX := Aside.mk (HX.out.trans he); replace hB_x := Four.ext he hB_x; replace hB_c := Two.ext he hB_c; clear he) | (go_at_call 23; with_reducible refine (alive_calls (HG.out.ext (HE1.out.trans HX.out))).mono ?_; rintro e w99 ⟨rfl, he⟩; have HEND := Aside.mk ((HE1.out.trans HX.out).trans he); clear he))
              go_ret
              exact ⟨rfl, HEND.out⟩
            · have HKB := Aside.mk hkb
              obtain ⟨lc, hlc⟩ : ∃ l, leastq 4 cf = l := ⟨_, rfl⟩
              have hlc0 : lc ≠ 0 := by
                rw [← hlc]; unfold leastq
                split <;> rename_i h
                · omega
                · decide
              have HMC : Aside (∀ is, bitq 4 cf false co is = ((lc, false), 0)) := ⟨bitq_fault rfl hkb hlc hlc0⟩
              have HMD : Aside (∀ is, bitq cf 4 co false is = ((lc, false), 0)) := ⟨bitq_fault hkb rfl (by rw [leastq_sym]; exact hlc) hlc0⟩
              have HMN : Aside (bitq 4 4 false false (!false) = ((4, false), 0)) := ⟨rfl⟩
              have HLC := Aside.mk hlc
              clear hkb hlc hlc0
              go_upto_region 30 with (first | (go_at_call 48; with_reducible refine (risbit_calls HKB.out).mono ?_; rintro e w201 ⟨rfl, he⟩; replace HX := Aside.mk (HX.out.trans he); replace hB_x := Four.ext he hB_x; replace hB_c := Two.ext he hB_c; clear he; have he := (Ext.refl w201).alloc (.cells #[.int .i64 4, .bool false] 55); have hD_x := Four.ext he hB_x; have hD_c := Two.ext he hB_c; have HD := Aside.mk (HX.out.trans he); have hB_bit := two_new w201 (.int .i64 4) (.bool false) 55; clear he) | (go_at_call 60; with_reducible refine (and2_calls (HMC.out _)).mono ?_; rintro e w202 ⟨rfl, he0⟩; clear hB_x hB_c HX; have hB_x := hD_x; have hB_c := hD_c; have HX := HD; clear hD_x hD_c HD; have he := he0.alloc (.cells #[.int .i64 lc, .bool false] 55); replace HX := Aside.mk (HX.out.trans he); replace hB_x := Four.ext he hB_x; replace hB_c := Two.ext he hB_c; replace hB_bit := Two.ext he hB_bit; have hB_y := two_new w202 (.int .i64 lc) (.bool false) 55; clear he0 he) | (go_at_call 61; with_reducible refine (or2_calls (HMD.out _)).mono ?_; rintro e w203 ⟨rfl, he0⟩; have he := he0.alloc (.cells #[.int .i64 lc, .bool false] 55); replace HX := Aside.mk (HX.out.trans he); replace hB_x := Four.ext he hB_x; replace hB_c := Two.ext he hB_c; replace hB_bit := Two.ext he hB_bit; replace hB_y := Two.ext he hB_y; have hB_z := two_new w203 (.int .i64 lc) (.bool false) 55; clear he0 he) | (go_at_call 51; with_reducible refine (not2_calls HMN.out).mono ?_; rintro e w204 ⟨rfl, he0⟩; have he := he0.alloc (.cells #[.int .i64 4, .bool false] 55); replace HX := Aside.mk (HX.out.trans he); replace hB_x := Four.ext he hB_x; replace hB_c := Two.ext he hB_c; replace hB_bit := Two.ext he hB_bit; replace hB_y := Two.ext he hB_y; replace hB_z := Two.ext he hB_z; have hB_u := two_new w204 (.int .i64 4) (.bool false) 55; clear he0 he))
              generalize hW : w204.alloc _ = W0 at *
              have hkd : KH W0 w3.heap.size (w.heap.size + 1) w201.heap.size w202.heap.size w203.heap.size w204.heap.size 4 cf co lc W0 := ⟨⟨Ext.refl _⟩, hB_x, hB_c, hB_bit, hB_y, hB_z, hB_u⟩
              have hkd' := KH.ext (Ext.refl _).drew hkd
              have HG2 := Aside.mk (HG.out.ext (HE1.out.trans HX.out))
              clear hkd hW hB_x hB_c hB_bit hB_y hB_z hB_u HMC HMD HMN HKB
              go_region_held (fun w' => KH W0 w3.heap.size (w.heap.size + 1) w201.heap.size w202.heap.size w203.heap.size w204.heap.size 4 cf co lc w') (first | assumption | exact KH.ext (by assumption) (by assumption)) (first | (go_at_call 65; with_reducible refine (rleast_calls HLC.out).mono ?_; rintro e w205 ⟨rfl, rfl⟩) | (go_at_call 23; with_reducible refine (alive_calls (HG2.out.ext (Aside.out (And.left (show KH W0 w3.heap.size (w.heap.size + 1) w201.heap.size w202.heap.size w203.heap.size w204.heap.size 4 cf co lc _ from by assumption))))).mono ?_; rintro e w206 ⟨rfl, he2⟩))
              have HEND := Aside.mk ((HE1.out.trans HX.out).trans (KH.ext he2 hkd').1.out)
              clear hkd' he2
              go_wp2
              go_ret
              exact ⟨rfl, HEND.out⟩
end Go.Proofs.YtgfkachfbnbikaaGreatDoor

namespace Go.Proofs.YtgfkachfbnbikaaGreatDoor
open Go.RowKit Go.ChangeShapes Go.WideShapes Go.ChangeAt

set_option maxRecDepth 100000 in
theorem bit_of {H : Type} {enc : TypeId × Value → H} {W : World} {n base : Nat} {v : Value} {x : DataW H × List MemPlace} {held : Bool} (hv : Value.okWide Tryz.prog W .any base 55 v)
    (h : DataW.trod enc Tryz.prog W 0 (fun _ => true) held n 55 v.cells.toList = some x) : ∃ f on, v = .agg #[.int .i64 f, .bool on] := by
  have c55 : Tryz.prog.cellsOf 55 = 2 := by kernel_rfl
  have c24 : Tryz.prog.cellsOf 24 = 1 := by kernel_rfl
  have c4 : Tryz.prog.cellsOf 4 = 1 := by kernel_rfl
  simp only [Value.okWide, Tryz.underlying55] at hv
  obtain ⟨cs, rfl, hsz, _⟩ := hv
  obtain ⟨a, b, rfl⟩ := arr2 (hsz.trans c55)
  obtain ⟨xs, m, _, _, _, hn, hel⟩ := DataW.trod_struct Tryz.underlying55 h
  have h0 := hel 0 _ rfl
  have h1 := hel 1 _ rfl
  rw [show Tryz.prog.cellsOf (Field.type _) = 1 from c24] at h0
  rw [show Tryz.prog.cellsOf (Field.type _) = 1 from c4] at h1
  match xs, hn with
  | [y0, y1], _ =>
    obtain ⟨f, e0, _⟩ := DataW.trod_int Tryz.underlying24 (show DataW.trod enc Tryz.prog W 0 (fun _ => true) held m 24 [a] = some y0 from h0)
    obtain ⟨on, e1, _⟩ := DataW.trod_bool Tryz.underlying4 (show DataW.trod enc Tryz.prog W 0 (fun _ => true) held m 4 [b] = some y1 from h1)
    simp only [List.cons.injEq, and_true] at e0 e1
    subst e0 e1
    exact ⟨_, _, rfl⟩
end Go.Proofs.YtgfkachfbnbikaaGreatDoor

namespace Go.Proofs.YtgfkachfbnbikaaGreatDoor
open Go.RowKit Go.ChangeShapes Go.WideShapes Go.ChangeAt

set_option maxRecDepth 100000 in
theorem faults_lifted (os : Os) (started : os.Started) (H : Type) (enc : TypeId × Value → H) :
    ReturnsInHanded {} Tryz.checked os 15 .any (fun w args => (Rows.fracFaultsSpec.pre enc Tryz.prog Tryz.f15 [] false w args ∧ laidMetH Tryz.prog Rows.fracFaultsRow.laid w) ∧ sizedMet enc Tryz.prog Tryz.f15 (OpenSpec.ofChange Rows.fracFaultsSpec) false w args)
      (Rows.fracFaultsSpec.post enc Tryz.prog Tryz.f15 false true false false) := by
  refine returns_law (C := Tryz.checked) (X := fun w _ => laidMetH Tryz.prog Rows.fracFaultsRow.laid w) (fun _ _ _ hh h => h.of_heap hh) Tryz.own started (by kernel_rfl) Tryz.func15
    (ChangeSpec.witness_shaped (enc := enc) (C := Tryz.checked) (os := os) (X := fun w _ => laidMetH Tryz.prog Rows.fracFaultsRow.laid w) false (World.laidAll Tryz.prog os Rows.fracFaultsRow.laid) #[.agg #[.int .i64 0, .bool false, .slice none 0 0, .slice none 0 0], .bool false, .bool false, .agg #[.int .i64 0, .bool false]] 8 (World.laidAll_os _ _ _)
      (World.shaped_of_ZipB (by kernel_rfl) (by kernel_rfl)) (by kernel_rfl) (by kernel_rfl) (by kernel_rfl)
      (by rw [MakeChecks.laidMetH_plain _ _ _ (by kernel_rfl)]; exact laidMet_laidAll _ (by kernel_rfl) (by kernel_rfl))) ?_
  intro W base args ds gs before hval0 hW hL hsh
  have hval : ∀ (j : Nat) t v, Tryz.f15.params[j]? = some t → args[j]? = some v → Value.okWide Tryz.prog W .any base t v := hval0
  have hW' := hW
  obtain ⟨p, q, hA0, hV, rfl, hfz, hnd⟩ := hW
  have hA : DataW.TrodAll enc Tryz.prog W 0 (fun _ => true) true Tryz.f15.params.toList args.toList ds p := hA0
  have hA' := hA
  rw [Tryz.params15] at hA hval
  obtain ⟨v0, v1, v2, v3, d0, d1, d2, d3, p0, p1, p2, p3, rfl, rfl, rfl, ⟨k0, h0⟩, h1, h2, ⟨k3, h3⟩⟩ := trodAll_four hA
  obtain ⟨rfl, rfl⟩ := trodVars_none hV
  have hG := glob_of (by kernel_rfl) rfl hL hsh
  obtain ⟨f1, n1, sx1, sy1, xs1, ys1, rfl, hx1, hy1⟩ := rat_of (hval 0 26 v0 rfl rfl) h0
  obtain ⟨lg, rfl, rfl, rfl⟩ := open_bool Tryz.underlying4 (hval 1 4 v1 rfl rfl) h1
  obtain ⟨fl, rfl, rfl, rfl⟩ := open_bool Tryz.underlying4 (hval 2 4 v2 rfl rfl) h2
  obtain ⟨cf, co, rfl⟩ := bit_of (hval 3 55 v3 rfl rfl) h3
  refine (faults_calls hG hx1 hy1).mono fun e W' ⟨he, hw⟩ => ?_
  subst he
  refine ⟨_, rfl, law_post (ts := Tryz.f15.params.toList) rfl rfl rfl ?_ ⟨rfl, rfl, rfl⟩ hW' (by simpa using hA') hw⟩
  rw [Tryz.params15]
  exact read_all (by kernel_rfl)

theorem fracFaults_holds : Rows.FracFaultsSaid :=
  OpenClaim.holds_of_wide 15 Tryz.f15 rfl rfl rfl rfl rfl rfl rfl ⟨rfl, rfl, rfl, rfl, rfl⟩ rfl rfl rfl rfl rfl (by kernel_rfl) Tryz.func15 (by kernel_rfl)
    (of_decide_eq_true (by kernel_rfl)) (by unfold Func.isWrapper; first | (rw [if_neg (by decide +kernel)]; exact ⟨rfl, rfl⟩) | (rw [if_pos (by decide +kernel)]; kernel_rfl))
    (fun os started H enc _ => faults_lifted os started H enc)
end Go.Proofs.YtgfkachfbnbikaaGreatDoor

namespace Go.Proofs.YtgfkachfbnbikaaGreatDoor
open Go

set_option maxRecDepth 100000 in
theorem fracFaults_card : Rows.FracFaultsCardSaid :=
  Claim7.holds_tied_plain_at .later [] [.data, .data, .pinned] true (true, "d85da3931ba373f0f2d5a7ce168e29c3a5db8cee51669ffe15e332533fbaa330") false
    fracFaults_holds (fun _ h => by cases h) (by kernel_rfl) (fun _ h => by cases h) fracFaults_row_tie rfl ⟨rfl, rfl⟩ (by kernel_rfl) rfl
    (fun f fn hf hfn => by
      obtain rfl : f = 15 := Option.some.inj ((show Tryz.prog.funcNamed "fluxion/fluxionlaw02.FracFaults" = some 15 by kernel_rfl).symm.trans hf) |>.symm
      obtain rfl : fn = Tryz.f15 := (Option.some.inj (Tryz.func15.symm.trans hfn)).symm
      exact ⟨by kernel_rfl, fun j t ht => by
        rw [Tryz.params15] at ht
        have hm : t ∈ Tryz.f15.params.toList := by rw [Tryz.params15]; exact Array.mem_toList_iff.2 (Array.mem_of_getElem? ht)
        have hall : (Tryz.f15.params.toList.all fun u => !Tryz.prog.wantsStandIn u) = true := by kernel_rfl
        exact (show Tryz.prog.wantsStandIn t = false by simpa using List.all_eq_true.1 hall t hm)⟩)
    (by kernel_rfl)
#print axioms fracFaults_card
end Go.Proofs.YtgfkachfbnbikaaGreatDoor
