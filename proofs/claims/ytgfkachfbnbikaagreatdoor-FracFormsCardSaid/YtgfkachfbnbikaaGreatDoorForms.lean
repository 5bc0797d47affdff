/- FracForms: the call returns true. An argument that is a bit. FracForms: of every input the call returns true, and each argument reads behind it as it read before. FracForms: the tied card holds: IsRat and IsBit report what the specification says of any Rat and any bit, and Neg, Floor and Not return its results, or ErrForm. Conditions: the package-level variables that the row lists start as the program's text lays them (the tie is given). -/
import Derived.Test.YtgfkachfbnbikaaGreatDoorMn
import Derived.Test.YtgfkachfbnbikaaGreatDoorMr
import Derived.Test.YtgfkachfbnbikaaGreatDoorMp
import Derived.Test.YtgfkachfbnbikaaGreatDoorCards
import Derived.Test.YtgfkachfbnbikaaGreatDoorTie
import Derived.SevenTiedAt
namespace Go.Proofs.YtgfkachfbnbikaaGreatDoor
open Go.RowKit

/-- The two cells of a box. -/
abbrev Two (w : World) (g : Nat) (x0 x1 : Value) : Prop := w.cell? ⟨g, 0, none⟩ = some x0 ∧ w.cell? ⟨g, 1, none⟩ = some x1
theorem Two.ext {a b : World} (e : Ext a b) {g : Nat} {x0 x1 : Value} (h : Two a g x0 x1) : Two b g x0 x1 := ⟨e.cell h.1, e.cell h.2⟩
abbrev KA (w : World) (B P : Nat) (x0 x1 a0 a1 a2 a3 : Value) (w' : World) : Prop := Aside (Ext w w') ∧ Two w' B x0 x1 ∧ Four w' P a0 a1 a2 a3
theorem KA.ext {w w1 w2 : World} {B P : Nat} {x0 x1 a0 a1 a2 a3 : Value} (e : Ext w1 w2) (h : KA w B P x0 x1 a0 a1 a2 a3 w1) : KA w B P x0 x1 a0 a1 a2 a3 w2 := ⟨⟨h.1.out.trans e⟩, h.2.1.ext e, h.2.2.ext e⟩
abbrev KB (w : World) (B P R : Nat) (x0 x1 a0 a1 a2 a3 b0 b1 b2 b3 : Value) (w' : World) : Prop := Aside (Ext w w') ∧ Two w' B x0 x1 ∧ Four w' P a0 a1 a2 a3 ∧ Four w' R b0 b1 b2 b3
abbrev KC (w : World) (B P R S : Nat) (x0 x1 a0 a1 a2 a3 b0 b1 b2 b3 c0 c1 c2 c3 : Value) (w' : World) : Prop := Aside (Ext w w') ∧ Two w' B x0 x1 ∧ Four w' P a0 a1 a2 a3 ∧ Four w' R b0 b1 b2 b3 ∧ Four w' S c0 c1 c2 c3
abbrev KD (w : World) (B P R S T : Nat) (x0 x1 a0 a1 a2 a3 b0 b1 b2 b3 c0 c1 c2 c3 y0 y1 : Value) (w' : World) : Prop := Aside (Ext w w') ∧ Two w' B x0 x1 ∧ Four w' P a0 a1 a2 a3 ∧ Four w' R b0 b1 b2 b3 ∧ Four w' S c0 c1 c2 c3 ∧ Two w' T y0 y1
theorem KD.ext {w w1 w2 : World} {B P R S T : Nat} {x0 x1 a0 a1 a2 a3 b0 b1 b2 b3 c0 c1 c2 c3 y0 y1 : Value} (e : Ext w1 w2) (h : KD w B P R S T x0 x1 a0 a1 a2 a3 b0 b1 b2 b3 c0 c1 c2 c3 y0 y1 w1) : KD w B P R S T x0 x1 a0 a1 a2 a3 b0 b1 b2 b3 c0 c1 c2 c3 y0 y1 w2 :=
  ⟨⟨h.1.out.trans e⟩, h.2.1.ext e, h.2.2.1.ext e, h.2.2.2.1.ext e, h.2.2.2.2.1.ext e, h.2.2.2.2.2.ext e⟩
theorem two_new (w : World) (x0 x1 : Value) (t : TypeId) : Two (w.alloc (.cells #[x0, x1] t)) w.heap.size x0 x1 := ⟨cell_new rfl rfl, cell_new rfl rfl⟩
theorem four_new (w : World) (x0 x1 x2 x3 : Value) (t : TypeId) : Four (w.alloc (.cells #[x0, x1, x2, x3] t)) w.heap.size x0 x1 x2 x3 := ⟨cell_new rfl rfl, cell_new rfl rfl, cell_new rfl rfl, cell_new rfl rfl⟩
theorem rat_bit (w : World) (x0 x1 x2 x3 y0 y1 : Value) (t t' : TypeId) : KA w (w.heap.size + 1) w.heap.size y0 y1 x0 x1 x2 x3 ((w.alloc (.cells #[x0, x1, x2, x3] t)).alloc (.cells #[y0, y1] t')) :=
  ⟨⟨((Ext.refl w).alloc _).alloc _⟩, ⟨cell_new (by simp) rfl, cell_new (by simp) rfl⟩, (four_new w x0 x1 x2 x3 t).ext ((Ext.refl _).alloc _)⟩

set_option maxRecDepth 10000 in
set_option maxHeartbeats 4000000 in
theorem forms_calls {w : World} {f1 f : Int} {n1 on : Bool} {sx sy : Value} {xs ys : List Nat} (hg : Glob w) (hx : RL w sx xs) (hy : RL w sy ys) :
    Calls Tryz.prog 10 #[.agg #[.int .i64 f1, .bool n1, sx, sy], .agg #[.int .i64 f, .bool on]] w fun e w' => e = .returned (.bool true) ∧ Ext w w' := by
  have HG := Aside.mk hg
  have HX := Aside.mk hx
  have HY := Aside.mk hy
  obtain ⟨a, ha⟩ : ∃ a : Rq, (⟨f1, n1, xs.take 132, ys.take 132⟩ : Rq) = a := ⟨_, rfl⟩
  have HQ := Aside.mk ha
  obtain ⟨AX, cx, rfl, _⟩ := hx
  obtain ⟨AY, cy, rfl, _⟩ := hy
  generalize xs.length = nx at *
  generalize ys.length = ny at *
  clear ha hg
  have hk0 := rat_bit w (.int .i64 f1) (.bool n1) (.slice AX nx cx) (.slice AY ny cy) (.int .i64 f) (.bool on) 26 55
  obtain ⟨x, hx⟩ : ∃ x, rbit f (!on) = x := ⟨_, rfl⟩
  obtain ⟨x1, x2⟩ := x
  have HRB := Aside.mk hx
  cases hka : okq a
  · have HKA := Aside.mk hka
    have HMN : Aside (madeq a a (oppq a) = (fq 0, 5)) := ⟨madeq_bad (by rw [hka]; rfl)⟩
    have HMF : Aside (madeq a a (floorq a.neg (val a.num) (val a.den)) = (fq 0, 5)) := ⟨madeq_bad (by rw [hka]; rfl)⟩
    clear hka
    cases hkb : okb f on
    · have HKB := Aside.mk hkb
      have HMB : Aside (bitq f f on on (!on) = ((0, false), 5)) := ⟨by simp [bitq, hkb]⟩
      clear hkb hx HRB
      go_enter Tryz.func10, Tryz.ntmps10
      go_wp2_with (go_at_call 25; with_reducible refine (rat_q (HX.out.ext hk0.1.out) (HY.out.ext hk0.1.out) HQ.out).mono ?_; rintro e w1 ⟨r, rfl, hr, he⟩; have HA := Aside.mk hr.rr; have HE1 := Aside.mk (hk0.1.out.trans he); have HG1 := Aside.mk (HG.out.ext HE1.out); obtain ⟨A0, c0, B0, d0, rfl⟩ := hr.form; have hka : KA w1 (w.heap.size + 1) w1.heap.size (.int .i64 f) (.bool on) (.int .i64 a.f) (.bool a.neg) (.slice A0 a.num.length c0) (.slice B0 a.den.length d0) (w1.alloc (.cells #[.int .i64 a.f, .bool a.neg, .slice A0 a.num.length c0, .slice B0 a.den.length d0] 26)) := ⟨⟨(Ext.refl _).alloc _⟩, (hk0.2.1.ext he).ext ((Ext.refl _).alloc _), four_new w1 _ _ _ _ _⟩; clear hk0 hr he)
      have hka' := KA.ext (Ext.refl _).drew hka
      go_region_held (fun w' => KA w1 (w.heap.size + 1) w1.heap.size (.int .i64 f) (.bool on) (.int .i64 a.f) (.bool a.neg) (.slice A0 a.num.length c0) (.slice B0 a.den.length d0) w') (first | assumption | exact KA.ext (by assumption) (by assumption)) (first | (go_at_call 27; with_reducible refine (risrat_calls (HA.out.ext (Aside.out (And.left (show KA w1 (w.heap.size + 1) w1.heap.size (.int .i64 f) (.bool on) (.int .i64 a.f) (.bool a.neg) (.slice A0 a.num.length c0) (.slice B0 a.den.length d0) _ from by assumption)))) HKA.out).mono ?_; rintro e w2 ⟨rfl, he2⟩) | (go_at_call 48; with_reducible refine (risbit_calls HKB.out).mono ?_; rintro e w3 ⟨rfl, he3⟩))
      have hka3 := KA.ext he3 (KA.ext he2 hka')
      clear hka hka' he2 he3
      go_wp2_with (first | (go_at_call 49; with_reducible refine (israt_b (HA.out.ext hka3.1.out) HKA.out).mono ?_; rintro e w4 ⟨rfl, he⟩; have hka4 := KA.ext he hka3; clear hka3 he) | (go_at_call 50; with_reducible refine (isbit_b HKB.out).mono ?_; rintro e w5 ⟨rfl, he⟩; have hka5 := KA.ext he hka4; clear hka4 he) | (go_at_call 43; with_reducible refine (bad2 (Neg2_calls (HA.out.ext hka5.1.out) rfl) HMN.out).mono ?_; rintro e w6 ⟨A2, c2, B2, d2, rfl, he⟩; have HE6 := Aside.mk (hka5.1.out.trans he); have hkb : KB w6 (w.heap.size + 1) w1.heap.size w6.heap.size (.int .i64 f) (.bool on) (.int .i64 a.f) (.bool a.neg) (.slice A0 a.num.length c0) (.slice B0 a.den.length d0) (.int .i64 0) (.bool false) (.slice A2 0 c2) (.slice B2 0 d2) (w6.alloc (.cells #[.int .i64 0, .bool false, .slice A2 0 c2, .slice B2 0 d2] 26)) := ⟨⟨(Ext.refl _).alloc _⟩, (hka5.2.1.ext he).ext ((Ext.refl _).alloc _), (hka5.2.2.ext he).ext ((Ext.refl _).alloc _), four_new w6 _ _ _ _ _⟩; clear hka5 he) | (go_at_call 45; with_reducible refine (bad2 (Floor2_calls ((HA.out.ext HE6.out).ext hkb.1.out) rfl) HMF.out).mono ?_; rintro e w7 ⟨A3, c3, B3, d3, rfl, he⟩; have HE7 := Aside.mk ((HE6.out.trans hkb.1.out).trans he); have hkc : KC w7 (w.heap.size + 1) w1.heap.size w6.heap.size w7.heap.size (.int .i64 f) (.bool on) (.int .i64 a.f) (.bool a.neg) (.slice A0 a.num.length c0) (.slice B0 a.den.length d0) (.int .i64 0) (.bool false) (.slice A2 0 c2) (.slice B2 0 d2) (.int .i64 0) (.bool false) (.slice A3 0 c3) (.slice B3 0 d3) (w7.alloc (.cells #[.int .i64 0, .bool false, .slice A3 0 c3, .slice B3 0 d3] 26)) := ⟨⟨(Ext.refl _).alloc _⟩, (hkb.2.1.ext he).ext ((Ext.refl _).alloc _), (hkb.2.2.1.ext he).ext ((Ext.refl _).alloc _), (hkb.2.2.2.ext he).ext ((Ext.refl _).alloc _), four_new w7 _ _ _ _ _⟩; clear hkb he) | (go_at_call 51; with_reducible refine (not2_calls HMB.out).mono ?_; rintro e w8 ⟨rfl, he⟩; have HE8 := Aside.mk (hkc.1.out.trans he); have hkd : KD w8 (w.heap.size + 1) w1.heap.size w6.heap.size w7.heap.size w8.heap.size (.int .i64 f) (.bool on) (.int .i64 a.f) (.bool a.neg) (.slice A0 a.num.length c0) (.slice B0 a.den.length d0) (.int .i64 0) (.bool false) (.slice A2 0 c2) (.slice B2 0 d2) (.int .i64 0) (.bool false) (.slice A3 0 c3) (.slice B3 0 d3) (.int .i64 0) (.bool false) (w8.alloc (.cells #[.int .i64 0, .bool false] 55)) := ⟨⟨(Ext.refl _).alloc _⟩, (hkc.2.1.ext he).ext ((Ext.refl _).alloc _), (hkc.2.2.1.ext he).ext ((Ext.refl _).alloc _), (hkc.2.2.2.1.ext he).ext ((Ext.refl _).alloc _), (hkc.2.2.2.2.ext he).ext ((Ext.refl _).alloc _), two_new w8 _ _ _⟩; clear hkc he) | (go_at_call 22; with_reducible refine zero_len.mono ?_; rintro e w9 ⟨rfl, he⟩; have hkd9 := KD.ext he hkd; clear hkd he) | (go_at_call 22; with_reducible refine zero_len.mono ?_; rintro e w10 ⟨rfl, he⟩; have hkd10 := KD.ext he hkd9; clear hkd9 he) | (go_at_call 23; with_reducible refine (alive_calls ((HG1.out.ext (HE7.out.trans HE8.out)).ext hkd10.1.out)).mono ?_; rintro e w16 ⟨rfl, he16⟩; have HEND := Aside.mk ((HE1.out.trans (HE7.out.trans HE8.out)).trans (hkd10.1.out.trans he16)); clear hkd10 he16))
      go_ret
      exact ⟨rfl, HEND.out⟩
    · have HKB := Aside.mk hkb
      have HMB : Aside (bitq f f on on (!on) = ((x1, x2), 0)) := ⟨by simp [bitq, hkb, leastq_self', hx]⟩
      clear hkb hx
      go_enter Tryz.func10, Tryz.ntmps10
      go_wp2_with (go_at_call 25; with_reducible refine (rat_q (HX.out.ext hk0.1.out) (HY.out.ext hk0.1.out) HQ.out).mono ?_; rintro e w1 ⟨r, rfl, hr, he⟩; have HA := Aside.mk hr.rr; have HE1 := Aside.mk (hk0.1.out.trans he); have HG1 := Aside.mk (HG.out.ext HE1.out); obtain ⟨A0, c0, B0, d0, rfl⟩ := hr.form; have hka : KA w1 (w.heap.size + 1) w1.heap.size (.int .i64 f) (.bool on) (.int .i64 a.f) (.bool a.neg) (.slice A0 a.num.length c0) (.slice B0 a.den.length d0) (w1.alloc (.cells #[.int .i64 a.f, .bool a.neg, .slice A0 a.num.length c0, .slice B0 a.den.length d0] 26)) := ⟨⟨(Ext.refl _).alloc _⟩, (hk0.2.1.ext he).ext ((Ext.refl _).alloc _), four_new w1 _ _ _ _ _⟩; clear hk0 hr he)
      have hka' := KA.ext (Ext.refl _).drew hka
      go_region_held (fun w' => KA w1 (w.heap.size + 1) w1.heap.size (.int .i64 f) (.bool on) (.int .i64 a.f) (.bool a.neg) (.slice A0 a.num.length c0) (.slice B0 a.den.length d0) w') (first | assumption | exact KA.ext (by assumption) (by assumption)) (first | (go_at_call 27; with_reducible refine (risrat_calls (HA.out.ext (Aside.out (And.left (show KA w1 (w.heap.size + 1) w1.heap.size (.int .i64 f) (.bool on) (.int .i64 a.f) (.bool a.neg) (.slice A0 a.num.length c0) (.slice B0 a.den.length d0) _ from by assumption)))) HKA.out).mono ?_; rintro e w2 ⟨rfl, he2⟩) | (go_at_call 48; with_reducible refine (risbit_calls HKB.out).mono ?_; rintro e w3 ⟨rfl, he3⟩))
      have hka3 := KA.ext he3 (KA.ext he2 hka')
      clear hka hka' he2 he3
      go_wp2_with (first | (go_at_call 49; with_reducible refine (israt_b (HA.out.ext hka3.1.out) HKA.out).mono ?_; rintro e w4 ⟨rfl, he⟩; have hka4 := KA.ext he hka3; clear hka3 he) | (go_at_call 50; with_reducible refine (isbit_b HKB.out).mono ?_; rintro e w5 ⟨rfl, he⟩; have hka5 := KA.ext he hka4; clear hka4 he) | (go_at_call 43; with_reducible refine (bad2 (Neg2_calls (HA.out.ext hka5.1.out) rfl) HMN.out).mono ?_; rintro e w6 ⟨A2, c2, B2, d2, rfl, he⟩; have HE6 := Aside.mk (hka5.1.out.trans he); have hkb : KB w6 (w.heap.size + 1) w1.heap.size w6.heap.size (.int .i64 f) (.bool on) (.int .i64 a.f) (.bool a.neg) (.slice A0 a.num.length c0) (.slice B0 a.den.length d0) (.int .i64 0) (.bool false) (.slice A2 0 c2) (.slice B2 0 d2) (w6.alloc (.cells #[.int .i64 0, .bool false, .slice A2 0 c2, .slice B2 0 d2] 26)) := ⟨⟨(Ext.refl _).alloc _⟩, (hka5.2.1.ext he).ext ((Ext.refl _).alloc _), (hka5.2.2.ext he).ext ((Ext.refl _).alloc _), four_new w6 _ _ _ _ _⟩; clear hka5 he) | (go_at_call 45; with_reducible refine (bad2 (Floor2_calls ((HA.out.ext HE6.out).ext hkb.1.out) rfl) HMF.out).mono ?_; rintro e w7 ⟨A3, c3, B3, d3, rfl, he⟩; have HE7 := Aside.mk ((HE6.out.trans hkb.1.out).trans he); have hkc : KC w7 (w.heap.size + 1) w1.heap.size w6.heap.size w7.heap.size (.int .i64 f) (.bool on) (.int .i64 a.f) (.bool a.neg) (.slice A0 a.num.length c0) (.slice B0 a.den.length d0) (.int .i64 0) (.bool false) (.slice A2 0 c2) (.slice B2 0 d2) (.int .i64 0) (.bool false) (.slice A3 0 c3) (.slice B3 0 d3) (w7.alloc (.cells #[.int .i64 0, .bool false, .slice A3 0 c3, .slice B3 0 d3] 26)) := ⟨⟨(Ext.refl _).alloc _⟩, (hkb.2.1.ext he).ext ((Ext.refl _).alloc _), (hkb.2.2.1.ext he).ext ((Ext.refl _).alloc _), (hkb.2.2.2.ext he).ext ((Ext.refl _).alloc _), four_new w7 _ _ _ _ _⟩; clear hkb he) | (go_at_call 51; with_reducible refine (not2_calls HMB.out).mono ?_; rintro e w8 ⟨rfl, he⟩; have HE8 := Aside.mk (hkc.1.out.trans he); have hkd : KD w8 (w.heap.size + 1) w1.heap.size w6.heap.size w7.heap.size w8.heap.size (.int .i64 f) (.bool on) (.int .i64 a.f) (.bool a.neg) (.slice A0 a.num.length c0) (.slice B0 a.den.length d0) (.int .i64 0) (.bool false) (.slice A2 0 c2) (.slice B2 0 d2) (.int .i64 0) (.bool false) (.slice A3 0 c3) (.slice B3 0 d3) (.int .i64 x1) (.bool x2) (w8.alloc (.cells #[.int .i64 x1, .bool x2] 55)) := ⟨⟨(Ext.refl _).alloc _⟩, (hkc.2.1.ext he).ext ((Ext.refl _).alloc _), (hkc.2.2.1.ext he).ext ((Ext.refl _).alloc _), (hkc.2.2.2.1.ext he).ext ((Ext.refl _).alloc _), (hkc.2.2.2.2.ext he).ext ((Ext.refl _).alloc _), two_new w8 _ _ _⟩; clear hkc he) | (go_at_call 22; with_reducible refine zero_len.mono ?_; rintro e w9 ⟨rfl, he⟩; have hkd9 := KD.ext he hkd; clear hkd he) | (go_at_call 22; with_reducible refine zero_len.mono ?_; rintro e w10 ⟨rfl, he⟩; have hkd10 := KD.ext he hkd9; clear hkd9 he))
      have HEV := Aside.mk (HE7.out.trans HE8.out)
      have hkd11 := KD.ext (Ext.refl _).drew hkd10
      go_region_held (fun w' => KD w8 (w.heap.size + 1) w1.heap.size w6.heap.size w7.heap.size w8.heap.size (.int .i64 f) (.bool on) (.int .i64 a.f) (.bool a.neg) (.slice A0 a.num.length c0) (.slice B0 a.den.length d0) (.int .i64 0) (.bool false) (.slice A2 0 c2) (.slice B2 0 d2) (.int .i64 0) (.bool false) (.slice A3 0 c3) (.slice B3 0 d3) (.int .i64 x1) (.bool x2) w') (first | assumption | exact KD.ext (by assumption) (by assumption)) (first | (go_at_call 54; with_reducible refine (rnot_calls HRB.out).mono ?_; rintro e w15 ⟨rfl, he15⟩) | (go_at_call 23; with_reducible refine (alive_calls ((HG1.out.ext HEV.out).ext (Aside.out (And.left (show KD w8 (w.heap.size + 1) w1.heap.size w6.heap.size w7.heap.size w8.heap.size (.int .i64 f) (.bool on) (.int .i64 a.f) (.bool a.neg) (.slice A0 a.num.length c0) (.slice B0 a.den.length d0) (.int .i64 0) (.bool false) (.slice A2 0 c2) (.slice B2 0 d2) (.int .i64 0) (.bool false) (.slice A3 0 c3) (.slice B3 0 d3) (.int .i64 x1) (.bool x2) _ from by assumption))))).mono ?_; rintro e w16 ⟨rfl, he16⟩))
      have hkd16 := KD.ext he16 (KD.ext he15 hkd11)
      have HEND := Aside.mk ((HE1.out.trans HEV.out).trans hkd16.1.out)
      clear hkd11 hkd16 he15 he16
      go_wp2
      go_ret
      exact ⟨rfl, HEND.out⟩
  · have HKA := Aside.mk hka
    obtain ⟨q1, hq1⟩ : ∃ q, (madeq a a (oppq a)).1 = q := ⟨_, rfl⟩
    obtain ⟨q2, hq2⟩ : ∃ q, (madeq a a (floorq a.neg (val a.num) (val a.den))).1 = q := ⟨_, rfl⟩
    have HMN := Aside.mk (madeq_good hka hka hq1)
    have HMF := Aside.mk (madeq_good hka hka hq2)
    have HQN := Aside.mk hq1
    have HQF := Aside.mk hq2
    clear hka hq1 hq2
    cases hkb : okb f on
    · have HKB := Aside.mk hkb
      have HMB : Aside (bitq f f on on (!on) = ((0, false), 5)) := ⟨by simp [bitq, hkb]⟩
      clear hkb hx HRB
      go_enter Tryz.func10, Tryz.ntmps10
      go_wp2_with (go_at_call 25; with_reducible refine (rat_q (HX.out.ext hk0.1.out) (HY.out.ext hk0.1.out) HQ.out).mono ?_; rintro e w1 ⟨r, rfl, hr, he⟩; have HA := Aside.mk hr.rr; have HE1 := Aside.mk (hk0.1.out.trans he); have HG1 := Aside.mk (HG.out.ext HE1.out); obtain ⟨A0, c0, B0, d0, rfl⟩ := hr.form; have hka : KA w1 (w.heap.size + 1) w1.heap.size (.int .i64 f) (.bool on) (.int .i64 a.f) (.bool a.neg) (.slice A0 a.num.length c0) (.slice B0 a.den.length d0) (w1.alloc (.cells #[.int .i64 a.f, .bool a.neg, .slice A0 a.num.length c0, .slice B0 a.den.length d0] 26)) := ⟨⟨(Ext.refl _).alloc _⟩, (hk0.2.1.ext he).ext ((Ext.refl _).alloc _), four_new w1 _ _ _ _ _⟩; clear hk0 hr he)
      have hka' := KA.ext (Ext.refl _).drew hka
      go_region_held (fun w' => KA w1 (w.heap.size + 1) w1.heap.size (.int .i64 f) (.bool on) (.int .i64 a.f) (.bool a.neg) (.slice A0 a.num.length c0) (.slice B0 a.den.length d0) w') (first | assumption | exact KA.ext (by assumption) (by assumption)) (first | (go_at_call 27; with_reducible refine (risrat_calls (HA.out.ext (Aside.out (And.left (show KA w1 (w.heap.size + 1) w1.heap.size (.int .i64 f) (.bool on) (.int .i64 a.f) (.bool a.neg) (.slice A0 a.num.length c0) (.slice B0 a.den.length d0) _ from by assumption)))) HKA.out).mono ?_; rintro e w2 ⟨rfl, he2⟩) | (go_at_call 48; with_reducible refine (risbit_calls HKB.out).mono ?_; rintro e w3 ⟨rfl, he3⟩))
      have hka3 := KA.ext he3 (KA.ext he2 hka')
      clear hka hka' he2 he3
      go_wp2_with (first | (go_at_call 49; with_reducible refine (israt_b (HA.out.ext hka3.1.out) HKA.out).mono ?_; rintro e w4 ⟨rfl, he⟩; have hka4 := KA.ext he hka3; clear hka3 he) | (go_at_call 50; with_reducible refine (isbit_b HKB.out).mono ?_; rintro e w5 ⟨rfl, he⟩; have hka5 := KA.ext he hka4; clear hka4 he) | (go_at_call 43; with_reducible refine (good2 (Neg2_calls (HA.out.ext hka5.1.out) rfl) HMN.out).mono ?_; rintro e w6 ⟨r, rfl, hr, he⟩; have HN6 := Aside.mk hr.rr; obtain ⟨A2, c2, B2, d2, rfl⟩ := hr.form; have HE6 := Aside.mk (hka5.1.out.trans he); have hkb : KB w6 (w.heap.size + 1) w1.heap.size w6.heap.size (.int .i64 f) (.bool on) (.int .i64 a.f) (.bool a.neg) (.slice A0 a.num.length c0) (.slice B0 a.den.length d0) (.int .i64 q1.f) (.bool q1.neg) (.slice A2 q1.num.length c2) (.slice B2 q1.den.length d2) (w6.alloc (.cells #[.int .i64 q1.f, .bool q1.neg, .slice A2 q1.num.length c2, .slice B2 q1.den.length d2] 26)) := ⟨⟨(Ext.refl _).alloc _⟩, (hka5.2.1.ext he).ext ((Ext.refl _).alloc _), (hka5.2.2.ext he).ext ((Ext.refl _).alloc _), four_new w6 _ _ _ _ _⟩; clear hka5 hr he) | (go_at_call 45; with_reducible refine (good2 (Floor2_calls ((HA.out.ext HE6.out).ext hkb.1.out) rfl) HMF.out).mono ?_; rintro e w7 ⟨r, rfl, hr, he⟩; have HF7 := Aside.mk hr.rr; obtain ⟨A3, c3, B3, d3, rfl⟩ := hr.form; have HE7 := Aside.mk ((HE6.out.trans hkb.1.out).trans he); have HN7 := Aside.mk (HN6.out.ext (hkb.1.out.trans he)); have hkc : KC w7 (w.heap.size + 1) w1.heap.size w6.heap.size w7.heap.size (.int .i64 f) (.bool on) (.int .i64 a.f) (.bool a.neg) (.slice A0 a.num.length c0) (.slice B0 a.den.length d0) (.int .i64 q1.f) (.bool q1.neg) (.slice A2 q1.num.length c2) (.slice B2 q1.den.length d2) (.int .i64 q2.f) (.bool q2.neg) (.slice A3 q2.num.length c3) (.slice B3 q2.den.length d3) (w7.alloc (.cells #[.int .i64 q2.f, .bool q2.neg, .slice A3 q2.num.length c3, .slice B3 q2.den.length d3] 26)) := ⟨⟨(Ext.refl _).alloc _⟩, (hkb.2.1.ext he).ext ((Ext.refl _).alloc _), (hkb.2.2.1.ext he).ext ((Ext.refl _).alloc _), (hkb.2.2.2.ext he).ext ((Ext.refl _).alloc _), four_new w7 _ _ _ _ _⟩; clear hkb hr he) | (go_at_call 51; with_reducible refine (not2_calls HMB.out).mono ?_; rintro e w8 ⟨rfl, he⟩; have HE8 := Aside.mk (hkc.1.out.trans he); have hkd : KD w8 (w.heap.size + 1) w1.heap.size w6.heap.size w7.heap.size w8.heap.size (.int .i64 f) (.bool on) (.int .i64 a.f) (.bool a.neg) (.slice A0 a.num.length c0) (.slice B0 a.den.length d0) (.int .i64 q1.f) (.bool q1.neg) (.slice A2 q1.num.length c2) (.slice B2 q1.den.length d2) (.int .i64 q2.f) (.bool q2.neg) (.slice A3 q2.num.length c3) (.slice B3 q2.den.length d3) (.int .i64 0) (.bool false) (w8.alloc (.cells #[.int .i64 0, .bool false] 55)) := ⟨⟨(Ext.refl _).alloc _⟩, (hkc.2.1.ext he).ext ((Ext.refl _).alloc _), (hkc.2.2.1.ext he).ext ((Ext.refl _).alloc _), (hkc.2.2.2.1.ext he).ext ((Ext.refl _).alloc _), (hkc.2.2.2.2.ext he).ext ((Ext.refl _).alloc _), two_new w8 _ _ _⟩; clear hkc he))
      have HEV := Aside.mk (HE7.out.trans HE8.out)
      have HA8 := Aside.mk (HA.out.ext HEV.out)
      have HN8 := Aside.mk (HN7.out.ext HE8.out)
      have HF8 := Aside.mk (HF7.out.ext HE8.out)
      have hkd' := KD.ext (Ext.refl _).drew hkd
      go_region_held (fun w' => KD w8 (w.heap.size + 1) w1.heap.size w6.heap.size w7.heap.size w8.heap.size (.int .i64 f) (.bool on) (.int .i64 a.f) (.bool a.neg) (.slice A0 a.num.length c0) (.slice B0 a.den.length d0) (.int .i64 q1.f) (.bool q1.neg) (.slice A2 q1.num.length c2) (.slice B2 q1.den.length d2) (.int .i64 q2.f) (.bool q2.neg) (.slice A3 q2.num.length c3) (.slice B3 q2.den.length d3) (.int .i64 0) (.bool false) w') (first | assumption | exact KD.ext (by assumption) (by assumption)) (first | (go_at_call 52; with_reducible refine (rNeg_calls (HA8.out.ext (Aside.out (And.left (show KD w8 (w.heap.size + 1) w1.heap.size w6.heap.size w7.heap.size w8.heap.size (.int .i64 f) (.bool on) (.int .i64 a.f) (.bool a.neg) (.slice A0 a.num.length c0) (.slice B0 a.den.length d0) (.int .i64 q1.f) (.bool q1.neg) (.slice A2 q1.num.length c2) (.slice B2 q1.den.length d2) (.int .i64 q2.f) (.bool q2.neg) (.slice A3 q2.num.length c3) (.slice B3 q2.den.length d3) (.int .i64 0) (.bool false) _ from by assumption)))) HKA.out HQN.out).mono ?_; rintro e w11 ⟨r, rfl, hr, he11⟩; have HR11 := Aside.mk hr.rr; obtain ⟨A7, c7, B7, d7, rfl⟩ := hr.form; clear hr) | (go_at_call 17; with_reducible refine (gives_same (HN8.out.ext (Aside.out (And.left (show KD w8 (w.heap.size + 1) w1.heap.size w6.heap.size w7.heap.size w8.heap.size (.int .i64 f) (.bool on) (.int .i64 a.f) (.bool a.neg) (.slice A0 a.num.length c0) (.slice B0 a.den.length d0) (.int .i64 q1.f) (.bool q1.neg) (.slice A2 q1.num.length c2) (.slice B2 q1.den.length d2) (.int .i64 q2.f) (.bool q2.neg) (.slice A3 q2.num.length c3) (.slice B3 q2.den.length d3) (.int .i64 0) (.bool false) _ from by assumption)))) HR11.out).mono ?_; rintro e w12 ⟨rfl, he12⟩) | (go_at_call 53; with_reducible refine (rFloor_calls (HA8.out.ext (Aside.out (And.left (show KD w8 (w.heap.size + 1) w1.heap.size w6.heap.size w7.heap.size w8.heap.size (.int .i64 f) (.bool on) (.int .i64 a.f) (.bool a.neg) (.slice A0 a.num.length c0) (.slice B0 a.den.length d0) (.int .i64 q1.f) (.bool q1.neg) (.slice A2 q1.num.length c2) (.slice B2 q1.den.length d2) (.int .i64 q2.f) (.bool q2.neg) (.slice A3 q2.num.length c3) (.slice B3 q2.den.length d3) (.int .i64 0) (.bool false) _ from by assumption)))) HKA.out HQF.out).mono ?_; rintro e w13 ⟨r, rfl, hr, he13⟩; have HR13 := Aside.mk hr.rr; obtain ⟨A9, c9, B9, d9, rfl⟩ := hr.form; clear hr) | (go_at_call 17; with_reducible refine (gives_same (HF8.out.ext (Aside.out (And.left (show KD w8 (w.heap.size + 1) w1.heap.size w6.heap.size w7.heap.size w8.heap.size (.int .i64 f) (.bool on) (.int .i64 a.f) (.bool a.neg) (.slice A0 a.num.length c0) (.slice B0 a.den.length d0) (.int .i64 q1.f) (.bool q1.neg) (.slice A2 q1.num.length c2) (.slice B2 q1.den.length d2) (.int .i64 q2.f) (.bool q2.neg) (.slice A3 q2.num.length c3) (.slice B3 q2.den.length d3) (.int .i64 0) (.bool false) _ from by assumption)))) HR13.out).mono ?_; rintro e w14 ⟨rfl, he14⟩))
      have hkd14 := KD.ext he14 (KD.ext he13 (KD.ext he12 (KD.ext he11 hkd')))
      clear hkd hkd' he11 he12 he13 he14
      go_wp2_with (go_at_call 23; with_reducible refine (alive_calls ((HG1.out.ext (HEV.out)).ext hkd14.1.out)).mono ?_; rintro e w16 ⟨rfl, he16⟩; have HEND := Aside.mk ((HE1.out.trans (HEV.out)).trans (hkd14.1.out.trans he16)); clear hkd14 he16)
      go_ret
      exact ⟨rfl, HEND.out⟩
    · have HKB := Aside.mk hkb
      have HMB : Aside (bitq f f on on (!on) = ((x1, x2), 0)) := ⟨by simp [bitq, hkb, leastq_self', hx]⟩
      clear hkb hx
      go_enter Tryz.func10, Tryz.ntmps10
      go_wp2_with (go_at_call 25; with_reducible refine (rat_q (HX.out.ext hk0.1.out) (HY.out.ext hk0.1.out) HQ.out).mono ?_; rintro e w1 ⟨r, rfl, hr, he⟩; have HA := Aside.mk hr.rr; have HE1 := Aside.mk (hk0.1.out.trans he); have HG1 := Aside.mk (HG.out.ext HE1.out); obtain ⟨A0, c0, B0, d0, rfl⟩ := hr.form; have hka : KA w1 (w.heap.size + 1) w1.heap.size (.int .i64 f) (.bool on) (.int .i64 a.f) (.bool a.neg) (.slice A0 a.num.length c0) (.slice B0 a.den.length d0) (w1.alloc (.cells #[.int .i64 a.f, .bool a.neg, .slice A0 a.num.length c0, .slice B0 a.den.length d0] 26)) := ⟨⟨(Ext.refl _).alloc _⟩, (hk0.2.1.ext he).ext ((Ext.refl _).alloc _), four_new w1 _ _ _ _ _⟩; clear hk0 hr he)
      have hka' := KA.ext (Ext.refl _).drew hka
      go_region_held (fun w' => KA w1 (w.heap.size + 1) w1.heap.size (.int .i64 f) (.bool on) (.int .i64 a.f) (.bool a.neg) (.slice A0 a.num.length c0) (.slice B0 a.den.length d0) w') (first | assumption | exact KA.ext (by assumption) (by assumption)) (first | (go_at_call 27; with_reducible refine (risrat_calls (HA.out.ext (Aside.out (And.left (show KA w1 (w.heap.size + 1) w1.heap.size (.int .i64 f) (.bool on) (.int .i64 a.f) (.bool a.neg) (.slice A0 a.num.length c0) (.slice B0 a.den.length d0) _ from by assumption)))) HKA.out).mono ?_; rintro e w2 ⟨rfl, he2⟩) | (go_at_call 48; with_reducible refine (risbit_calls HKB.out).mono ?_; rintro e w3 ⟨rfl, he3⟩))
      have hka3 := KA.ext he3 (KA.ext he2 hka')
      clear hka hka' he2 he3
      go_wp2_with (first | (go_at_call 49; with_reducible refine (israt_b (HA.out.ext hka3.1.out) HKA.out).mono ?_; rintro e w4 ⟨rfl, he⟩; have hka4 := KA.ext he hka3; clear hka3 he) | (go_at_call 50; with_reducible refine (isbit_b HKB.out).mono ?_; rintro e w5 ⟨rfl, he⟩; have hka5 := KA.ext he hka4; clear hka4 he) | (go_at_call 43; with_reducible refine (good2 (Neg2_calls (HA.out.ext hka5.1.out) rfl) HMN.out).mono ?_; rintro e w6 ⟨r, rfl, hr, he⟩; have HN6 := Aside.mk hr.rr; obtain ⟨A2, c2, B2, d2, rfl⟩ := hr.form; have HE6 := Aside.mk (hka5.1.out.trans he); have hkb : KB w6 (w.heap.size + 1) w1.heap.size w6.heap.size (.int .i64 f) (.bool on) (.int .i64 a.f) (.bool a.neg) (.slice A0 a.num.length c0) (.slice B0 a.den.length d0) (.int .i64 q1.f) (.bool q1.neg) (.slice A2 q1.num.length c2) (.slice B2 q1.den.length d2) (w6.alloc (.cells #[.int .i64 q1.f, .bool q1.neg, .slice A2 q1.num.length c2, .slice B2 q1.den.length d2] 26)) := ⟨⟨(Ext.refl _).alloc _⟩, (hka5.2.1.ext he).ext ((Ext.refl _).alloc _), (hka5.2.2.ext he).ext ((Ext.refl _).alloc _), four_new w6 _ _ _ _ _⟩; clear hka5 hr he) | (go_at_call 45; with_reducible refine (good2 (Floor2_calls ((HA.out.ext HE6.out).ext hkb.1.out) rfl) HMF.out).mono ?_; rintro e w7 ⟨r, rfl, hr, he⟩; have HF7 := Aside.mk hr.rr; obtain ⟨A3, c3, B3, d3, rfl⟩ := hr.form; have HE7 := Aside.mk ((HE6.out.trans hkb.1.out).trans he); have HN7 := Aside.mk (HN6.out.ext (hkb.1.out.trans he)); have hkc : KC w7 (w.heap.size + 1) w1.heap.size w6.heap.size w7.heap.size (.int .i64 f) (.bool on) (.int .i64 a.f) (.bool a.neg) (.slice A0 a.num.length c0) (.slice B0 a.den.length d0) (.int .i64 q1.f) (.bool q1.neg) (.slice A2 q1.num.length c2) (.slice B2 q1.den.length d2) (.int .i64 q2.f) (.bool q2.neg) (.slice A3 q2.num.length c3) (.slice B3 q2.den.length d3) (w7.alloc (.cells #[.int .i64 q2.f, .bool q2.neg, .slice A3 q2.num.length c3, .slice B3 q2.den.length d3] 26)) := ⟨⟨(Ext.refl _).alloc _⟩, (hkb.2.1.ext he).ext ((Ext.refl _).alloc _), (hkb.2.2.1.ext he).ext ((Ext.refl _).alloc _), (hkb.2.2.2.ext he).ext ((Ext.refl _).alloc _), four_new w7 _ _ _ _ _⟩; clear hkb hr he) | (go_at_call 51; with_reducible refine (not2_calls HMB.out).mono ?_; rintro e w8 ⟨rfl, he⟩; have HE8 := Aside.mk (hkc.1.out.trans he); have hkd : KD w8 (w.heap.size + 1) w1.heap.size w6.heap.size w7.heap.size w8.heap.size (.int .i64 f) (.bool on) (.int .i64 a.f) (.bool a.neg) (.slice A0 a.num.length c0) (.slice B0 a.den.length d0) (.int .i64 q1.f) (.bool q1.neg) (.slice A2 q1.num.length c2) (.slice B2 q1.den.length d2) (.int .i64 q2.f) (.bool q2.neg) (.slice A3 q2.num.length c3) (.slice B3 q2.den.length d3) (.int .i64 x1) (.bool x2) (w8.alloc (.cells #[.int .i64 x1, .bool x2] 55)) := ⟨⟨(Ext.refl _).alloc _⟩, (hkc.2.1.ext he).ext ((Ext.refl _).alloc _), (hkc.2.2.1.ext he).ext ((Ext.refl _).alloc _), (hkc.2.2.2.1.ext he).ext ((Ext.refl _).alloc _), (hkc.2.2.2.2.ext he).ext ((Ext.refl _).alloc _), two_new w8 _ _ _⟩; clear hkc he))
      have HEV := Aside.mk (HE7.out.trans HE8.out)
      have HA8 := Aside.mk (HA.out.ext HEV.out)
      have HN8 := Aside.mk (HN7.out.ext HE8.out)
      have HF8 := Aside.mk (HF7.out.ext HE8.out)
      have hkd' := KD.ext (Ext.refl _).drew hkd
      go_region_held (fun w' => KD w8 (w.heap.size + 1) w1.heap.size w6.heap.size w7.heap.size w8.heap.size (.int .i64 f) (.bool on) (.int .i64 a.f) (.bool a.neg) (.slice A0 a.num.length c0) (.slice B0 a.den.length d0) (.int .i64 q1.f) (.bool q1.neg) (.slice A2 q1.num.length c2) (.slice B2 q1.den.length d2) (.int .i64 q2.f) (.bool q2.neg) (.slice A3 q2.num.length c3) (.slice B3 q2.den.length d3) (.int .i64 x1) (.bool x2) w') (first | assumption | exact KD.ext (by assumption) (by assumption)) (first | (go_at_call 52; with_reducible refine (rNeg_calls (HA8.out.ext (Aside.out (And.left (show KD w8 (w.heap.size + 1) w1.heap.size w6.heap.size w7.heap.size w8.heap.size (.int .i64 f) (.bool on) (.int .i64 a.f) (.bool a.neg) (.slice A0 a.num.length c0) (.slice B0 a.den.length d0) (.int .i64 q1.f) (.bool q1.neg) (.slice A2 q1.num.length c2) (.slice B2 q1.den.length d2) (.int .i64 q2.f) (.bool q2.neg) (.slice A3 q2.num.length c3) (.slice B3 q2.den.length d3) (.int .i64 x1) (.bool x2) _ from by assumption)))) HKA.out HQN.out).mono ?_; rintro e w11 ⟨r, rfl, hr, he11⟩; have HR11 := Aside.mk hr.rr; obtain ⟨A7, c7, B7, d7, rfl⟩ := hr.form; clear hr) | (go_at_call 17; with_reducible refine (gives_same (HN8.out.ext (Aside.out (And.left (show KD w8 (w.heap.size + 1) w1.heap.size w6.heap.size w7.heap.size w8.heap.size (.int .i64 f) (.bool on) (.int .i64 a.f) (.bool a.neg) (.slice A0 a.num.length c0) (.slice B0 a.den.length d0) (.int .i64 q1.f) (.bool q1.neg) (.slice A2 q1.num.length c2) (.slice B2 q1.den.length d2) (.int .i64 q2.f) (.bool q2.neg) (.slice A3 q2.num.length c3) (.slice B3 q2.den.length d3) (.int .i64 x1) (.bool x2) _ from by assumption)))) HR11.out).mono ?_; rintro e w12 ⟨rfl, he12⟩) | (go_at_call 53; with_reducible refine (rFloor_calls (HA8.out.ext (Aside.out (And.left (show KD w8 (w.heap.size + 1) w1.heap.size w6.heap.size w7.heap.size w8.heap.size (.int .i64 f) (.bool on) (.int .i64 a.f) (.bool a.neg) (.slice A0 a.num.length c0) (.slice B0 a.den.length d0) (.int .i64 q1.f) (.bool q1.neg) (.slice A2 q1.num.length c2) (.slice B2 q1.den.length d2) (.int .i64 q2.f) (.bool q2.neg) (.slice A3 q2.num.length c3) (.slice B3 q2.den.length d3) (.int .i64 x1) (.bool x2) _ from by assumption)))) HKA.out HQF.out).mono ?_; rintro e w13 ⟨r, rfl, hr, he13⟩; have HR13 := Aside.mk hr.rr; obtain ⟨A9, c9, B9, d9, rfl⟩ := hr.form; clear hr) | (go_at_call 17; with_reducible refine (gives_same (HF8.out.ext (Aside.out (And.left (show KD w8 (w.heap.size + 1) w1.heap.size w6.heap.size w7.heap.size w8.heap.size (.int .i64 f) (.bool on) (.int .i64 a.f) (.bool a.neg) (.slice A0 a.num.length c0) (.slice B0 a.den.length d0) (.int .i64 q1.f) (.bool q1.neg) (.slice A2 q1.num.length c2) (.slice B2 q1.den.length d2) (.int .i64 q2.f) (.bool q2.neg) (.slice A3 q2.num.length c3) (.slice B3 q2.den.length d3) (.int .i64 x1) (.bool x2) _ from by assumption)))) HR13.out).mono ?_; rintro e w14 ⟨rfl, he14⟩))
      have hkd14 := KD.ext he14 (KD.ext he13 (KD.ext he12 (KD.ext he11 hkd')))
      clear hkd hkd' he11 he12 he13 he14
      go_wp2
      have hkd11 := KD.ext (Ext.refl _).drew hkd14
      go_region_held (fun w' => KD w8 (w.heap.size + 1) w1.heap.size w6.heap.size w7.heap.size w8.heap.size (.int .i64 f) (.bool on) (.int .i64 a.f) (.bool a.neg) (.slice A0 a.num.length c0) (.slice B0 a.den.length d0) (.int .i64 q1.f) (.bool q1.neg) (.slice A2 q1.num.length c2) (.slice B2 q1.den.length d2) (.int .i64 q2.f) (.bool q2.neg) (.slice A3 q2.num.length c3) (.slice B3 q2.den.length d3) (.int .i64 x1) (.bool x2) w') (first | assumption | exact KD.ext (by assumption) (by assumption)) (first | (go_at_call 54; with_reducible refine (rnot_calls HRB.out).mono ?_; rintro e w15 ⟨rfl, he15⟩) | (go_at_call 23; with_reducible refine (alive_calls ((HG1.out.ext HEV.out).ext (Aside.out (And.left (show KD w8 (w.heap.size + 1) w1.heap.size w6.heap.size w7.heap.size w8.heap.size (.int .i64 f) (.bool on) (.int .i64 a.f) (.bool a.neg) (.slice A0 a.num.length c0) (.slice B0 a.den.length d0) (.int .i64 q1.f) (.bool q1.neg) (.slice A2 q1.num.length c2) (.slice B2 q1.den.length d2) (.int .i64 q2.f) (.bool q2.neg) (.slice A3 q2.num.length c3) (.slice B3 q2.den.length d3) (.int .i64 x1) (.bool x2) _ from by assumption))))).mono ?_; rintro e w16 ⟨rfl, he16⟩))
      have hkd16 := KD.ext he16 (KD.ext he15 hkd11)
      have HEND := Aside.mk ((HE1.out.trans HEV.out).trans hkd16.1.out)
      clear hkd11 hkd16 he15 he16
      go_wp2
      go_ret
      exact ⟨rfl, HEND.out⟩
end Go.Proofs.YtgfkachfbnbikaaGreatDoor

namespace Go.Proofs.YtgfkachfbnbikaaGreatDoor
open Go.RowKit Go.ChangeShapes Go.WideShapes Go.ChangeAt

set_option maxRecDepth 100000 in
theorem bit_of {H : Type} {enc : TypeId × Value → H} {W : World} {n base : Nat} {v : Value} {x : DataW H × List MemPlace} {held : Bool} (hv : Value.okWide Tryz.prog W .any base 55 v)
    (h : DataW.trod enc Tryz.prog W 0 (fun _ => true) held n 55 v.cells.toList = some x) : ∃ f on, v = .agg #[.int .i64 f, .bool on] := by
  have c55 : Tryz.prog.cellsOf 55 = 2 := by kernel_rfl
  have c24 : Tryz.prog.cellsOf 24 = 1 := by kernel_rfl
  have c4 : Tryz.prog.cellsOf 4 = 1 := by kernel_rfl
  simp only [Value.okWide, Tryz.underlying55] at hv
  obtain ⟨cs, rfl, hsz, _⟩ := hv
  obtain ⟨a, b, rfl⟩ := arr2 (hsz.trans c55)
  obtain ⟨xs, m, _, _, _, hn, hel⟩ := DataW.trod_struct Tryz.underlying55 h
  have h0 := hel 0 _ rfl
  have h1 := hel 1 _ rfl
  rw [show Tryz.prog.cellsOf (Field.type _) = 1 from c24] at h0
  rw [show Tryz.prog.cellsOf (Field.type _) = 1 from c4] at h1
  match xs, hn with
  | [y0, y1], _ =>
    obtain ⟨f, e0, _⟩ := DataW.trod_int Tryz.underlying24 (show DataW.trod enc Tryz.prog W 0 (fun _ => true) held m 24 [a] = some y0 from h0)
    obtain ⟨on, e1, _⟩ := DataW.trod_bool Tryz.underlying4 (show DataW.trod enc Tryz.prog W 0 (fun _ => true) held m 4 [b] = some y1 from h1)
    simp only [List.cons.injEq, and_true] at e0 e1
    subst e0 e1
    exact ⟨_, _, rfl⟩
end Go.Proofs.YtgfkachfbnbikaaGreatDoor

namespace Go.Proofs.YtgfkachfbnbikaaGreatDoor
open Go.RowKit Go.ChangeShapes Go.WideShapes Go.ChangeAt

set_option maxRecDepth 100000 in
theorem forms_lifted (os : Os) (started : os.Started) (H : Type) (enc : TypeId × Value → H) :
    ReturnsInHanded {} Tryz.checked os 10 .any (fun w args => (Rows.fracFormsSpec.pre enc Tryz.prog Tryz.f10 [] false w args ∧ laidMetH Tryz.prog Rows.fracFormsRow.laid w) ∧ sizedMet enc Tryz.prog Tryz.f10 (OpenSpec.ofChange Rows.fracFormsSpec) false w args)
      (Rows.fracFormsSpec.post enc Tryz.prog Tryz.f10 false true false false) := by
  refine returns_law (C := Tryz.checked) (X := fun w _ => laidMetH Tryz.prog Rows.fracFormsRow.laid w) (fun _ _ _ hh h => h.of_heap hh) Tryz.own started (by kernel_rfl) Tryz.func10
    (ChangeSpec.witness_shaped (enc := enc) (C := Tryz.checked) (os := os) (X := fun w _ => laidMetH Tryz.prog Rows.fracFormsRow.laid w) false (World.laidAll Tryz.prog os Rows.fracFormsRow.laid) #[.agg #[.int .i64 0, .bool false, .slice none 0 0, .slice none 0 0], .agg #[.int .i64 0, .bool false]] 8 (World.laidAll_os _ _ _)
      (World.shaped_of_ZipB (by kernel_rfl) (by kernel_rfl)) (by kernel_rfl) (by kernel_rfl) (by kernel_rfl)
      (by rw [MakeChecks.laidMetH_plain _ _ _ (by kernel_rfl)]; exact laidMet_laidAll _ (by kernel_rfl) (by kernel_rfl))) ?_
  intro W base args ds gs before hval0 hW hL hsh
  have hval : ∀ (j : Nat) t v, Tryz.f10.params[j]? = some t → args[j]? = some v → Value.okWide Tryz.prog W .any base t v := hval0
  have hW' := hW
  obtain ⟨p, q, hA0, hV, rfl, hfz, hnd⟩ := hW
  have hA : DataW.TrodAll enc Tryz.prog W 0 (fun _ => true) true Tryz.f10.params.toList args.toList ds p := hA0
  have hA' := hA
  rw [Tryz.params10] at hA hval
  obtain ⟨v0, v1, d0, d1, p0, p1, rfl, rfl, rfl, ⟨k0, h0⟩, ⟨k1, h1⟩⟩ := trodAll_two hA
  obtain ⟨rfl, rfl⟩ := trodVars_none hV
  have hG := glob_of (by kernel_rfl) rfl hL hsh
  obtain ⟨f1, n1, sx1, sy1, xs1, ys1, rfl, hx1, hy1⟩ := rat_of (hval 0 26 v0 rfl rfl) h0
  obtain ⟨f2, on, rfl⟩ := bit_of (hval 1 55 v1 rfl rfl) h1
  refine (forms_calls hG hx1 hy1).mono fun e W' ⟨he, hw⟩ => ?_
  subst he
  refine ⟨_, rfl, law_post (ts := Tryz.f10.params.toList) rfl rfl rfl ?_ ⟨rfl, rfl, rfl⟩ hW' (by simpa using hA') hw⟩
  rw [Tryz.params10]
  exact read_all (by kernel_rfl)

theorem fracForms_holds : Rows.FracFormsSaid :=
  OpenClaim.holds_of_wide 10 Tryz.f10 rfl rfl rfl rfl rfl rfl rfl ⟨rfl, rfl, rfl, rfl, rfl⟩ rfl rfl rfl rfl rfl (by kernel_rfl) Tryz.func10 (by kernel_rfl)
    (of_decide_eq_true (by kernel_rfl)) (by unfold Func.isWrapper; first | (rw [if_neg (by decide +kernel)]; exact ⟨rfl, rfl⟩) | (rw [if_pos (by decide +kernel)]; kernel_rfl))
    (fun os started H enc _ => forms_lifted os started H enc)
end Go.Proofs.YtgfkachfbnbikaaGreatDoor

namespace Go.Proofs.YtgfkachfbnbikaaGreatDoor
open Go

set_option maxRecDepth 100000 in
theorem fracForms_card : Rows.FracFormsCardSaid :=
  Claim7.holds_tied_plain_at .later [] [.data, .data, .pinned] true (true, "d85da3931ba373f0f2d5a7ce168e29c3a5db8cee51669ffe15e332533fbaa330") false
    fracForms_holds (fun _ h => by cases h) (by kernel_rfl) (fun _ h => by cases h) fracForms_row_tie rfl ⟨rfl, rfl⟩ (by kernel_rfl) rfl
    (fun f fn hf hfn => by
      obtain rfl : f = 10 := Option.some.inj ((show Tryz.prog.funcNamed "fluxion/fluxionlaw02.FracForms" = some 10 by kernel_rfl).symm.trans hf) |>.symm
      obtain rfl : fn = Tryz.f10 := (Option.some.inj (Tryz.func10.symm.trans hfn)).symm
      exact ⟨by kernel_rfl, fun j t ht => by
        rw [Tryz.params10] at ht
        have hm : t ∈ Tryz.f10.params.toList := by rw [Tryz.params10]; exact Array.mem_toList_iff.2 (Array.mem_of_getElem? ht)
        have hall : (Tryz.f10.params.toList.all fun u => !Tryz.prog.wantsStandIn u) = true := by kernel_rfl
        exact (show Tryz.prog.wantsStandIn t = false by simpa using List.all_eq_true.1 hall t hm)⟩)
    (by kernel_rfl)
#print axioms fracForms_card
end Go.Proofs.YtgfkachfbnbikaaGreatDoor
