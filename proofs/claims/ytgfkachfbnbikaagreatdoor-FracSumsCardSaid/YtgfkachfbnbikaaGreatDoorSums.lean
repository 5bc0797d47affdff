/- FracSums: the call returns true. FracSums: of every input the call returns true, and each argument reads behind it as it read before. FracSums: the tied card holds: for any two Rats Add and Sub return the sum and the difference of the specification, faults too, or ErrForm. Conditions: the package-level variables that the row lists start as the program's text lays them (the tie is given). -/
import Derived.Test.YtgfkachfbnbikaaGreatDoorMn
import Derived.Test.YtgfkachfbnbikaaGreatDoorMq
import Derived.Test.YtgfkachfbnbikaaGreatDoorMp
import Derived.Test.YtgfkachfbnbikaaGreatDoorCards
import Derived.Test.YtgfkachfbnbikaaGreatDoorTie
import Derived.SevenTiedAt
namespace Go.Proofs.YtgfkachfbnbikaaGreatDoor
open Go.RowKit

set_option maxRecDepth 10000 in
set_option maxHeartbeats 4000000 in
theorem sums_calls {w : World} {f1 f2 : Int} {n1 n2 : Bool} {sx1 sy1 sx2 sy2 : Value} {xs1 ys1 xs2 ys2 : List Nat} (hg : Glob w) (hx1 : RL w sx1 xs1) (hy1 : RL w sy1 ys1) (hx2 : RL w sx2 xs2) (hy2 : RL w sy2 ys2) :
    Calls Tryz.prog 6 #[.agg #[.int .i64 f1, .bool n1, sx1, sy1], .agg #[.int .i64 f2, .bool n2, sx2, sy2]] w fun e w' => e = .returned (.bool true) ∧ Ext w w' := by
  have HG := Aside.mk hg
  have HX1 := Aside.mk hx1
  have HY1 := Aside.mk hy1
  have HX2 := Aside.mk hx2
  have HY2 := Aside.mk hy2
  obtain ⟨a, ha⟩ : ∃ a : Rq, (⟨f1, n1, xs1.take 132, ys1.take 132⟩ : Rq) = a := ⟨_, rfl⟩
  obtain ⟨b, hb⟩ : ∃ b : Rq, (⟨f2, n2, xs2.take 132, ys2.take 132⟩ : Rq) = b := ⟨_, rfl⟩
  have HQ1 := Aside.mk ha
  have HQ2 := Aside.mk hb
  obtain ⟨AX1, cx1, rfl, _⟩ := hx1
  obtain ⟨AY1, cy1, rfl, _⟩ := hy1
  obtain ⟨AX2, cx2, rfl, _⟩ := hx2
  obtain ⟨AY2, cy2, rfl, _⟩ := hy2
  generalize xs1.length = nx1 at *
  generalize ys1.length = ny1 at *
  generalize xs2.length = nx2 at *
  generalize ys2.length = ny2 at *
  clear ha hb hg
  have hk0 := KeepE.ext (Ext.refl _).drew (KeepE.init w (.int .i64 f1) (.bool n1) (.slice AX1 nx1 cx1) (.slice AY1 ny1 cy1) (.int .i64 f2) (.bool n2) (.slice AX2 nx2 cx2) (.slice AY2 ny2 cy2) 26 26)
  have HL : Lasts (KeepE w (.int .i64 f1) (.bool n1) (.slice AX1 nx1 cx1) (.slice AY1 ny1 cy1) (.int .i64 f2) (.bool n2) (.slice AX2 nx2 cx2) (.slice AY2 ny2 cy2)) (w.heap.size + 2) := ⟨fun _ _ e h => KeepE.ext e h, fun _ _ _ _ _ _ h k => KeepE.four k h _ _ _ _⟩
  have HK0 := Aside.mk hk0
  clear hk0
  go_enter Tryz.func6, Tryz.ntmps6
  go_upto_region 1 with fail
  refine wp_region_each (fun a0 l a' w' => ∃ (vl vc vb : Nat → Value) (P : Nat → Nat), a' = (((((a0.put (some 11) (vl 0)).put (some 12) (vc 0)).put (some 13) (vl 1)).put (some 14) (vc 1)).put (some 5) (vb 0)).put (some 6) (vb 1) ∧
    InvN 2 l (KeepE w (.int .i64 f1) (.bool n1) (.slice AX1 nx1 cx1) (.slice AY1 ny1 cy1) (.int .i64 f2) (.bool n2) (.slice AX2 nx2 cx2) (.slice AY2 ny2 cy2)) (w.heap.size + 2)
      (two (.agg #[.int .i64 f1, .bool n1, .slice AX1 nx1 cx1, .slice AY1 ny1 cy1]) (.agg #[.int .i64 f2, .bool n2, .slice AX2 nx2 cx2, .slice AY2 ny2 cy2])) (two a b) vl vc vb P w') (by kernel_rfl) (by kernel_rfl) ?start ?fin ?each
  case start => exact ⟨fun _ => undef, fun _ => undef, fun _ => undef, fun _ => 0, rfl, InvN.start HK0.out (KeepE.big HK0.out)⟩
  case each =>
    refine Each.cons (j := 1) rfl ?s0 (Each.cons (j := 2) rfl ?s1 (Each.cons (j := 3) rfl ?s2 (Each.cons (j := 4) rfl ?s3 (Each.cons (j := 5) rfl ?s4 (Each.cons (j := 6) rfl ?s5 (Each.cons (j := 7) rfl ?s6 (Each.cons (j := 8) rfl ?s7 Each.nil)))))))
    case s0 =>
      rintro l a' w' - - ⟨vl, vc, vb, P, rfl, I⟩
      have hk := I.keep
      intro K' hK
      simp only [Act.put, List.setIfInBounds_toArray, List.set_cons_zero, List.set_cons_succ]
      go_simp
      exact hK.out _ _ ⟨upd vl 0 _, vc, vb, P, rfl, I.loads 0 (by decide)⟩
    case s1 =>
      rintro l a' w' h0 hd ⟨vl, vc, vb, P, rfl, I⟩
      obtain ⟨vl, rfl⟩ := upd_eta (I.load 0 (by decide) (hd (2 * 0) (by decide)))
      have HK := Aside.mk I.keep.1.out
      clear hd
      intro K' hK
      simp only [Act.put, List.setIfInBounds_toArray, List.set_cons_zero, List.set_cons_succ, upd_same, two0]
      go_simp
      go_wp2_with (go_at_call 25; with_reducible refine (rat_q (HX1.out.ext HK.out) (HY1.out.ext HK.out) HQ1.out).mono ?_; rintro e w4 ⟨r, rfl, hr, he⟩)
      exact hK.out _ _ ⟨upd vl 0 _, upd vc 0 r, vb, P, rfl, I.calls HL 0 (by decide) h0 he hr⟩
    case s2 =>
      rintro l a' w' - - ⟨vl, vc, vb, P, rfl, I⟩
      have hk := I.keep
      intro K' hK
      simp only [Act.put, List.setIfInBounds_toArray, List.set_cons_zero, List.set_cons_succ]
      go_simp
      exact hK.out _ _ ⟨upd vl 1 _, vc, vb, P, rfl, I.loads 1 (by decide)⟩
    case s3 =>
      rintro l a' w' h0 hd ⟨vl, vc, vb, P, rfl, I⟩
      obtain ⟨vl, rfl⟩ := upd_eta (I.load 1 (by decide) (hd (2 * 1) (by decide)))
      have HK := Aside.mk I.keep.1.out
      clear hd
      intro K' hK
      simp only [Act.put, List.setIfInBounds_toArray, List.set_cons_zero, List.set_cons_succ, upd_same, two1]
      go_simp
      go_wp2_with (go_at_call 25; with_reducible refine (rat_q (HX2.out.ext HK.out) (HY2.out.ext HK.out) HQ2.out).mono ?_; rintro e w4 ⟨r, rfl, hr, he⟩)
      exact hK.out _ _ ⟨upd vl 1 _, upd vc 1 r, vb, P, rfl, I.calls HL 1 (by decide) h0 he hr⟩
    case s4 =>
      rintro l a' w' h0 - ⟨vl, vc, vb, P, rfl, I⟩
      intro K' hK
      simp only [Act.put, List.setIfInBounds_toArray, List.set_cons_zero, List.set_cons_succ]
      go_simp
      exact hK.out _ _ ⟨vl, vc, upd vb 0 _, upd P 0 _, rfl, I.allocs HL 0 (by decide) h0⟩
    case s5 =>
      rintro l a' w' h0 - ⟨vl, vc, vb, P, rfl, I⟩
      intro K' hK
      simp only [Act.put, List.setIfInBounds_toArray, List.set_cons_zero, List.set_cons_succ]
      go_simp
      exact hK.out _ _ ⟨vl, vc, upd vb 1 _, upd P 1 _, rfl, I.allocs HL 1 (by decide) h0⟩
    case s6 =>
      rintro l a' w' - hd ⟨vl, vc, vb, P, rfl, I⟩
      have hb := hd (2 * 2 + 0) (List.elem_iff.1 (by kernel_rfl))
      have hc := hd (2 * 0 + 1) (List.elem_iff.1 (by kernel_rfl))
      obtain ⟨hbx, -, x0, x1, x2, x3, ⟨hx0, hx1, hx2, hx3⟩, hf0, hf1, hf2, hf3⟩ := I.box 0 (by decide) hb
      obtain ⟨_, _, hro, -⟩ := I.call 0 (by decide) hc
      obtain ⟨A3, c3, B3, d3, hv⟩ := hro.form
      have hv' := hv
      obtain ⟨vb, rfl⟩ := upd_eta hbx
      obtain ⟨vc, rfl⟩ := upd_eta hv
      clear hd hro hbx hv
      intro K' hK
      simp only [Act.put, List.setIfInBounds_toArray, List.set_cons_zero, List.set_cons_succ, upd_same]
      go_simp
      exact hK.out _ _ ⟨vl, upd vc 0 _, upd vb 0 _, P, rfl, I.stores HL 0 (by decide) hb hc hv'⟩
    case s7 =>
      rintro l a' w' - hd ⟨vl, vc, vb, P, rfl, I⟩
      have hb := hd (2 * 2 + 1) (List.elem_iff.1 (by kernel_rfl))
      have hc := hd (2 * 1 + 1) (List.elem_iff.1 (by kernel_rfl))
      obtain ⟨hbx, -, x0, x1, x2, x3, ⟨hx0, hx1, hx2, hx3⟩, hf0, hf1, hf2, hf3⟩ := I.box 1 (by decide) hb
      obtain ⟨_, _, hro, -⟩ := I.call 1 (by decide) hc
      obtain ⟨A3, c3, B3, d3, hv⟩ := hro.form
      have hv' := hv
      obtain ⟨vb, rfl⟩ := upd_eta hbx
      obtain ⟨vc, rfl⟩ := upd_eta hv
      clear hd hro hbx hv
      intro K' hK
      simp only [Act.put, List.setIfInBounds_toArray, List.set_cons_zero, List.set_cons_succ, upd_same]
      go_simp
      exact hK.out _ _ ⟨vl, upd vc 1 _, upd vb 1 _, P, rfl, I.stores HL 1 (by decide) hb hc hv'⟩
  case fin =>
    clear HX1 HY1 HX2 HY2 HQ1 HQ2 HL HK0
    rintro l a' w1 hl ⟨vl, vc, vb, P, rfl, I⟩
    obtain ⟨hke, hD⟩ := I.done (fun i hi => hl i hi)
    obtain ⟨hb0, -, hh0, hr0⟩ := hD 0 (by decide)
    obtain ⟨hb1, -, hh1, hr1⟩ := hD 1 (by decide)
    rw [two0] at hr0
    rw [two1] at hr1
    obtain ⟨A0, c0, B0, d0, hv0, h40⟩ := hh0.rr hr0
    obtain ⟨A1, c1, B1, d1, hv1, h41⟩ := hh1.rr hr1
    rw [hv0] at hr0
    rw [hv1] at hr1
    rw [hb0, hb1]
    generalize P 0 = p0 at *
    generalize P 1 = p1 at *
    generalize vl 0 = z0 at *
    generalize vl 1 = z1 at *
    generalize vc 0 = z2 at *
    generalize vc 1 = z3 at *
    have HA := Aside.mk hr0
    have HB := Aside.mk hr1
    have HE1 := Aside.mk hke.1.out
    have HG1 := Aside.mk (HG.out.ext hke.1.out)
    have hk1 : KeepD w p0 p1 (.int .i64 a.f) (.bool a.neg) (.slice A0 a.num.length c0) (.slice B0 a.den.length d0) (.int .i64 b.f) (.bool b.neg) (.slice A1 b.num.length c1) (.slice B1 b.den.length d1) w1 := ⟨hke.1, h40, h41⟩
    clear hl I hke hD hb0 hb1 hh0 hh1 hr0 hr1 hv0 hv1 h40 h41 vl vc vb P HG
    by_cases hgood : (okq a && okq b) = true
    · rw [Bool.and_eq_true] at hgood
      have HKA := Aside.mk hgood.1
      have HKB := Aside.mk hgood.2
      obtain ⟨q1, hq1⟩ : ∃ q, (madeq a b (sumq a.neg (val a.num) (val a.den) b.neg (val b.num) (val b.den))).1 = q := ⟨_, rfl⟩
      obtain ⟨q2, hq2⟩ : ∃ q, (madeq a b (sumq a.neg (val a.num) (val a.den) (oppq b).neg (val b.num) (val b.den))).1 = q := ⟨_, rfl⟩
      have HM1 := Aside.mk (madeq_good hgood.1 hgood.2 hq1)
      have HM2 := Aside.mk (madeq_good hgood.1 hgood.2 hq2)
      have HQA := Aside.mk hq1
      have HQB := Aside.mk hq2
      clear hgood hq1 hq2
      refine ⟨?_⟩
      simp only [Act.put, List.setIfInBounds_toArray, List.set_cons_zero, List.set_cons_succ]
      go_wp2_with (first | (go_at_call 35; with_reducible refine (good2 (Add2_calls HA.out HB.out rfl) HM1.out).mono ?_; rintro e w2 ⟨r, rfl, hr, he2⟩; have HR2 := Aside.mk hr.rr; obtain ⟨A2, c2, B2, d2, rfl⟩ := hr.form; have hb2 := KeepB.init w2 (.int .i64 q1.f) (.bool q1.neg) (.slice A2 q1.num.length c2) (.slice B2 q1.den.length d2) 26; have HE2 := Aside.mk (he2.trans hb2.1.out); have HB2 := Aside.mk hb2.1.out; have hk2 := KeepD.ext HE2.out hk1; clear hk1 hr he2) | (go_at_call 36; with_reducible refine (good2 (Sub2_calls (HA.out.ext HE2.out) (HB.out.ext HE2.out) rfl) HM2.out).mono ?_; rintro e w3 ⟨r, rfl, hr, he3⟩; have HR3 := Aside.mk hr.rr; obtain ⟨A3, c3, B3, d3, rfl⟩ := hr.form; have hb3 := KeepB.init w3 (.int .i64 q2.f) (.bool q2.neg) (.slice A3 q2.num.length c3) (.slice B3 q2.den.length d3) 26; have HE3 := Aside.mk he3; have HE23 := Aside.mk (HE2.out.trans he3); have HP3 := Aside.mk (HR2.out.ext (HB2.out.trans he3)); have hk3 : K4 w3 p0 p1 w2.heap.size w3.heap.size (.int .i64 a.f) (.bool a.neg) (.slice A0 a.num.length c0) (.slice B0 a.den.length d0) (.int .i64 b.f) (.bool b.neg) (.slice A1 b.num.length c1) (.slice B1 b.den.length d1) (.int .i64 q1.f) (.bool q1.neg) (.slice A2 q1.num.length c2) (.slice B2 q1.den.length d2) (.int .i64 q2.f) (.bool q2.neg) (.slice A3 q2.num.length c3) (.slice B3 q2.den.length d3) _ := ⟨hb3.1, (hk2.2.1.ext he3).ext hb3.1.out, (hk2.2.2.ext he3).ext hb3.1.out, (hb2.four.ext he3).ext hb3.1.out, hb3.four⟩; clear hk2 hb2 hb3 hr he3) | (go_at_call 27; with_reducible refine (risrat_calls (HA.out.ext (HE23.out.trans hk3.1.out)) HKA.out).mono ?_; rintro e w4 ⟨rfl, he4⟩; have hk4 := K4.ext he4 hk3; clear hk3 he4) | (go_at_call 27; with_reducible refine (risrat_calls (HB.out.ext (HE23.out.trans hk4.1.out)) HKB.out).mono ?_; rintro e w5 ⟨rfl, he5⟩; have hk5 := K4.ext he5 hk4; clear hk4 he5))
      have hk6 := K4.ext (Ext.refl _).drew hk5
      go_region_held (fun w' => K4 w3 p0 p1 w2.heap.size w3.heap.size (.int .i64 a.f) (.bool a.neg) (.slice A0 a.num.length c0) (.slice B0 a.den.length d0) (.int .i64 b.f) (.bool b.neg) (.slice A1 b.num.length c1) (.slice B1 b.den.length d1) (.int .i64 q1.f) (.bool q1.neg) (.slice A2 q1.num.length c2) (.slice B2 q1.den.length d2) (.int .i64 q2.f) (.bool q2.neg) (.slice A3 q2.num.length c3) (.slice B3 q2.den.length d3) w') (first | assumption | exact K4.ext (by assumption) (by assumption)) (first | (go_at_call 37; with_reducible refine (rAdd_calls ((HA.out.ext HE23.out).ext (Aside.out (And.left (show K4 w3 p0 p1 w2.heap.size w3.heap.size (.int .i64 a.f) (.bool a.neg) (.slice A0 a.num.length c0) (.slice B0 a.den.length d0) (.int .i64 b.f) (.bool b.neg) (.slice A1 b.num.length c1) (.slice B1 b.den.length d1) (.int .i64 q1.f) (.bool q1.neg) (.slice A2 q1.num.length c2) (.slice B2 q1.den.length d2) (.int .i64 q2.f) (.bool q2.neg) (.slice A3 q2.num.length c3) (.slice B3 q2.den.length d3) _ from by assumption)))) ((HB.out.ext HE23.out).ext (Aside.out (And.left (show K4 w3 p0 p1 w2.heap.size w3.heap.size (.int .i64 a.f) (.bool a.neg) (.slice A0 a.num.length c0) (.slice B0 a.den.length d0) (.int .i64 b.f) (.bool b.neg) (.slice A1 b.num.length c1) (.slice B1 b.den.length d1) (.int .i64 q1.f) (.bool q1.neg) (.slice A2 q1.num.length c2) (.slice B2 q1.den.length d2) (.int .i64 q2.f) (.bool q2.neg) (.slice A3 q2.num.length c3) (.slice B3 q2.den.length d3) _ from by assumption)))) HKA.out HKB.out HQA.out).mono ?_; rintro e w7 ⟨r, rfl, hr, he7⟩; have HR7 := Aside.mk hr.rr; obtain ⟨A7, c7, B7, d7, rfl⟩ := hr.form; clear hr) | (go_at_call 17; with_reducible refine (gives_same (HP3.out.ext (Aside.out (And.left (show K4 w3 p0 p1 w2.heap.size w3.heap.size (.int .i64 a.f) (.bool a.neg) (.slice A0 a.num.length c0) (.slice B0 a.den.length d0) (.int .i64 b.f) (.bool b.neg) (.slice A1 b.num.length c1) (.slice B1 b.den.length d1) (.int .i64 q1.f) (.bool q1.neg) (.slice A2 q1.num.length c2) (.slice B2 q1.den.length d2) (.int .i64 q2.f) (.bool q2.neg) (.slice A3 q2.num.length c3) (.slice B3 q2.den.length d3) _ from by assumption)))) HR7.out).mono ?_; rintro e w8 ⟨rfl, he8⟩) | (go_at_call 38; with_reducible refine (rSub_calls ((HA.out.ext HE23.out).ext (Aside.out (And.left (show K4 w3 p0 p1 w2.heap.size w3.heap.size (.int .i64 a.f) (.bool a.neg) (.slice A0 a.num.length c0) (.slice B0 a.den.length d0) (.int .i64 b.f) (.bool b.neg) (.slice A1 b.num.length c1) (.slice B1 b.den.length d1) (.int .i64 q1.f) (.bool q1.neg) (.slice A2 q1.num.length c2) (.slice B2 q1.den.length d2) (.int .i64 q2.f) (.bool q2.neg) (.slice A3 q2.num.length c3) (.slice B3 q2.den.length d3) _ from by assumption)))) ((HB.out.ext HE23.out).ext (Aside.out (And.left (show K4 w3 p0 p1 w2.heap.size w3.heap.size (.int .i64 a.f) (.bool a.neg) (.slice A0 a.num.length c0) (.slice B0 a.den.length d0) (.int .i64 b.f) (.bool b.neg) (.slice A1 b.num.length c1) (.slice B1 b.den.length d1) (.int .i64 q1.f) (.bool q1.neg) (.slice A2 q1.num.length c2) (.slice B2 q1.den.length d2) (.int .i64 q2.f) (.bool q2.neg) (.slice A3 q2.num.length c3) (.slice B3 q2.den.length d3) _ from by assumption)))) HKA.out HKB.out HQB.out).mono ?_; rintro e w9 ⟨r, rfl, hr, he9⟩; have HR9 := Aside.mk hr.rr; obtain ⟨A9, c9, B9, d9, rfl⟩ := hr.form; clear hr) | (go_at_call 17; with_reducible refine (gives_same (HR3.out.ext (Aside.out (And.left (show K4 w3 p0 p1 w2.heap.size w3.heap.size (.int .i64 a.f) (.bool a.neg) (.slice A0 a.num.length c0) (.slice B0 a.den.length d0) (.int .i64 b.f) (.bool b.neg) (.slice A1 b.num.length c1) (.slice B1 b.den.length d1) (.int .i64 q1.f) (.bool q1.neg) (.slice A2 q1.num.length c2) (.slice B2 q1.den.length d2) (.int .i64 q2.f) (.bool q2.neg) (.slice A3 q2.num.length c3) (.slice B3 q2.den.length d3) _ from by assumption)))) HR9.out).mono ?_; rintro e w10 ⟨rfl, he10⟩) | (go_at_call 23; with_reducible refine (alive_calls ((HG1.out.ext HE23.out).ext (Aside.out (And.left (show K4 w3 p0 p1 w2.heap.size w3.heap.size (.int .i64 a.f) (.bool a.neg) (.slice A0 a.num.length c0) (.slice B0 a.den.length d0) (.int .i64 b.f) (.bool b.neg) (.slice A1 b.num.length c1) (.slice B1 b.den.length d1) (.int .i64 q1.f) (.bool q1.neg) (.slice A2 q1.num.length c2) (.slice B2 q1.den.length d2) (.int .i64 q2.f) (.bool q2.neg) (.slice A3 q2.num.length c3) (.slice B3 q2.den.length d3) _ from by assumption))))).mono ?_; rintro e w11 ⟨rfl, he11⟩))
      have hk11 := K4.ext he11 (K4.ext he10 (K4.ext he9 (K4.ext he8 (K4.ext he7 hk6))))
      have HEND := Aside.mk ((HE1.out.trans HE23.out).trans hk11.1.out)
      clear hk5 hk6 hk11 he7 he8 he9 he10 he11
      go_wp2
      go_ret
      exact ⟨rfl, HEND.out⟩
    · have hbad : (okq a && okq b) = false := by simpa using hgood
      have HM1 : Aside (madeq a b (sumq a.neg (val a.num) (val a.den) b.neg (val b.num) (val b.den)) = (fq 0, 5)) := ⟨madeq_bad hbad⟩
      have HM2 : Aside (madeq a b (sumq a.neg (val a.num) (val a.den) (oppq b).neg (val b.num) (val b.den)) = (fq 0, 5)) := ⟨madeq_bad hbad⟩
      refine ⟨?_⟩
      simp only [Act.put, List.setIfInBounds_toArray, List.set_cons_zero, List.set_cons_succ]
      cases hka : okq a
      · have HKA := Aside.mk hka
        clear hgood hbad hka
        go_wp2_with (first | (go_at_call 35; with_reducible refine (bad2 (Add2_calls HA.out HB.out rfl) HM1.out).mono ?_; rintro e w2 ⟨A2, c2, B2, d2, rfl, he2⟩; have hb2 := KeepB.init w2 (.int .i64 0) (.bool false) (.slice A2 0 c2) (.slice B2 0 d2) 26; have HE2 := Aside.mk (he2.trans hb2.1.out); have hk2 := KeepD.ext HE2.out hk1; clear hk1 he2) | (go_at_call 36; with_reducible refine (bad2 (Sub2_calls (HA.out.ext HE2.out) (HB.out.ext HE2.out) rfl) HM2.out).mono ?_; rintro e w3 ⟨A3, c3, B3, d3, rfl, he3⟩; have hb3 := KeepB.init w3 (.int .i64 0) (.bool false) (.slice A3 0 c3) (.slice B3 0 d3) 26; have HE3 := Aside.mk he3; have HE23 := Aside.mk (HE2.out.trans he3); have hk3 : K4 w3 p0 p1 w2.heap.size w3.heap.size (.int .i64 a.f) (.bool a.neg) (.slice A0 a.num.length c0) (.slice B0 a.den.length d0) (.int .i64 b.f) (.bool b.neg) (.slice A1 b.num.length c1) (.slice B1 b.den.length d1) (.int .i64 0) (.bool false) (.slice A2 0 c2) (.slice B2 0 d2) (.int .i64 0) (.bool false) (.slice A3 0 c3) (.slice B3 0 d3) _ := ⟨hb3.1, (hk2.2.1.ext he3).ext hb3.1.out, (hk2.2.2.ext he3).ext hb3.1.out, (hb2.four.ext he3).ext hb3.1.out, hb3.four⟩; clear hk2 hb2 hb3 he3) | (go_at_call 27; with_reducible refine (risrat_calls (HA.out.ext (HE23.out.trans hk3.1.out)) HKA.out).mono ?_; rintro e w4 ⟨rfl, he4⟩; have hk4 := K4.ext he4 hk3; clear hk3 he4) | (go_at_call 22; with_reducible refine zero_len.mono ?_; rintro e w7 ⟨rfl, he⟩; have hk7 := K4.ext he hk4; clear hk4 he) | (go_at_call 22; with_reducible refine zero_len.mono ?_; rintro e w8 ⟨rfl, he⟩; have hk8 := K4.ext he hk7; clear hk7 he) | (go_at_call 23; with_reducible refine (alive_calls ((HG1.out.ext HE23.out).ext hk8.1.out)).mono ?_; rintro e w9 ⟨rfl, he⟩; have HEND := Aside.mk (((HE1.out.trans HE23.out).trans hk8.1.out).trans he); clear he hk8))
        go_ret
        exact ⟨rfl, HEND.out⟩
      · have HKA := Aside.mk hka
        have HKB : Aside (okq b = false) := ⟨by rw [hka] at hbad; simpa using hbad⟩
        clear hgood hbad hka
        go_wp2_with (first | (go_at_call 35; with_reducible refine (bad2 (Add2_calls HA.out HB.out rfl) HM1.out).mono ?_; rintro e w2 ⟨A2, c2, B2, d2, rfl, he2⟩; have hb2 := KeepB.init w2 (.int .i64 0) (.bool false) (.slice A2 0 c2) (.slice B2 0 d2) 26; have HE2 := Aside.mk (he2.trans hb2.1.out); have hk2 := KeepD.ext HE2.out hk1; clear hk1 he2) | (go_at_call 36; with_reducible refine (bad2 (Sub2_calls (HA.out.ext HE2.out) (HB.out.ext HE2.out) rfl) HM2.out).mono ?_; rintro e w3 ⟨A3, c3, B3, d3, rfl, he3⟩; have hb3 := KeepB.init w3 (.int .i64 0) (.bool false) (.slice A3 0 c3) (.slice B3 0 d3) 26; have HE3 := Aside.mk he3; have HE23 := Aside.mk (HE2.out.trans he3); have hk3 : K4 w3 p0 p1 w2.heap.size w3.heap.size (.int .i64 a.f) (.bool a.neg) (.slice A0 a.num.length c0) (.slice B0 a.den.length d0) (.int .i64 b.f) (.bool b.neg) (.slice A1 b.num.length c1) (.slice B1 b.den.length d1) (.int .i64 0) (.bool false) (.slice A2 0 c2) (.slice B2 0 d2) (.int .i64 0) (.bool false) (.slice A3 0 c3) (.slice B3 0 d3) _ := ⟨hb3.1, (hk2.2.1.ext he3).ext hb3.1.out, (hk2.2.2.ext he3).ext hb3.1.out, (hb2.four.ext he3).ext hb3.1.out, hb3.four⟩; clear hk2 hb2 hb3 he3) | (go_at_call 27; with_reducible refine (risrat_calls (HA.out.ext (HE23.out.trans hk3.1.out)) HKA.out).mono ?_; rintro e w4 ⟨rfl, he4⟩; have hk4 := K4.ext he4 hk3; clear hk3 he4) | (go_at_call 27; with_reducible refine (risrat_calls (HB.out.ext (HE23.out.trans hk4.1.out)) HKB.out).mono ?_; rintro e w5 ⟨rfl, he5⟩; have hk5 := K4.ext he5 hk4; clear hk4 he5) | (go_at_call 22; with_reducible refine zero_len.mono ?_; rintro e w7 ⟨rfl, he⟩; have hk7 := K4.ext he hk5; clear hk5 he) | (go_at_call 22; with_reducible refine zero_len.mono ?_; rintro e w8 ⟨rfl, he⟩; have hk8 := K4.ext he hk7; clear hk7 he) | (go_at_call 23; with_reducible refine (alive_calls ((HG1.out.ext HE23.out).ext hk8.1.out)).mono ?_; rintro e w9 ⟨rfl, he⟩; have HEND := Aside.mk (((HE1.out.trans HE23.out).trans hk8.1.out).trans he); clear he hk8))
        go_ret
        exact ⟨rfl, HEND.out⟩
end Go.Proofs.YtgfkachfbnbikaaGreatDoor

namespace Go.Proofs.YtgfkachfbnbikaaGreatDoor
open Go.RowKit Go.ChangeShapes Go.WideShapes Go.ChangeAt

set_option maxRecDepth 100000 in
theorem sums_lifted (os : Os) (started : os.Started) (H : Type) (enc : TypeId × Value → H) :
    ReturnsInHanded {} Tryz.checked os 6 .any (fun w args => (Rows.fracSumsSpec.pre enc Tryz.prog Tryz.f6 [] false w args ∧ laidMetH Tryz.prog Rows.fracSumsRow.laid w) ∧ sizedMet enc Tryz.prog Tryz.f6 (OpenSpec.ofChange Rows.fracSumsSpec) false w args)
      (Rows.fracSumsSpec.post enc Tryz.prog Tryz.f6 false true false false) := by
  refine returns_law (C := Tryz.checked) (X := fun w _ => laidMetH Tryz.prog Rows.fracSumsRow.laid w) (fun _ _ _ hh h => h.of_heap hh) Tryz.own started (by kernel_rfl) Tryz.func6
    (ChangeSpec.witness_shaped (enc := enc) (C := Tryz.checked) (os := os) (X := fun w _ => laidMetH Tryz.prog Rows.fracSumsRow.laid w) false (World.laidAll Tryz.prog os Rows.fracSumsRow.laid) #[.agg #[.int .i64 0, .bool false, .slice none 0 0, .slice none 0 0], .agg #[.int .i64 0, .bool false, .slice none 0 0, .slice none 0 0]] 8 (World.laidAll_os _ _ _)
      (World.shaped_of_ZipB (by kernel_rfl) (by kernel_rfl)) (by kernel_rfl) (by kernel_rfl) (by kernel_rfl)
      (by rw [MakeChecks.laidMetH_plain _ _ _ (by kernel_rfl)]; exact laidMet_laidAll _ (by kernel_rfl) (by kernel_rfl))) ?_
  intro W base args ds gs before hval0 hW hL hsh
  have hval : ∀ (j : Nat) t v, Tryz.f6.params[j]? = some t → args[j]? = some v → Value.okWide Tryz.prog W .any base t v := hval0
  have hW' := hW
  obtain ⟨p, q, hA0, hV, rfl, hfz, hnd⟩ := hW
  have hA : DataW.TrodAll enc Tryz.prog W 0 (fun _ => true) true Tryz.f6.params.toList args.toList ds p := hA0
  have hA' := hA
  rw [Tryz.params6] at hA hval
  obtain ⟨v0, v1, d0, d1, p0, p1, rfl, rfl, rfl, ⟨k0, h0⟩, ⟨k1, h1⟩⟩ := trodAll_two hA
  obtain ⟨rfl, rfl⟩ := trodVars_none hV
  have hG := glob_of (by kernel_rfl) rfl hL hsh
  obtain ⟨f1, n1, sx1, sy1, xs1, ys1, rfl, hx1, hy1⟩ := rat_of (hval 0 26 v0 rfl rfl) h0
  obtain ⟨f2, n2, sx2, sy2, xs2, ys2, rfl, hx2, hy2⟩ := rat_of (hval 1 26 v1 rfl rfl) h1
  refine (sums_calls hG hx1 hy1 hx2 hy2).mono fun e W' ⟨he, hw⟩ => ?_
  subst he
  refine ⟨_, rfl, law_post (ts := Tryz.f6.params.toList) rfl rfl rfl ?_ ⟨rfl, rfl, rfl⟩ hW' (by simpa using hA') hw⟩
  rw [Tryz.params6]
  exact read_all (by kernel_rfl)

theorem fracSums_holds : Rows.FracSumsSaid :=
  OpenClaim.holds_of_wide 6 Tryz.f6 rfl rfl rfl rfl rfl rfl rfl ⟨rfl, rfl, rfl, rfl, rfl⟩ rfl rfl rfl rfl rfl (by kernel_rfl) Tryz.func6 (by kernel_rfl)
    (of_decide_eq_true (by kernel_rfl)) (by unfold Func.isWrapper; first | (rw [if_neg (by decide +kernel)]; exact ⟨rfl, rfl⟩) | (rw [if_pos (by decide +kernel)]; kernel_rfl))
    (fun os started H enc _ => sums_lifted os started H enc)
end Go.Proofs.YtgfkachfbnbikaaGreatDoor

namespace Go.Proofs.YtgfkachfbnbikaaGreatDoor
open Go

set_option maxRecDepth 100000 in
theorem fracSums_card : Rows.FracSumsCardSaid :=
  Claim7.holds_tied_plain_at .later [] [.data, .data, .pinned] true (true, "d85da3931ba373f0f2d5a7ce168e29c3a5db8cee51669ffe15e332533fbaa330") false
    fracSums_holds (fun _ h => by cases h) (by kernel_rfl) (fun _ h => by cases h) fracSums_row_tie rfl ⟨rfl, rfl⟩ (by kernel_rfl) rfl
    (fun f fn hf hfn => by
      obtain rfl : f = 6 := Option.some.inj ((show Tryz.prog.funcNamed "fluxion/fluxionlaw02.FracSums" = some 6 by kernel_rfl).symm.trans hf) |>.symm
      obtain rfl : fn = Tryz.f6 := (Option.some.inj (Tryz.func6.symm.trans hfn)).symm
      exact ⟨by kernel_rfl, fun j t ht => by
        rw [Tryz.params6] at ht
        have hm : t ∈ Tryz.f6.params.toList := by rw [Tryz.params6]; exact Array.mem_toList_iff.2 (Array.mem_of_getElem? ht)
        have hall : (Tryz.f6.params.toList.all fun u => !Tryz.prog.wantsStandIn u) = true := by kernel_rfl
        exact (show Tryz.prog.wantsStandIn t = false by simpa using List.all_eq_true.1 hall t hm)⟩)
    (by kernel_rfl)
#print axioms fracSums_card
end Go.Proofs.YtgfkachfbnbikaaGreatDoor
