/- The law ShapeTypes: it returns true. ShapeTypes: of every input the call returns true, and each argument reads behind it as it read before. ShapeTypes: the tied card holds: for any two Types IsType, Size, Text, Zero and Same return what the specification says, or its errors. Conditions: the package-level variables that the row lists start as the program's text lays them (the tie is given). -/
import Derived.Test.YtcbaipnphepbeaaGreatDoorNs
import Derived.Test.YtcbaipnphepbeaaGreatDoorNr
import Derived.Test.YtcbaipnphepbeaaGreatDoorCards
import Derived.Test.YtcbaipnphepbeaaGreatDoorTie
import Derived.SevenTiedAt
namespace Go.Proofs.YtcbaipnphepbeaaGreatDoor
open Go.RowKit
attribute [local go_sem ↓] Go.wp_at_zero Go.wp_at_succ

/-- Two boxes of two cells. -/
abbrev KT2 (w : World) (x0 x1 y0 y1 : Value) (w' : World) : Prop :=
  Aside (Ext w w') ∧ (w'.cell? ⟨w.heap.size, 0, none⟩ = some x0 ∧ w'.cell? ⟨w.heap.size, 1, none⟩ = some x1) ∧ (w'.cell? ⟨w.heap.size + 1, 0, none⟩ = some y0 ∧ w'.cell? ⟨w.heap.size + 1, 1, none⟩ = some y1)
theorem KT2.below {w w1 w2 : World} {x0 x1 y0 y1 : Value} (h : KT2 w x0 x1 y0 y1 w1) (b : Below (w.heap.size + 2) w1 w2) : KT2 w x0 x1 y0 y1 w2 := by
  obtain ⟨h0, ⟨h1, h2⟩, ⟨h3, h4⟩⟩ := h
  have hc : ∀ {g j : Nat} {v : Value}, g < w.heap.size + 2 → w1.cell? ⟨g, j, none⟩ = some v → w2.cell? ⟨g, j, none⟩ = some v := fun hg h => (Below.cell b hg).trans h
  exact ⟨⟨Below.trans h0.out (Below.mono b (by omega))⟩, ⟨hc (by omega) h1, hc (by omega) h2⟩, ⟨hc (by omega) h3, hc (by omega) h4⟩⟩
theorem KT2.lt {w w1 : World} {x0 x1 y0 y1 : Value} (h : KT2 w x0 x1 y0 y1 w1) : w.heap.size + 2 ≤ w1.heap.size := World.block_lt_of_cell? w1 ⟨w.heap.size + 1, 0, none⟩ h.2.2.1
theorem KT2.ext {w w1 w2 : World} {x0 x1 y0 y1 : Value} (e : Ext w1 w2) (h : KT2 w x0 x1 y0 y1 w1) : KT2 w x0 x1 y0 y1 w2 := h.below (Below.mono e h.lt)
theorem KT2.two {w w1 : World} {x0 x1 y0 y1 : Value} (h : KT2 w x0 x1 y0 y1 w1) {g : Nat} (hg : w.heap.size + 2 ≤ g) (v0 v1 : Value) : KT2 w x0 x1 y0 y1 (set2 w1 g v0 v1) := h.below (Below.setCell (Below.setCell (Below.refl _ _) hg v0) hg v1)
theorem KT2.init (w : World) (x0 x1 y0 y1 : Value) (t t' : TypeId) : KT2 w x0 x1 y0 y1 ((w.alloc (.cells #[x0, x1] t)).alloc (.cells #[y0, y1] t')) :=
  ⟨⟨((Ext.refl w).alloc _).alloc _⟩, ⟨cell_old (cell_new rfl rfl), cell_old (cell_new rfl rfl)⟩, ⟨cell_new (by simp) rfl, cell_new (by simp) rfl⟩⟩
/-- Two boxes of types at places. -/
abbrev KT3 (w : World) (p q : Nat) (x0 x1 y0 y1 : Value) (w' : World) : Prop := Aside (Ext w w') ∧ Two w' p x0 x1 ∧ Two w' q y0 y1
theorem KT3.ext {w w1 w2 : World} {p q : Nat} {x0 x1 y0 y1 : Value} (e : Ext w1 w2) (h : KT3 w p q x0 x1 y0 y1 w1) : KT3 w p q x0 x1 y0 y1 w2 := ⟨⟨h.1.out.trans e⟩, h.2.1.ext e, h.2.2.ext e⟩
theorem TO.form {b : Nat} {w : World} {v : Value} {q : Int × List Int} (h : TO b w v q) : ∃ A c, v = .agg #[.int .i64 q.1, .slice A q.2.length c] := by
  obtain ⟨x, rfl, hs⟩ := h
  obtain ⟨A, c, rfl, _⟩ := hs.sv.form
  exact ⟨A, c, rfl⟩
/-- Zero's error, its value in a box. -/
theorem zero_box_bad {w : World} {x : Value} {k : Int} {ds : List Int} {a e0 : Int} (h : TV w x k ds) (hs : sizeR k ds = (a, e0)) (h0 : e0 ≠ 0) :
    Calls Tryz.prog 38 #[x] w fun e w' => ∃ D d A a B b, e = .returned (.tuple #[.agg #[.int .i64 0, .slice D 0 d, .slice A 0 a, .slice B 0 b], .int .i64 e0]) ∧ Ext w w' := by
  refine (zeroOf_bad h hs h0).mono ?_
  rintro e w' ⟨r, rfl, hr, he⟩
  obtain ⟨D, d, A, a, B, b, rfl⟩ := hr.vv.form
  exact ⟨D, d, A, a, B, b, rfl, he⟩
/-- Zero of a type that values have. -/
theorem zero_box_ok {w : World} {x : Value} {k : Int} {ds : List Int} {z : Vq} (h : TV w x k ds) (ht : tyOk k ds = true) (h3 : k ≠ 3) (hz : zeroQ k ds = z) :
    Calls Tryz.prog 38 #[x] w fun e w' => ∃ D d A a B b, e = .returned (.tuple #[.agg #[.int .i64 z.k, .slice D z.ds.length d, .slice A z.nums.length a, .slice B z.bits.length b], .int .i64 0]) ∧ VV w' (.agg #[.int .i64 z.k, .slice D z.ds.length d, .slice A z.nums.length a, .slice B z.bits.length b]) z ∧ Ext w w' := by
  subst hz
  refine (zeroOf_ok h ht h3).mono ?_
  rintro e w' ⟨r, rfl, hr, he⟩
  obtain ⟨D, d, A, a, B, b, rfl⟩ := hr.vv.form
  exact ⟨D, d, A, a, B, b, rfl, hr.vv, he⟩
theorem rzero_box {w : World} {x : Value} {k : Int} {ds : List Int} {z : Vq} (h : TV w x k ds) (hd : Dims ds) (hz : zeroQ k ds = z) :
    Calls Tryz.prog 41 #[x] w fun e w' => ∃ D d A a B b, e = .returned (.agg #[.int .i64 z.k, .slice D z.ds.length d, .slice A z.nums.length a, .slice B z.bits.length b]) ∧ VV w' (.agg #[.int .i64 z.k, .slice D z.ds.length d, .slice A z.nums.length a, .slice B z.bits.length b]) z ∧ Ext w w' := by
  subst hz
  refine (rZero_calls h hd).mono ?_
  rintro e w' ⟨r, rfl, hr, he⟩
  obtain ⟨D, d, A, a, B, b, rfl⟩ := hr.vv.form
  exact ⟨D, d, A, a, B, b, rfl, hr.vv, he⟩
/-- Two boxes of types and one of a value. -/
abbrev KTZ (w : World) (p q : Nat) (x0 x1 y0 y1 : Value) (w9 : World) (z0 z1 z2 z3 : Value) (w' : World) : Prop := KT3 w p q x0 x1 y0 y1 w' ∧ KeepB w9 z0 z1 z2 z3 w'
theorem KTZ.ext {w w1 w2 w9 : World} {p q : Nat} {x0 x1 y0 y1 z0 z1 z2 z3 : Value} (e : Ext w1 w2) (h : KTZ w p q x0 x1 y0 y1 w9 z0 z1 z2 z3 w1) : KTZ w p q x0 x1 y0 y1 w9 z0 z1 z2 z3 w2 := ⟨KT3.ext e h.1, KeepB.ext e h.2⟩
set_option maxRecDepth 10000 in
set_option maxHeartbeats 16000000 in
theorem lwTypes_calls {w : World} {x1 x2 : Value} {k1 k2 : Int} {ds1 ds2 : List Int} (hg : Glob3 w) (h1 : TL w x1 k1 ds1) (h2 : TL w x2 k2 ds2) :
    Calls Tryz.prog 7 #[x1, x2] w fun e w' => e = .returned (.bool true) ∧ Ext w w' := by
  have HG := Aside.mk hg
  have H1 := Aside.mk h1
  have H2 := Aside.mk h2
  obtain ⟨u1, rfl, hu1⟩ := h1
  obtain ⟨u2, rfl, hu2⟩ := h2
  obtain ⟨es1, he1⟩ : ∃ e, ds1.take 8 = e := ⟨_, rfl⟩
  obtain ⟨es2, he2⟩ : ∃ e, ds2.take 8 = e := ⟨_, rfl⟩
  have HE1 := Aside.mk he1
  have HE2 := Aside.mk he2
  obtain ⟨U1, c1', xs1, rfl, _⟩ := hu1
  obtain ⟨U2, c2', xs2, rfl, _⟩ := hu2
  generalize ds1.length = m1 at *
  generalize ds2.length = m2 at *
  clear hg he1 he2
  have hk0 := KT2.ext ((Ext.refl _).drew) (KT2.init w (.int .i64 k1) (.slice U1 m1 c1') (.int .i64 k2) (.slice U2 m2 c2') 25 25)
  have HL : LastT (KT2 w (.int .i64 k1) (.slice U1 m1 c1') (.int .i64 k2) (.slice U2 m2 c2')) (w.heap.size + 2) := ⟨fun _ _ e h => KT2.ext e h, fun _ _ _ _ h k => KT2.two k h _ _⟩
  have HK0 := Aside.mk hk0
  clear hk0
  go_enter Tryz.func7, Tryz.ntmps7
  go_upto_region 1 with fail
  refine wp_region_each (fun a0 l a' w' => ∃ (vl vc vb : Nat → Value) (P : Nat → Nat), a' = (((((a0.put (some 14) (vl 0)).put (some 15) (vc 0)).put (some 16) (vl 1)).put (some 17) (vc 1)).put (some 5) (vb 0)).put (some 6) (vb 1) ∧
    InvT 2 l (KT2 w (.int .i64 k1) (.slice U1 m1 c1') (.int .i64 k2) (.slice U2 m2 c2')) (w.heap.size + 2)
      (two (.agg #[.int .i64 k1, .slice U1 m1 c1']) (.agg #[.int .i64 k2, .slice U2 m2 c2'])) (two (k1, es1) (k2, es2)) vl vc vb P w') (by kernel_rfl) (by kernel_rfl) ?start ?fin ?each
  case start => exact ⟨fun _ => undef, fun _ => undef, fun _ => undef, fun _ => 0, rfl, InvT.start HK0.out HK0.out.lt⟩
  case each =>
    refine Each.cons (j := 1) rfl ?s0 (Each.cons (j := 2) rfl ?s1 (Each.cons (j := 3) rfl ?s2 (Each.cons (j := 4) rfl ?s3 (Each.cons (j := 5) rfl ?s4 (Each.cons (j := 6) rfl ?s5 (Each.cons (j := 7) rfl ?s6 (Each.cons (j := 8) rfl ?s7 Each.nil)))))))
    case s0 =>
      rintro l a' w' - - ⟨vl, vc, vb, P, rfl, I⟩
      have hk := I.keep
      intro K' hK
      simp only [Act.put, List.setIfInBounds_toArray, List.set_cons_zero, List.set_cons_succ]
      go_simp
      exact hK.out _ _ ⟨upd vl 0 _, vc, vb, P, rfl, I.loads 0 (by decide)⟩
    case s1 =>
      rintro l a' w' h0 hd ⟨vl, vc, vb, P, rfl, I⟩
      obtain ⟨vl, rfl⟩ := upd_eta (I.load 0 (by decide) (hd (2 * 0) (by decide)))
      have HK := Aside.mk I.keep.1.out
      clear hd
      intro K' hK
      simp only [Act.put, List.setIfInBounds_toArray, List.set_cons_zero, List.set_cons_succ, upd_same, two0]
      go_simp
      go_wp2_with (go_at_call 35; (with_reducible refine (typed_calls (H1.out.ext HK.out) HE1.out).mono ?_); rintro e w4 ⟨r0, rfl, hr0, he⟩; have hr : TO w'.heap.size w4 (.agg #[.int .i64 k1, r0]) (k1, es1) := ⟨_, rfl, hr0⟩)
      exact hK.out _ _ ⟨upd vl 0 _, upd vc 0 _, vb, P, rfl, I.calls HL 0 (by decide) h0 he hr⟩
    case s2 =>
      rintro l a' w' - - ⟨vl, vc, vb, P, rfl, I⟩
      have hk := I.keep
      intro K' hK
      simp only [Act.put, List.setIfInBounds_toArray, List.set_cons_zero, List.set_cons_succ]
      go_simp
      exact hK.out _ _ ⟨upd vl 1 _, vc, vb, P, rfl, I.loads 1 (by decide)⟩
    case s3 =>
      rintro l a' w' h0 hd ⟨vl, vc, vb, P, rfl, I⟩
      obtain ⟨vl, rfl⟩ := upd_eta (I.load 1 (by decide) (hd (2 * 1) (by decide)))
      have HK := Aside.mk I.keep.1.out
      clear hd
      intro K' hK
      simp only [Act.put, List.setIfInBounds_toArray, List.set_cons_zero, List.set_cons_succ, upd_same, two1]
      go_simp
      go_wp2_with (go_at_call 35; (with_reducible refine (typed_calls (H2.out.ext HK.out) HE2.out).mono ?_); rintro e w4 ⟨r0, rfl, hr0, he⟩; have hr : TO w'.heap.size w4 (.agg #[.int .i64 k2, r0]) (k2, es2) := ⟨_, rfl, hr0⟩)
      exact hK.out _ _ ⟨upd vl 1 _, upd vc 1 _, vb, P, rfl, I.calls HL 1 (by decide) h0 he hr⟩
    case s4 =>
      rintro l a' w' h0 - ⟨vl, vc, vb, P, rfl, I⟩
      intro K' hK
      simp only [Act.put, List.setIfInBounds_toArray, List.set_cons_zero, List.set_cons_succ]
      go_simp
      exact hK.out _ _ ⟨vl, vc, upd vb 0 _, upd P 0 _, rfl, I.allocs HL 0 (by decide) h0⟩
    case s5 =>
      rintro l a' w' h0 - ⟨vl, vc, vb, P, rfl, I⟩
      intro K' hK
      simp only [Act.put, List.setIfInBounds_toArray, List.set_cons_zero, List.set_cons_succ]
      go_simp
      exact hK.out _ _ ⟨vl, vc, upd vb 1 _, upd P 1 _, rfl, I.allocs HL 1 (by decide) h0⟩
    case s6 =>
      rintro l a' w' - hd ⟨vl, vc, vb, P, rfl, I⟩
      have hb := hd (2 * 2 + 0) (List.elem_iff.1 (by kernel_rfl))
      have hc := hd (2 * 0 + 1) (List.elem_iff.1 (by kernel_rfl))
      obtain ⟨hbx, -, x0, x1, ⟨hx0, hx1⟩, hf0, hf1⟩ := I.box 0 (by decide) hb
      obtain ⟨_, _, _, hro, -⟩ := I.call 0 (by decide) hc
      obtain ⟨A3, c3, hv⟩ := hro.form
      have hv' := hv
      obtain ⟨vb, rfl⟩ := upd_eta hbx
      obtain ⟨vc, rfl⟩ := upd_eta hv
      clear hd hro hbx hv
      intro K' hK
      simp only [Act.put, List.setIfInBounds_toArray, List.set_cons_zero, List.set_cons_succ, upd_same]
      go_simp
      exact hK.out _ _ ⟨vl, upd vc 0 _, upd vb 0 _, P, rfl, I.stores HL 0 (by decide) hb hc hv'⟩
    case s7 =>
      rintro l a' w' - hd ⟨vl, vc, vb, P, rfl, I⟩
      have hb := hd (2 * 2 + 1) (List.elem_iff.1 (by kernel_rfl))
      have hc := hd (2 * 1 + 1) (List.elem_iff.1 (by kernel_rfl))
      obtain ⟨hbx, -, x0, x1, ⟨hx0, hx1⟩, hf0, hf1⟩ := I.box 1 (by decide) hb
      obtain ⟨_, _, _, hro, -⟩ := I.call 1 (by decide) hc
      obtain ⟨A3, c3, hv⟩ := hro.form
      have hv' := hv
      obtain ⟨vb, rfl⟩ := upd_eta hbx
      obtain ⟨vc, rfl⟩ := upd_eta hv
      clear hd hro hbx hv
      intro K' hK
      simp only [Act.put, List.setIfInBounds_toArray, List.set_cons_zero, List.set_cons_succ, upd_same]
      go_simp
      exact hK.out _ _ ⟨vl, upd vc 1 _, upd vb 1 _, P, rfl, I.stores HL 1 (by decide) hb hc hv'⟩
  case fin =>
    clear H1 H2 HE1 HE2 HL HK0
    rintro l a' w1 hl ⟨vl, vc, vb, P, rfl, I⟩
    obtain ⟨hke, hD⟩ := I.done (fun i hi => hl i hi)
    obtain ⟨hb0, -, hh0, hr0⟩ := hD 0 (by decide)
    obtain ⟨hb1, -, hh1, hr1⟩ := hD 1 (by decide)
    rw [two0] at hr0
    rw [two1] at hr1
    obtain ⟨A0, c0, hv0, h40, htv0⟩ := hh0.to hr0
    obtain ⟨A1, c1, hv1, h41, htv1⟩ := hh1.to hr1
    dsimp only at h40 h41 htv0 htv1
    rw [hb0, hb1]
    generalize P 0 = p0 at *
    generalize P 1 = p1 at *
    generalize vl 0 = z0 at *
    generalize vl 1 = z1 at *
    generalize vc 0 = z2 at *
    generalize vc 1 = z3 at *
    generalize es1.length = n1 at *
    generalize es2.length = n2 at *
    have HA := Aside.mk htv0
    have HB := Aside.mk htv1
    have HE := Aside.mk hke.1.out
    have HG1 := Aside.mk (HG.out.ext hke.1.out)
    have hk1 : KT3 w1 p0 p1 (.int .i64 k1) (.slice A0 n1 c0) (.int .i64 k2) (.slice A1 n2 c1) w1 := ⟨⟨Ext.refl w1⟩, h40, h41⟩
    clear hl I hke hD hb0 hb1 hh0 hh1 hr0 hr1 hv0 hv1 h40 h41 htv0 htv1 vl vc vb P HG
    obtain ⟨t, ht⟩ : ∃ t, tyOk k1 es1 = t := ⟨_, rfl⟩
    obtain ⟨b, hb⟩ : ∃ b, tySame k1 es1 k2 es2 = b := ⟨_, rfl⟩
    have HT := Aside.mk ht
    have HSM := Aside.mk hb
    clear hb
    refine ⟨?_⟩
    simp only [Act.put, List.setIfInBounds_toArray, List.set_cons_zero, List.set_cons_succ]
    cases t
    · have HSZ : Aside (sizeR k1 es1 = (0, 5)) := ⟨by unfold sizeR; rw [HT.out]; rfl⟩
      clear ht
      go_wp2_with (go_at_call 36; (with_reducible refine (rIsType_calls (HA.out.ext hk1.1.out) HT.out).mono ?_); rintro e w2 ⟨rfl, he⟩; have hk2 := KT3.ext he hk1; clear hk1 he)
      have hk3 := KT3.ext ((Ext.refl _).drew) hk2
      go_region_held3 (fun w' => KT3 w1 p0 p1 (.int .i64 k1) (.slice A0 n1 c0) (.int .i64 k2) (.slice A1 n2 c1) w') (first | assumption | exact KT3.ext (by assumption) (by assumption)) (first | (go_at_call 34; (with_reducible refine (isType_calls (HA.out.ext (Aside.out (And.left (show KT3 w1 p0 p1 (.int .i64 k1) (.slice A0 n1 c0) (.int .i64 k2) (.slice A1 n2 c1) _ from by assumption)))) HT.out).mono ?_); rintro e w4 ⟨rfl, he4⟩) | (go_at_call 33; (with_reducible refine (shSame_calls (HA.out.ext (Aside.out (And.left (show KT3 w1 p0 p1 (.int .i64 k1) (.slice A0 n1 c0) (.int .i64 k2) (.slice A1 n2 c1) _ from by assumption)))) (HB.out.ext (Aside.out (And.left (show KT3 w1 p0 p1 (.int .i64 k1) (.slice A0 n1 c0) (.int .i64 k2) (.slice A1 n2 c1) _ from by assumption)))) HSM.out).mono ?_); rintro e w5 ⟨rfl, he5⟩) | (go_at_call 28; (with_reducible refine (rSame_calls (HA.out.ext (Aside.out (And.left (show KT3 w1 p0 p1 (.int .i64 k1) (.slice A0 n1 c0) (.int .i64 k2) (.slice A1 n2 c1) _ from by assumption)))) (HB.out.ext (Aside.out (And.left (show KT3 w1 p0 p1 (.int .i64 k1) (.slice A0 n1 c0) (.int .i64 k2) (.slice A1 n2 c1) _ from by assumption)))) HSM.out).mono ?_); rintro e w6 ⟨rfl, he6⟩))
      have hk6 := KT3.ext he6 (KT3.ext he5 (KT3.ext he4 hk3))
      clear hk2 hk3 he4 he5 he6
      go_wp2_with (first | (go_at_call 37; (with_reducible refine (sizeOf_calls (HA.out.ext hk6.1.out) HSZ.out).mono ?_); rintro e w7 ⟨rfl, he⟩; have hk7 := KT3.ext he hk6; clear hk6 he) | (go_at_call 32; (with_reducible refine (shText_bad (HA.out.ext hk7.1.out) HT.out).mono ?_); rintro e w8 ⟨rfl, he⟩; have hk8 := KT3.ext he hk7; clear hk7 he) | (go_at_call 38; (with_reducible refine (zero_box_bad (HA.out.ext hk8.1.out) HSZ.out (by decide)).mono ?_); rintro e w9 ⟨D2, d2, A2, a2, B2, b2, rfl, he⟩; have hk9 := KT3.ext (he.alloc (.cells #[.int .i64 0, .slice D2 0 d2, .slice A2 0 a2, .slice B2 0 b2] 29)) hk8; have hz9 := KeepB.init w9 (.int .i64 0) (.slice D2 0 d2) (.slice A2 0 a2) (.slice B2 0 b2) 29; clear hk8 he) | (go_at_call 18; (with_reducible refine lzero_true.mono ?_); rintro e w10 ⟨rfl, he⟩; have hk10 := KT3.ext he hk9; clear hk9 he) | (go_at_call 19; (with_reducible refine (alive3_calls (HG1.out.ext hk10.1.out)).mono ?_); rintro e w11 ⟨rfl, he⟩; have HEND := Aside.mk (HE.out.trans (hk10.1.out.trans he)); clear hk10 he))
      go_ret
      exact ⟨rfl, HEND.out⟩
    · obtain ⟨s, hs⟩ : ∃ s, tyB k1 es1 = s := ⟨_, rfl⟩
      have HS := Aside.mk hs
      have HDD := Aside.mk (tyOk_dims ht)
      by_cases h3 : k1 = 3
      · have hk3' : (k1 == 3) = true := by simp [h3]
        have HSZ : Aside (sizeR k1 es1 = (0, 12)) := ⟨by unfold sizeR; rw [HT.out, if_pos rfl, if_pos h3]⟩
        clear ht hs h3
        go_wp2_with (go_at_call 36; (with_reducible refine (rIsType_calls (HA.out.ext hk1.1.out) HT.out).mono ?_); rintro e w2 ⟨rfl, he⟩; have hk2 := KT3.ext he hk1; clear hk1 he)
        have hk3 := KT3.ext ((Ext.refl _).drew) hk2
        go_region_held3 (fun w' => KT3 w1 p0 p1 (.int .i64 k1) (.slice A0 n1 c0) (.int .i64 k2) (.slice A1 n2 c1) w') (first | assumption | exact KT3.ext (by assumption) (by assumption)) (first | (go_at_call 34; (with_reducible refine (isType_calls (HA.out.ext (Aside.out (And.left (show KT3 w1 p0 p1 (.int .i64 k1) (.slice A0 n1 c0) (.int .i64 k2) (.slice A1 n2 c1) _ from by assumption)))) HT.out).mono ?_); rintro e w4 ⟨rfl, he4⟩) | (go_at_call 33; (with_reducible refine (shSame_calls (HA.out.ext (Aside.out (And.left (show KT3 w1 p0 p1 (.int .i64 k1) (.slice A0 n1 c0) (.int .i64 k2) (.slice A1 n2 c1) _ from by assumption)))) (HB.out.ext (Aside.out (And.left (show KT3 w1 p0 p1 (.int .i64 k1) (.slice A0 n1 c0) (.int .i64 k2) (.slice A1 n2 c1) _ from by assumption)))) HSM.out).mono ?_); rintro e w5 ⟨rfl, he5⟩) | (go_at_call 28; (with_reducible refine (rSame_calls (HA.out.ext (Aside.out (And.left (show KT3 w1 p0 p1 (.int .i64 k1) (.slice A0 n1 c0) (.int .i64 k2) (.slice A1 n2 c1) _ from by assumption)))) (HB.out.ext (Aside.out (And.left (show KT3 w1 p0 p1 (.int .i64 k1) (.slice A0 n1 c0) (.int .i64 k2) (.slice A1 n2 c1) _ from by assumption)))) HSM.out).mono ?_); rintro e w6 ⟨rfl, he6⟩))
        have hk6 := KT3.ext he6 (KT3.ext he5 (KT3.ext he4 hk3))
        clear hk2 hk3 he4 he5 he6
        go_wp2_with (first | (go_at_call 37; (with_reducible refine (sizeOf_calls (HA.out.ext hk6.1.out) HSZ.out).mono ?_); rintro e w7 ⟨rfl, he⟩; have hk7 := KT3.ext he hk6; clear hk6 he) | (go_at_call 32; (with_reducible refine (shText_calls (HG1.out.ext hk7.1.out) (HA.out.ext hk7.1.out) HT.out HS.out).mono ?_); rintro e w8 ⟨rfl, he⟩; have hk8 := KT3.ext he hk7; clear hk7 he) | (go_at_call 38; (with_reducible refine (zero_box_bad (HA.out.ext hk8.1.out) HSZ.out (by decide)).mono ?_); rintro e w9 ⟨D2, d2, A2, a2, B2, b2, rfl, he⟩; have hk9 := KT3.ext (he.alloc (.cells #[.int .i64 0, .slice D2 0 d2, .slice A2 0 a2, .slice B2 0 b2] 29)) hk8; have hz9 := KeepB.init w9 (.int .i64 0) (.slice D2 0 d2) (.slice A2 0 a2) (.slice B2 0 b2) 29; clear hk8 he) | (go_at_call 39; (with_reducible refine (rTyText_calls (HA.out.ext hk9.1.out) HT.out HS.out).mono ?_); rintro e w12 ⟨rfl, he⟩; have hk12 := KT3.ext he hk9; have hz12 := KeepB.ext he hz9; clear hk9 hz9 he) | (go_at_call 18; (with_reducible refine lzero_true.mono ?_); rintro e w10 ⟨rfl, he⟩; have hk10 := KT3.ext he hk12; clear hk12 he) | (go_at_call 19; (with_reducible refine (alive3_calls (HG1.out.ext hk10.1.out)).mono ?_); rintro e w11 ⟨rfl, he⟩; have HEND := Aside.mk (HE.out.trans (hk10.1.out.trans he)); clear hk10 he))
        go_ret
        exact ⟨rfl, HEND.out⟩
      · have hk3' : (k1 == 3) = false := beq_eq_false_iff_ne.2 h3
        have HSZ : Aside (sizeR k1 es1 = (prodI es1, 0)) := ⟨by unfold sizeR; rw [HT.out, if_pos rfl, if_neg h3]; rfl⟩
        have H3 := Aside.mk h3
        obtain ⟨z, hz⟩ : ∃ z, zeroQ k1 es1 = z := ⟨_, rfl⟩
        have HZQ := Aside.mk hz
        obtain ⟨pr, hpr⟩ : ∃ z, prodI es1 = z := ⟨_, rfl⟩
        have HPR := Aside.mk hpr
        rw [hpr] at HSZ
        clear ht hs h3 hz hpr
        go_wp2_with (go_at_call 36; (with_reducible refine (rIsType_calls (HA.out.ext hk1.1.out) HT.out).mono ?_); rintro e w2 ⟨rfl, he⟩; have hk2 := KT3.ext he hk1; clear hk1 he)
        have hk3 := KT3.ext ((Ext.refl _).drew) hk2
        go_region_held3 (fun w' => KT3 w1 p0 p1 (.int .i64 k1) (.slice A0 n1 c0) (.int .i64 k2) (.slice A1 n2 c1) w') (first | assumption | exact KT3.ext (by assumption) (by assumption)) (first | (go_at_call 34; (with_reducible refine (isType_calls (HA.out.ext (Aside.out (And.left (show KT3 w1 p0 p1 (.int .i64 k1) (.slice A0 n1 c0) (.int .i64 k2) (.slice A1 n2 c1) _ from by assumption)))) HT.out).mono ?_); rintro e w4 ⟨rfl, he4⟩) | (go_at_call 33; (with_reducible refine (shSame_calls (HA.out.ext (Aside.out (And.left (show KT3 w1 p0 p1 (.int .i64 k1) (.slice A0 n1 c0) (.int .i64 k2) (.slice A1 n2 c1) _ from by assumption)))) (HB.out.ext (Aside.out (And.left (show KT3 w1 p0 p1 (.int .i64 k1) (.slice A0 n1 c0) (.int .i64 k2) (.slice A1 n2 c1) _ from by assumption)))) HSM.out).mono ?_); rintro e w5 ⟨rfl, he5⟩) | (go_at_call 28; (with_reducible refine (rSame_calls (HA.out.ext (Aside.out (And.left (show KT3 w1 p0 p1 (.int .i64 k1) (.slice A0 n1 c0) (.int .i64 k2) (.slice A1 n2 c1) _ from by assumption)))) (HB.out.ext (Aside.out (And.left (show KT3 w1 p0 p1 (.int .i64 k1) (.slice A0 n1 c0) (.int .i64 k2) (.slice A1 n2 c1) _ from by assumption)))) HSM.out).mono ?_); rintro e w6 ⟨rfl, he6⟩))
        have hk6 := KT3.ext he6 (KT3.ext he5 (KT3.ext he4 hk3))
        clear hk2 hk3 he4 he5 he6
        go_wp2_with (first | (go_at_call 37; (with_reducible refine (sizeOf_calls (HA.out.ext hk6.1.out) HSZ.out).mono ?_); rintro e w7 ⟨rfl, he⟩; have hk7 := KT3.ext he hk6; clear hk6 he) | (go_at_call 32; (with_reducible refine (shText_calls (HG1.out.ext hk7.1.out) (HA.out.ext hk7.1.out) HT.out HS.out).mono ?_); rintro e w8 ⟨rfl, he⟩; have hk8 := KT3.ext he hk7; clear hk7 he) | (go_at_call 38; (with_reducible refine (zero_box_ok (HA.out.ext hk8.1.out) HT.out H3.out HZQ.out).mono ?_); rintro e w9 ⟨D2, d2, A2, a2, B2, b2, rfl, hz, he⟩; have hk9 := KT3.ext (he.alloc (.cells #[.int .i64 z.k, .slice D2 z.ds.length d2, .slice A2 z.nums.length a2, .slice B2 z.bits.length b2] 29)) hk8; have hz9 := KeepB.init w9 (.int .i64 z.k) (.slice D2 z.ds.length d2) (.slice A2 z.nums.length a2) (.slice B2 z.bits.length b2) 29; have HZV := Aside.mk hz; clear hk8 he hz) | (go_at_call 39; (with_reducible refine (rTyText_calls (HA.out.ext hk9.1.out) HT.out HS.out).mono ?_); rintro e w12 ⟨rfl, he⟩; have hk12 := KT3.ext he hk9; have hz12 := KeepB.ext he hz9; clear hk9 hz9 he))
        have hs12 : KTZ w1 p0 p1 (.int .i64 k1) (.slice A0 n1 c0) (.int .i64 k2) (.slice A1 n2 c1) w9 (.int .i64 z.k) (.slice D2 z.ds.length d2) (.slice A2 z.nums.length a2) (.slice B2 z.bits.length b2) w12.drew := ⟨KT3.ext ((Ext.refl _).drew) hk12, KeepB.ext ((Ext.refl _).drew) hz12⟩
        clear hk12 hz12
        go_region_held3 (fun w' => KTZ w1 p0 p1 (.int .i64 k1) (.slice A0 n1 c0) (.int .i64 k2) (.slice A1 n2 c1) w9 (.int .i64 z.k) (.slice D2 z.ds.length d2) (.slice A2 z.nums.length a2) (.slice B2 z.bits.length b2) w') (first | assumption | exact KTZ.ext (by assumption) (by assumption)) (first | (go_at_call 40; (with_reducible refine (rSize_calls (HA.out.ext (Aside.out (And.left (And.left (show KTZ w1 p0 p1 (.int .i64 k1) (.slice A0 n1 c0) (.int .i64 k2) (.slice A1 n2 c1) w9 (.int .i64 z.k) (.slice D2 z.ds.length d2) (.slice A2 z.nums.length a2) (.slice B2 z.bits.length b2) _ from by assumption))))) HDD.out).mono ?_); rw [HPR.out]; rintro e w13 ⟨rfl, he13⟩) | (go_at_call 41; (with_reducible refine (rzero_box (HA.out.ext (Aside.out (And.left (And.left (show KTZ w1 p0 p1 (.int .i64 k1) (.slice A0 n1 c0) (.int .i64 k2) (.slice A1 n2 c1) w9 (.int .i64 z.k) (.slice D2 z.ds.length d2) (.slice A2 z.nums.length a2) (.slice B2 z.bits.length b2) _ from by assumption))))) HDD.out HZQ.out).mono ?_); rintro e w14 ⟨D3, d3, A3, a3, B3, b3, rfl, hz3, he14⟩; have HZ3 := Aside.mk hz3; clear hz3) | (go_at_call 21; (with_reducible refine (gives3_same (HZV.out.ext (Aside.out (And.left (And.right (show KTZ w1 p0 p1 (.int .i64 k1) (.slice A0 n1 c0) (.int .i64 k2) (.slice A1 n2 c1) w9 (.int .i64 z.k) (.slice D2 z.ds.length d2) (.slice A2 z.nums.length a2) (.slice B2 z.bits.length b2) _ from by assumption))))) HZ3.out).mono ?_); rintro e w15 ⟨rfl, he15⟩) | (go_at_call 19; (with_reducible refine (alive3_calls (HG1.out.ext (Aside.out (And.left (And.left (show KTZ w1 p0 p1 (.int .i64 k1) (.slice A0 n1 c0) (.int .i64 k2) (.slice A1 n2 c1) w9 (.int .i64 z.k) (.slice D2 z.ds.length d2) (.slice A2 z.nums.length a2) (.slice B2 z.bits.length b2) _ from by assumption)))))).mono ?_); rintro e w16 ⟨rfl, he16⟩))
        have HEND := Aside.mk (HE.out.trans (Aside.out (And.left (KT3.ext he16 (KT3.ext he15 (KT3.ext he14 (KT3.ext he13 hs12.1)))))))
        go_wp2_with fail
        go_ret
        exact ⟨rfl, HEND.out⟩
end Go.Proofs.YtcbaipnphepbeaaGreatDoor

namespace Go.Proofs.YtcbaipnphepbeaaGreatDoor
open Go.RowKit Go.ChangeShapes Go.WideShapes Go.ChangeAt

set_option maxRecDepth 100000 in
theorem lwTypes_lifted (os : Os) (started : os.Started) (H : Type) (enc : TypeId × Value → H) :
    ReturnsInHanded {} Tryz.checked os 7 .any (fun w args => (Rows.shapeTypesSpec.pre enc Tryz.prog Tryz.f7 [] false w args ∧ laidMetH Tryz.prog Rows.shapeTypesRow.laid w) ∧ sizedMet enc Tryz.prog Tryz.f7 (OpenSpec.ofChange Rows.shapeTypesSpec) false w args)
      (Rows.shapeTypesSpec.post enc Tryz.prog Tryz.f7 false true false false) := by
  refine returns_law (C := Tryz.checked) (X := fun w _ => laidMetH Tryz.prog Rows.shapeTypesRow.laid w) (fun _ _ _ hh h => h.of_heap hh) Tryz.own started (by kernel_rfl) Tryz.func7
    (ChangeSpec.witness_shaped (enc := enc) (C := Tryz.checked) (os := os) (X := fun w _ => laidMetH Tryz.prog Rows.shapeTypesRow.laid w) false (World.laidAll Tryz.prog os Rows.shapeTypesRow.laid) #[.agg #[.int .i64 0, .slice none 0 0], .agg #[.int .i64 0, .slice none 0 0]] 8 (World.laidAll_os _ _ _)
      (World.shaped_of_ZipB (by kernel_rfl) (by kernel_rfl)) (by kernel_rfl) (by kernel_rfl) (by kernel_rfl)
      (by rw [MakeChecks.laidMetH_plain _ _ _ (by kernel_rfl)]; exact laidMet_laidAll _ (by kernel_rfl) (by kernel_rfl))) ?_
  intro W base args ds gs before hval0 hW hL hsh
  have hval : ∀ (j : Nat) t v, Tryz.f7.params[j]? = some t → args[j]? = some v → Value.okWide Tryz.prog W .any base t v := hval0
  have hW' := hW
  obtain ⟨p, q, hA0, hV, rfl, hfz, hnd⟩ := hW
  have hA : DataW.TrodAll enc Tryz.prog W 0 (fun _ => true) true Tryz.f7.params.toList args.toList ds p := hA0
  have hA' := hA
  rw [Tryz.params7] at hA hval
  obtain ⟨v0, v1, d0, d1, p0, p1, rfl, rfl, rfl, ⟨k0, h0⟩, ⟨k1, h1⟩⟩ := trodAll_two hA
  obtain ⟨rfl, rfl⟩ := trodVars_none hV
  have hG := glob3_of (by kernel_rfl) rfl hL hsh
  obtain ⟨k1, ds1, ht1⟩ := ty_of (hval 0 25 v0 rfl rfl) h0
  obtain ⟨k2, ds2, ht2⟩ := ty_of (hval 1 25 v1 rfl rfl) h1
  refine (lwTypes_calls hG ht1 ht2).mono fun e W' ⟨he, hw⟩ => ?_
  subst he
  refine ⟨_, rfl, law_post (ts := Tryz.f7.params.toList) rfl rfl rfl ?_ ⟨rfl, rfl, rfl⟩ hW' (by simpa using hA') hw⟩
  rw [Tryz.params7]
  exact read_all (by kernel_rfl)

theorem shapeTypes_holds : Rows.ShapeTypesSaid :=
  OpenClaim.holds_of_wide 7 Tryz.f7 rfl rfl rfl rfl rfl rfl rfl ⟨rfl, rfl, rfl, rfl, rfl⟩ rfl rfl rfl rfl rfl (by kernel_rfl) Tryz.func7 (by kernel_rfl)
    (of_decide_eq_true (by kernel_rfl)) (by unfold Func.isWrapper; first | (rw [if_neg (by decide +kernel)]; exact ⟨rfl, rfl⟩) | (rw [if_pos (by decide +kernel)]; kernel_rfl))
    (fun os started H enc _ => lwTypes_lifted os started H enc)
end Go.Proofs.YtcbaipnphepbeaaGreatDoor

namespace Go.Proofs.YtcbaipnphepbeaaGreatDoor
open Go

set_option maxRecDepth 100000 in
theorem shapeTypes_card : Rows.ShapeTypesCardSaid :=
  Claim7.holds_tied_plain_at .later [] [.data, .data, .data, .data, .data] true (true, "74a4f590cf19fe5091db46413e7db25a7b9d51dc5c5273584579c29297515e2e") false
    shapeTypes_holds (fun _ h => by cases h) (by kernel_rfl) (fun _ h => by cases h) shapeTypes_row_tie rfl ⟨rfl, rfl⟩ (by kernel_rfl) rfl
    (fun f fn hf hfn => by
      obtain rfl : f = 7 := Option.some.inj ((show Tryz.prog.funcNamed "fluxion/fluxionlaw03.ShapeTypes" = some 7 by kernel_rfl).symm.trans hf) |>.symm
      obtain rfl : fn = Tryz.f7 := (Option.some.inj (Tryz.func7.symm.trans hfn)).symm
      exact ⟨by kernel_rfl, fun j t ht => by
        rw [Tryz.params7] at ht
        have hm : t ∈ Tryz.f7.params.toList := by rw [Tryz.params7]; exact Array.mem_toList_iff.2 (Array.mem_of_getElem? ht)
        have hall : (Tryz.f7.params.toList.all fun u => !Tryz.prog.wantsStandIn u) = true := by kernel_rfl
        exact (show Tryz.prog.wantsStandIn t = false by simpa using List.all_eq_true.1 hall t hm)⟩)
    (by kernel_rfl)
#print axioms shapeTypes_card
end Go.Proofs.YtcbaipnphepbeaaGreatDoor
