/- The law ShapeValues: it returns true. ShapeValues: of every input the call returns true, and each argument reads behind it as it read before. ShapeValues: the tied card holds: for any Value and any int IsValue, Element and Show return what the specification says, or its errors. Conditions: the package-level variables that the row lists start as the program's text lays them (the tie is given). -/
import Derived.Test.YtcbaipnphepbeaaGreatDoorNt
import Derived.Test.YtcbaipnphepbeaaGreatDoorNr
import Derived.Test.YtcbaipnphepbeaaGreatDoorNu
import Derived.Test.YtcbaipnphepbeaaGreatDoorCards
import Derived.Test.YtcbaipnphepbeaaGreatDoorTie
import Derived.SevenTiedAt
namespace Go.Proofs.YtcbaipnphepbeaaGreatDoor
open Go.RowKit
attribute [local go_sem ↓] Go.wp_at_zero Go.wp_at_succ

/-- A zero value in a result. -/
theorem box_zero {F : FuncId} {args : Array Value} {w : World} {e0 : Int} (h : Calls Tryz.prog F args w fun e w' => ∃ r, e = .returned (.tuple #[r, .int .i64 e0]) ∧ VO w.heap.size w' r zeroV ∧ Ext w w') :
    Calls Tryz.prog F args w fun e w' => ∃ D d A a B b, e = .returned (.tuple #[.agg #[.int .i64 0, .slice D 0 d, .slice A 0 a, .slice B 0 b], .int .i64 e0]) ∧ Ext w w' := by
  refine h.mono ?_
  rintro e w' ⟨r, rfl, hr, he⟩
  obtain ⟨D, d, A, a, B, b, rfl⟩ := hr.vv.form
  exact ⟨D, d, A, a, B, b, rfl, he⟩
/-- A value in a result. -/
theorem box_elem {F : FuncId} {args : Array Value} {w : World} {e0 : Int} {el : Vq} (h : Calls Tryz.prog F args w fun e w' => ∃ r, e = .returned (.tuple #[r, .int .i64 e0]) ∧ VO w.heap.size w' r el ∧ Ext w w') :
    Calls Tryz.prog F args w fun e w' => ∃ D d A a B b, e = .returned (.tuple #[.agg #[.int .i64 el.k, .slice D el.ds.length d, .slice A el.nums.length a, .slice B el.bits.length b], .int .i64 e0]) ∧ Aside (VV w' (.agg #[.int .i64 el.k, .slice D el.ds.length d, .slice A el.nums.length a, .slice B el.bits.length b]) el) ∧ Ext w w' := by
  refine h.mono ?_
  rintro e w' ⟨r, rfl, hr, he⟩
  obtain ⟨D, d, A, a, B, b, rfl⟩ := hr.vv.form
  exact ⟨D, d, A, a, B, b, rfl, ⟨hr.vv⟩, he⟩
theorem box_elem1 {F : FuncId} {args : Array Value} {w : World} {el : Vq} (h : Calls Tryz.prog F args w fun e w' => ∃ r, e = .returned r ∧ VO w.heap.size w' r el ∧ Ext w w') :
    Calls Tryz.prog F args w fun e w' => ∃ D d A a B b, e = .returned (.agg #[.int .i64 el.k, .slice D el.ds.length d, .slice A el.nums.length a, .slice B el.bits.length b]) ∧ Aside (VV w' (.agg #[.int .i64 el.k, .slice D el.ds.length d, .slice A el.nums.length a, .slice B el.bits.length b]) el) ∧ Ext w w' := by
  refine h.mono ?_
  rintro e w' ⟨r, rfl, hr, he⟩
  obtain ⟨D, d, A, a, B, b, rfl⟩ := hr.vv.form
  exact ⟨D, d, A, a, B, b, rfl, ⟨hr.vv⟩, he⟩
theorem value_to {w : World} {x : Value} {v u : Vq} (h : VL w x v) (hu : cutv v = u) :
    Calls Tryz.prog 13 #[x] w fun e w' => ∃ D d A a B b, e = .returned (.agg #[.int .i64 u.k, .slice D u.ds.length d, .slice A u.nums.length a, .slice B u.bits.length b]) ∧ Aside (VV w' (.agg #[.int .i64 u.k, .slice D u.ds.length d, .slice A u.nums.length a, .slice B u.bits.length b]) u) ∧ Ext w w' := by
  subst hu
  exact box_elem1 (value_calls h)
theorem value_first {w : World} {x : Value} {v u : Vq} {d : Int} {ds : List Int} (h : VL w x v) (hu : cutv v = u) (hd : u.ds = d :: ds) :
    Calls Tryz.prog 13 #[x] w fun e w' => ∃ b0 o0 d' A a B b, e = .returned (.agg #[.int .i64 u.k, .slice (some ⟨b0, o0, none⟩) (ds.length + 1) d', .slice A u.nums.length a, .slice B u.bits.length b]) ∧ Aside (VV w' (.agg #[.int .i64 u.k, .slice (some ⟨b0, o0, none⟩) (ds.length + 1) d', .slice A u.nums.length a, .slice B u.bits.length b]) u) ∧ Aside (w'.cell? ⟨b0, o0, none⟩ = some (.int .i64 d)) ∧ Aside (ds.length + 1 ≤ d') ∧ Ext w w' := by
  subst hu
  refine (value_calls h).mono ?_
  rintro e w' ⟨r, rfl, hr, he⟩
  obtain ⟨b0, o0, cd, A, ca, B, cb, e, hc, hl⟩ := hr.vv.first hd
  have hv := hr.vv
  rw [e] at hv
  exact ⟨b0, o0, cd, A, ca, B, cb, by rw [e], ⟨hv⟩, ⟨hc⟩, ⟨hl⟩, he⟩
set_option maxRecDepth 10000 in
set_option maxHeartbeats 8000000 in
theorem lwValues_calls {w : World} {x : Value} {u : Vq} {at' : Int} (hg : Glob3 w) (h : VL w x u) :
    Calls Tryz.prog 3 #[x, .int .i64 at'] w fun e w' => e = .returned (.bool true) ∧ Ext w w' := by
  have HG := Aside.mk hg
  have HX := Aside.mk h
  obtain ⟨d, n, b, rfl, hd, hn, hb, hs⟩ := h
  obtain ⟨D, cd, xs, rfl, _⟩ := hd
  obtain ⟨A, ca, ys, rfl, _⟩ := hn
  obtain ⟨B, cb, zs, rfl, _⟩ := hb
  obtain ⟨v, hv⟩ : ∃ v, cutv u = v := ⟨_, rfl⟩
  have HCV := Aside.mk hv
  have k0 := KeepB.init w (.int .i64 u.k) (.slice D u.ds.length cd) (.slice A u.nums.length ca) (.slice B u.bits.length cb) 29
  obtain ⟨t, ht⟩ : ∃ t, valOk v = t := ⟨_, rfl⟩
  have HO := Aside.mk ht
  generalize u.ds.length = l1 at *
  generalize u.nums.length = l2 at *
  generalize u.bits.length = l3 at *
  clear hg hs hv
  cases t
  · obtain ⟨nd, hnd⟩ : ∃ n, v.ds.length = n := ⟨_, rfl⟩
    have HND := Aside.mk hnd
    clear ht hnd
    go_enter Tryz.func3, Tryz.ntmps3
    go_wp2_with (first | (go_at_call 13; (with_reducible refine (value_to (HX.out.ext k0.1.out) HCV.out).mono ?_); rw [HND.out]; rintro e w1 ⟨D1, e1, A1, a1, B1, b1, rfl, HV, f1⟩; have k1 := KeepB.init w1 (.int .i64 v.k) (.slice D1 nd e1) (.slice A1 v.nums.length a1) (.slice B1 v.bits.length b1) 29; have E1 := Aside.mk (k0.1.out.trans f1); clear f1 k0) | (go_at_call 14; (with_reducible refine (rIsValue_calls (HV.out.ext k1.1.out) HO.out).mono ?_); rintro e w2 ⟨rfl, f2⟩; have k2 := KeepB.ext f2 k1; clear f2 k1) | (go_at_call 15; (with_reducible refine (isValue_calls (HV.out.ext k2.1.out) HO.out).mono ?_); rintro e w3 ⟨rfl, f3⟩; have k3 := KeepB.ext f3 k2; clear f3 k2) | (go_at_call 16; (with_reducible refine (box_zero (element_bad (HV.out.ext k3.1.out) HO.out)).mono ?_); rintro e w4 ⟨D4, e4, A4, a4, B4, b4, rfl, f4⟩; have p4 := KeepB.init w4 (.int .i64 0) (.slice D4 0 e4) (.slice A4 0 a4) (.slice B4 0 b4) 29; have k4 := KeepB.ext (f4.trans p4.1.out) k3; clear f4 k3) | (go_at_call 17; (with_reducible refine (show_bad (HV.out.ext k4.1.out) HO.out).mono ?_); rintro e w5 ⟨rfl, f5⟩; have k5 := KeepB.ext f5 k4; have p5 := KeepB.ext f5 p4; clear f5 k4 p4) | (go_at_call 18; (with_reducible refine lzero_true.mono ?_); rintro e w7 ⟨rfl, f7⟩; have k7 := KeepB.ext f7 k5; clear f7 k5 p5) | (go_at_call 19; (with_reducible refine (alive3_calls (HG.out.ext (E1.out.trans k7.1.out))).mono ?_); rintro e w8 ⟨rfl, f8⟩; have HEND := Aside.mk (E1.out.trans (k7.1.out.trans f8)); clear f8 k7))
    go_ret
    exact ⟨rfl, HEND.out⟩
  · obtain ⟨s, hs⟩ : ∃ s, (⟨(showV v).toArray⟩ : ByteArray) = s := ⟨_, rfl⟩
    have HS := Aside.mk hs
    cases hvd : v.ds with
    | nil =>
      have HDS := Aside.mk hvd
      obtain ⟨nd, hnd⟩ : ∃ n, v.ds.length = n := ⟨_, rfl⟩
      have HND := Aside.mk hnd
      have hn0 : nd = 0 := by rw [← hnd, hvd]; rfl
      subst hn0
      clear ht hnd hs hvd
      go_enter Tryz.func3, Tryz.ntmps3
      go_wp2_with (first | (go_at_call 13; (with_reducible refine (value_to (HX.out.ext k0.1.out) HCV.out).mono ?_); rw [HND.out]; rintro e w1 ⟨D1, e1, A1, a1, B1, b1, rfl, HV, f1⟩; have k1 := KeepB.init w1 (.int .i64 v.k) (.slice D1 0 e1) (.slice A1 v.nums.length a1) (.slice B1 v.bits.length b1) 29; have E1 := Aside.mk (k0.1.out.trans f1); clear f1 k0) | (go_at_call 14; (with_reducible refine (rIsValue_calls (HV.out.ext k1.1.out) HO.out).mono ?_); rintro e w2 ⟨rfl, f2⟩; have k2 := KeepB.ext f2 k1; clear f2 k1) | (go_at_call 15; (with_reducible refine (isValue_calls (HV.out.ext k2.1.out) HO.out).mono ?_); rintro e w3 ⟨rfl, f3⟩; have k3 := KeepB.ext f3 k2; clear f3 k2) | (go_at_call 16; (with_reducible refine (box_zero (element_scalar (HV.out.ext k3.1.out) HO.out HDS.out)).mono ?_); rintro e w4 ⟨D4, e4, A4, a4, B4, b4, rfl, f4⟩; have p4 := KeepB.init w4 (.int .i64 0) (.slice D4 0 e4) (.slice A4 0 a4) (.slice B4 0 b4) 29; have k4 := KeepB.ext (f4.trans p4.1.out) k3; clear f4 k3) | (go_at_call 17; (with_reducible refine (show_ok (HG.out.base.ext (E1.out.trans k4.1.out)) (HV.out.ext k4.1.out) HO.out HS.out).mono ?_); rintro e w5 ⟨rfl, f5⟩; have k5 := KeepB.ext f5 k4; have p5 := KeepB.ext f5 p4; clear f5 k4 p4) | (go_at_call 20; (with_reducible refine (rShow_calls (HV.out.ext k5.1.out) HO.out HS.out).mono ?_); rintro e w6 ⟨rfl, f6⟩; have k6 := KeepB.ext f6 k5; have p6 := KeepB.ext f6 p5; clear f6 k5 p5) | (go_at_call 18; (with_reducible refine lzero_true.mono ?_); rintro e w7 ⟨rfl, f7⟩; have k7 := KeepB.ext f7 k6; clear f7 k6 p6) | (go_at_call 19; (with_reducible refine (alive3_calls (HG.out.ext (E1.out.trans k7.1.out))).mono ?_); rintro e w8 ⟨rfl, f8⟩; have HEND := Aside.mk (E1.out.trans (k7.1.out.trans f8)); clear f8 k7))
      go_ret
      exact ⟨rfl, HEND.out⟩
    | cons d ds =>
      have HDS := Aside.mk hvd
      obtain ⟨nd, hnd⟩ : ∃ n, ds.length = n := ⟨_, rfl⟩
      have HND := Aside.mk hnd
      clear ht hnd hs hvd
      by_cases hfar : at' < 0 ∨ (0 ≤ at' ∧ d ≤ at')
      · have HFAR := Aside.mk hfar
        rcases hfar with hf | ⟨hf1, hf2⟩
        · go_enter Tryz.func3, Tryz.ntmps3
          go_wp2_with (first | (go_at_call 13; (with_reducible refine (value_first (HX.out.ext k0.1.out) HCV.out HDS.out).mono ?_); rw [HND.out]; rintro e w1 ⟨b0, o0, e1, A1, a1, B1, b1, rfl, HV, HC, HLC, f1⟩; have k1 := KeepB.init w1 (.int .i64 v.k) (.slice (some ⟨b0, o0, none⟩) (nd + 1) e1) (.slice A1 v.nums.length a1) (.slice B1 v.bits.length b1) 29; have E1 := Aside.mk (k0.1.out.trans f1); clear f1 k0) | (go_at_call 14; (with_reducible refine (rIsValue_calls (HV.out.ext k1.1.out) HO.out).mono ?_); rintro e w2 ⟨rfl, f2⟩; have k2 := KeepB.ext f2 k1; clear f2 k1) | (go_at_call 15; (with_reducible refine (isValue_calls (HV.out.ext k2.1.out) HO.out).mono ?_); rintro e w3 ⟨rfl, f3⟩; have k3 := KeepB.ext f3 k2; clear f3 k2) | (go_at_call 16; (with_reducible refine (box_zero (element_far (HV.out.ext k3.1.out) HO.out HDS.out HFAR.out)).mono ?_); rintro e w4 ⟨D4, e4, A4, a4, B4, b4, rfl, f4⟩; have p4 := KeepB.init w4 (.int .i64 0) (.slice D4 0 e4) (.slice A4 0 a4) (.slice B4 0 b4) 29; have k4 := KeepB.ext (f4.trans p4.1.out) k3; clear f4 k3) | (go_at_call 17; (with_reducible refine (show_ok (HG.out.base.ext (E1.out.trans k4.1.out)) (HV.out.ext k4.1.out) HO.out HS.out).mono ?_); rintro e w5 ⟨rfl, f5⟩; have k5 := KeepB.ext f5 k4; have p5 := KeepB.ext f5 p4; clear f5 k4 p4) | (go_at_call 20; (with_reducible refine (rShow_calls (HV.out.ext k5.1.out) HO.out HS.out).mono ?_); rintro e w6 ⟨rfl, f6⟩; have k6 := KeepB.ext f6 k5; have p6 := KeepB.ext f6 p5; have g6 := k6.1.out.cell HC.out; have g7 := HLC.out; clear f6 k5 p5) | (go_at_call 18; (with_reducible refine lzero_true.mono ?_); rintro e w7 ⟨rfl, f7⟩; have k7 := KeepB.ext f7 k6; clear f7 k6 p6) | (go_at_call 19; (with_reducible refine (alive3_calls (HG.out.ext (E1.out.trans k7.1.out))).mono ?_); rintro e w8 ⟨rfl, f8⟩; have HEND := Aside.mk (E1.out.trans (k7.1.out.trans f8)); clear f8 k7))
          go_ret
          exact ⟨rfl, HEND.out⟩
        · go_enter Tryz.func3, Tryz.ntmps3
          go_wp2_with (first | (go_at_call 13; (with_reducible refine (value_first (HX.out.ext k0.1.out) HCV.out HDS.out).mono ?_); rw [HND.out]; rintro e w1 ⟨b0, o0, e1, A1, a1, B1, b1, rfl, HV, HC, HLC, f1⟩; have k1 := KeepB.init w1 (.int .i64 v.k) (.slice (some ⟨b0, o0, none⟩) (nd + 1) e1) (.slice A1 v.nums.length a1) (.slice B1 v.bits.length b1) 29; have E1 := Aside.mk (k0.1.out.trans f1); clear f1 k0) | (go_at_call 14; (with_reducible refine (rIsValue_calls (HV.out.ext k1.1.out) HO.out).mono ?_); rintro e w2 ⟨rfl, f2⟩; have k2 := KeepB.ext f2 k1; clear f2 k1) | (go_at_call 15; (with_reducible refine (isValue_calls (HV.out.ext k2.1.out) HO.out).mono ?_); rintro e w3 ⟨rfl, f3⟩; have k3 := KeepB.ext f3 k2; clear f3 k2) | (go_at_call 16; (with_reducible refine (box_zero (element_far (HV.out.ext k3.1.out) HO.out HDS.out HFAR.out)).mono ?_); rintro e w4 ⟨D4, e4, A4, a4, B4, b4, rfl, f4⟩; have p4 := KeepB.init w4 (.int .i64 0) (.slice D4 0 e4) (.slice A4 0 a4) (.slice B4 0 b4) 29; have k4 := KeepB.ext (f4.trans p4.1.out) k3; clear f4 k3) | (go_at_call 17; (with_reducible refine (show_ok (HG.out.base.ext (E1.out.trans k4.1.out)) (HV.out.ext k4.1.out) HO.out HS.out).mono ?_); rintro e w5 ⟨rfl, f5⟩; have k5 := KeepB.ext f5 k4; have p5 := KeepB.ext f5 p4; clear f5 k4 p4) | (go_at_call 20; (with_reducible refine (rShow_calls (HV.out.ext k5.1.out) HO.out HS.out).mono ?_); rintro e w6 ⟨rfl, f6⟩; have k6 := KeepB.ext f6 k5; have p6 := KeepB.ext f6 p5; have g6 := k6.1.out.cell HC.out; have g7 := HLC.out; clear f6 k5 p5) | (go_at_call 18; (with_reducible refine lzero_true.mono ?_); rintro e w7 ⟨rfl, f7⟩; have k7 := KeepB.ext f7 k6; clear f7 k6 p6) | (go_at_call 19; (with_reducible refine (alive3_calls (HG.out.ext (E1.out.trans k7.1.out))).mono ?_); rintro e w8 ⟨rfl, f8⟩; have HEND := Aside.mk (E1.out.trans (k7.1.out.trans f8)); clear f8 k7))
          go_ret
          exact ⟨rfl, HEND.out⟩
      · obtain ⟨i, rfl⟩ : ∃ i : Nat, at' = (i : Int) := ⟨at'.toNat, by omega⟩
        have hlt : (i : Int) < d := by omega
        have HLT := Aside.mk hlt
        have h0 : (0 : Int) ≤ (i : Int) := Int.natCast_nonneg _
        obtain ⟨el, hel⟩ : ∃ e, elemV v i = e := ⟨_, rfl⟩
        have HEL := Aside.mk hel
        clear hfar hel
        go_enter Tryz.func3, Tryz.ntmps3
        go_wp2_with (first | (go_at_call 13; (with_reducible refine (value_first (HX.out.ext k0.1.out) HCV.out HDS.out).mono ?_); rw [HND.out]; rintro e w1 ⟨b0, o0, e1, A1, a1, B1, b1, rfl, HV, HC, HLC, f1⟩; have k1 := KeepB.init w1 (.int .i64 v.k) (.slice (some ⟨b0, o0, none⟩) (nd + 1) e1) (.slice A1 v.nums.length a1) (.slice B1 v.bits.length b1) 29; have E1 := Aside.mk (k0.1.out.trans f1); clear f1 k0) | (go_at_call 14; (with_reducible refine (rIsValue_calls (HV.out.ext k1.1.out) HO.out).mono ?_); rintro e w2 ⟨rfl, f2⟩; have k2 := KeepB.ext f2 k1; clear f2 k1) | (go_at_call 15; (with_reducible refine (isValue_calls (HV.out.ext k2.1.out) HO.out).mono ?_); rintro e w3 ⟨rfl, f3⟩; have k3 := KeepB.ext f3 k2; clear f3 k2) | (go_at_call 16; (with_reducible refine (box_elem (element_ok (HV.out.ext k3.1.out) HO.out HDS.out HLT.out)).mono ?_); rw [HEL.out]; rintro e w4 ⟨D4, e4, A4, a4, B4, b4, rfl, HXV, f4⟩; have p4 := KeepB.init w4 (.int .i64 el.k) (.slice D4 el.ds.length e4) (.slice A4 el.nums.length a4) (.slice B4 el.bits.length b4) 29; have k4 := KeepB.ext (f4.trans p4.1.out) k3; clear f4 k3) | (go_at_call 17; (with_reducible refine (show_ok (HG.out.base.ext (E1.out.trans k4.1.out)) (HV.out.ext k4.1.out) HO.out HS.out).mono ?_); rintro e w5 ⟨rfl, f5⟩; have k5 := KeepB.ext f5 k4; have p5 := KeepB.ext f5 p4; clear f5 k4 p4) | (go_at_call 20; (with_reducible refine (rShow_calls (HV.out.ext k5.1.out) HO.out HS.out).mono ?_); rintro e w6 ⟨rfl, f6⟩; have k6 := KeepB.ext f6 k5; have p6 := KeepB.ext f6 p5; have g6 := k6.1.out.cell HC.out; have g7 := HLC.out; clear f6 k5 p5))
        have hs6 : KeepB w1 (.int .i64 v.k) (.slice (some ⟨b0, o0, none⟩) (nd + 1) e1) (.slice A1 v.nums.length a1) (.slice B1 v.bits.length b1) w6.drew ∧ KeepB w4 (.int .i64 el.k) (.slice D4 el.ds.length e4) (.slice A4 el.nums.length a4) (.slice B4 el.bits.length b4) w6.drew := ⟨KeepB.ext ((Ext.refl _).drew) k6, KeepB.ext ((Ext.refl _).drew) p6⟩
        clear k6 p6
        go_region_held3 (fun w' => KeepB w1 (.int .i64 v.k) (.slice (some ⟨b0, o0, none⟩) (nd + 1) e1) (.slice A1 v.nums.length a1) (.slice B1 v.bits.length b1) w' ∧ KeepB w4 (.int .i64 el.k) (.slice D4 el.ds.length e4) (.slice A4 el.nums.length a4) (.slice B4 el.bits.length b4) w') (first | assumption | exact ⟨KeepB.ext (by assumption) (And.left (by assumption)), KeepB.ext (by assumption) (And.right (by assumption))⟩) (first | (go_at_call 22; (with_reducible refine (box_elem1 (rElement_calls (HV.out.ext (Aside.out (And.left (And.left (show KeepB w1 (.int .i64 v.k) (.slice (some ⟨b0, o0, none⟩) (nd + 1) e1) (.slice A1 v.nums.length a1) (.slice B1 v.bits.length b1) _ ∧ KeepB w4 (.int .i64 el.k) (.slice D4 el.ds.length e4) (.slice A4 el.nums.length a4) (.slice B4 el.bits.length b4) _ from by assumption))))) HO.out HDS.out HLT.out)).mono ?_); rw [HEL.out]; rintro e w7 ⟨D7, e7, A7, a7, B7, b7, rfl, HR7, f7⟩) | (go_at_call 21; (with_reducible refine (gives3_same (HXV.out.ext (Aside.out (And.left (And.right (show KeepB w1 (.int .i64 v.k) (.slice (some ⟨b0, o0, none⟩) (nd + 1) e1) (.slice A1 v.nums.length a1) (.slice B1 v.bits.length b1) _ ∧ KeepB w4 (.int .i64 el.k) (.slice D4 el.ds.length e4) (.slice A4 el.nums.length a4) (.slice B4 el.bits.length b4) _ from by assumption))))) HR7.out).mono ?_); rintro e w8 ⟨rfl, f8⟩) | (go_at_call 19; (with_reducible refine (alive3_calls (HG.out.ext (E1.out.trans (Aside.out (And.left (And.left (show KeepB w1 (.int .i64 v.k) (.slice (some ⟨b0, o0, none⟩) (nd + 1) e1) (.slice A1 v.nums.length a1) (.slice B1 v.bits.length b1) _ ∧ KeepB w4 (.int .i64 el.k) (.slice D4 el.ds.length e4) (.slice A4 el.nums.length a4) (.slice B4 el.bits.length b4) _ from by assumption))))))).mono ?_); rintro e w9 ⟨rfl, f9⟩))
        have HEND := Aside.mk (E1.out.trans (hs6.1.1.out.trans (f7.trans (f8.trans f9))))
        go_wp2_with fail
        go_ret
        exact ⟨rfl, HEND.out⟩
end Go.Proofs.YtcbaipnphepbeaaGreatDoor

namespace Go.Proofs.YtcbaipnphepbeaaGreatDoor
open Go.RowKit Go.ChangeShapes Go.WideShapes Go.ChangeAt

set_option maxRecDepth 100000 in
theorem lwValues_lifted (os : Os) (started : os.Started) (H : Type) (enc : TypeId × Value → H) :
    ReturnsInHanded {} Tryz.checked os 3 .any (fun w args => (Rows.shapeValuesSpec.pre enc Tryz.prog Tryz.f3 [] false w args ∧ laidMetH Tryz.prog Rows.shapeValuesRow.laid w) ∧ sizedMet enc Tryz.prog Tryz.f3 (OpenSpec.ofChange Rows.shapeValuesSpec) false w args)
      (Rows.shapeValuesSpec.post enc Tryz.prog Tryz.f3 false true false false) := by
  refine returns_law (C := Tryz.checked) (X := fun w _ => laidMetH Tryz.prog Rows.shapeValuesRow.laid w) (fun _ _ _ hh h => h.of_heap hh) Tryz.own started (by kernel_rfl) Tryz.func3
    (ChangeSpec.witness_shaped (enc := enc) (C := Tryz.checked) (os := os) (X := fun w _ => laidMetH Tryz.prog Rows.shapeValuesRow.laid w) false (World.laidAll Tryz.prog os Rows.shapeValuesRow.laid) #[.agg #[.int .i64 0, .slice none 0 0, .slice none 0 0, .slice none 0 0], .int .i64 0] 8 (World.laidAll_os _ _ _)
      (World.shaped_of_ZipB (by kernel_rfl) (by kernel_rfl)) (by kernel_rfl) (by kernel_rfl) (by kernel_rfl)
      (by rw [MakeChecks.laidMetH_plain _ _ _ (by kernel_rfl)]; exact laidMet_laidAll _ (by kernel_rfl) (by kernel_rfl))) ?_
  intro W base args ds gs before hval0 hW hL hsh
  have hval : ∀ (j : Nat) t v, Tryz.f3.params[j]? = some t → args[j]? = some v → Value.okWide Tryz.prog W .any base t v := hval0
  have hW' := hW
  obtain ⟨p, q, hA0, hV, rfl, hfz, hnd⟩ := hW
  have hA : DataW.TrodAll enc Tryz.prog W 0 (fun _ => true) true Tryz.f3.params.toList args.toList ds p := hA0
  have hA' := hA
  rw [Tryz.params3] at hA hval
  obtain ⟨v0, v1, d0, d1, p0, p1, rfl, rfl, rfl, ⟨k0, h0⟩, h1⟩ := trodAll_two hA
  obtain ⟨rfl, rfl⟩ := trodVars_none hV
  have hG := glob3_of (by kernel_rfl) rfl hL hsh
  obtain ⟨u, hu⟩ := val_of (hval 0 29 v0 rfl rfl) h0
  obtain ⟨n, rfl, rfl, rfl, wn⟩ := open_int Tryz.underlying3 (hval 1 3 v1 rfl rfl) h1
  refine (lwValues_calls hG hu).mono fun e W' ⟨he, hw⟩ => ?_
  subst he
  refine ⟨_, rfl, law_post (ts := Tryz.f3.params.toList) rfl rfl rfl ?_ ⟨rfl, rfl, rfl⟩ hW' (by simpa using hA') hw⟩
  rw [Tryz.params3]
  exact read_all (by kernel_rfl)

theorem shapeValues_holds : Rows.ShapeValuesSaid :=
  OpenClaim.holds_of_wide 3 Tryz.f3 rfl rfl rfl rfl rfl rfl rfl ⟨rfl, rfl, rfl, rfl, rfl⟩ rfl rfl rfl rfl rfl (by kernel_rfl) Tryz.func3 (by kernel_rfl)
    (of_decide_eq_true (by kernel_rfl)) (by unfold Func.isWrapper; first | (rw [if_neg (by decide +kernel)]; exact ⟨rfl, rfl⟩) | (rw [if_pos (by decide +kernel)]; kernel_rfl))
    (fun os started H enc _ => lwValues_lifted os started H enc)
end Go.Proofs.YtcbaipnphepbeaaGreatDoor

namespace Go.Proofs.YtcbaipnphepbeaaGreatDoor
open Go

set_option maxRecDepth 100000 in
theorem shapeValues_card : Rows.ShapeValuesCardSaid :=
  Claim7.holds_tied_plain_at .later [] [.data, .data, .data, .data, .data] true (true, "74a4f590cf19fe5091db46413e7db25a7b9d51dc5c5273584579c29297515e2e") false
    shapeValues_holds (fun _ h => by cases h) (by kernel_rfl) (fun _ h => by cases h) shapeValues_row_tie rfl ⟨rfl, rfl⟩ (by kernel_rfl) rfl
    (fun f fn hf hfn => by
      obtain rfl : f = 3 := Option.some.inj ((show Tryz.prog.funcNamed "fluxion/fluxionlaw03.ShapeValues" = some 3 by kernel_rfl).symm.trans hf) |>.symm
      obtain rfl : fn = Tryz.f3 := (Option.some.inj (Tryz.func3.symm.trans hfn)).symm
      exact ⟨by kernel_rfl, fun j t ht => by
        rw [Tryz.params3] at ht
        have hm : t ∈ Tryz.f3.params.toList := by rw [Tryz.params3]; exact Array.mem_toList_iff.2 (Array.mem_of_getElem? ht)
        have hall : (Tryz.f3.params.toList.all fun u => !Tryz.prog.wantsStandIn u) = true := by kernel_rfl
        exact (show Tryz.prog.wantsStandIn t = false by simpa using List.all_eq_true.1 hall t hm)⟩)
    (by kernel_rfl)
#print axioms shapeValues_card
end Go.Proofs.YtcbaipnphepbeaaGreatDoor
