/- Contracts of package frac: size, Of, Make. -/
import Derived.Test.YtgfkachfbnbikaaGreatDoorFracC
namespace Go.Proofs.YtgfkachfbnbikaaGreatDoor
open Go.RowKit

/-- A result of four cells in block g. -/
abbrev Keep4 (w : World) (g : Nat) (w' : World) : Prop :=
  Aside (Ext w w') ∧ Fits w' ⟨g, 0, none⟩ ∧ Fits w' ⟨g, 1, none⟩ ∧ Fits w' ⟨g, 2, none⟩ ∧ Fits w' ⟨g, 3, none⟩
theorem Keep4.ext {w w1 w2 : World} {g : Nat} (e : Ext w1 w2) (h : Keep4 w g w1) : Keep4 w g w2 :=
  ⟨⟨h.1.out.trans e⟩, h.2.1.ext e, h.2.2.1.ext e, h.2.2.2.1.ext e, h.2.2.2.2.ext e⟩
theorem Keep4.init {w w0 : World} (h : Ext w w0) (z0 z1 z2 z3 : Value) (t : TypeId) : Keep4 w w0.heap.size (w0.alloc (.cells #[z0, z1, z2, z3] t)) :=
  ⟨⟨h.alloc _⟩, fits_new (v := z0) rfl rfl, fits_new (v := z1) rfl rfl, fits_new (v := z2) rfl rfl, fits_new (v := z3) rfl rfl⟩
theorem RO.form {b : Nat} {w : World} {v : Value} {q : Rq} (h : RO b w v q) : ∃ A c B d, v = .agg #[.int .i64 q.f, .bool q.neg, .slice A q.num.length c, .slice B q.den.length d] := by
  obtain ⟨x, y, rfl, h1, h2⟩ := h
  obtain ⟨A, c, rfl, _⟩ := h1.form
  obtain ⟨B, d, rfl, _⟩ := h2.form
  exact ⟨A, c, B, d, rfl⟩
theorem RO.set4 {b : Nat} {w : World} {v : Value} {q : Rq} (h : RO b w v q) {g : Nat} (hg : g < b) (v0 v1 v2 v3 : Value) :
    RO b ((((w.setCell ⟨g, 0, none⟩ v0).setCell ⟨g, 1, none⟩ v1).setCell ⟨g, 2, none⟩ v2).setCell ⟨g, 3, none⟩ v3) v q := (((h.set hg v0).set hg v1).set hg v2).set hg v3

theorem quotient_q {w : World} {neg : Bool} {x y : Value} {a b : Nat} {q : Rq} (hx : NV w x a) (hy : NV w y b) (hq : ratio neg a b = q) :
    Calls Tryz.prog 67 #[.agg #[.bool neg, x], y] w fun e w' => ∃ r, e = .returned r ∧ RO w.heap.size w' r q ∧ Ext w w' := by
  subst hq
  exact quotient_calls hx hy

theorem size_of {w : World} {n : Int} (h1 : -9223372036854775808 ≤ n) (h2 : n ≤ 9223372036854775807) :
    Calls Tryz.prog 66 #[.int .i64 n] w fun e w' => ∃ r, e = .returned (.tuple #[.bool (decide (n < 0)), r]) ∧ OV w.heap.size w' r (dig n.natAbs) ∧ Ext w w' := by
  obtain ⟨a, ha⟩ : ∃ a, n.natAbs = a := ⟨_, rfl⟩
  have HA : Aside (a < 18446744073709551616) := ⟨by omega⟩
  rw [ha]
  rcases Int.lt_or_le n 0 with hn | hn
  · have hd : decide (n < 0) = true := by simp [hn]
    have hw : IntKind.u64.wrap (-IntKind.u64.wrap n) = (a : Int) := by rw [wrap_u64, wrap_u64]; omega
    have hw2 : IntKind.u64.wrap (0 - IntKind.u64.wrap n) = (a : Int) := by rw [wrap_u64, wrap_u64]; omega
    rw [hd]
    clear h1 h2 hd ha
    go_enter Tryz.func66, Tryz.ntmps66
    go_wp2_with (go_at_call 121; refine (of_calls HA.out).mono ?_; rintro e w1 ⟨r, rfl, hr, he⟩; have HR := Aside.mk hr; have HE := Aside.mk he; clear hr he)
    go_ret2
    exact ⟨r, rfl, HR.out, HE.out⟩
  · have hd : decide (n < 0) = false := by simp [hn]
    have hw : IntKind.u64.wrap n = (a : Int) := by rw [wrap_u64]; omega
    rw [hd]
    clear h1 h2 hd ha
    go_enter Tryz.func66, Tryz.ntmps66
    go_wp2_with (go_at_call 121; refine (of_calls HA.out).mono ?_; rintro e w1 ⟨r, rfl, hr, he⟩; have HR := Aside.mk hr; have HE := Aside.mk he; clear hr he)
    go_ret2
    exact ⟨r, rfl, HR.out, HE.out⟩

theorem nv64 {a : Nat} (h : a < 18446744073709551616) : (dig a).length ≤ 512 := Nat.le_trans (dig_length_le (k := 2) (by omega)) (by omega)

set_option maxHeartbeats 400000 in
theorem Of_calls {w : World} {n d : Int} (h1 : -9223372036854775808 ≤ n) (h2 : n ≤ 9223372036854775807) (h3 : -9223372036854775808 ≤ d) (h4 : d ≤ 9223372036854775807) :
    Calls Tryz.prog 16 #[.int .i64 n, .int .i64 d] w fun e w' => ∃ r, e = .returned (.tuple #[r, .int .i64 0]) ∧ RO w.heap.size w' r (ratio (decide (n < 0) != decide (d < 0)) n.natAbs d.natAbs) ∧ Ext w w' := by
  have HN : Aside ((dig n.natAbs).length ≤ 512) := ⟨nv64 (by omega)⟩
  have HD : Aside ((dig d.natAbs).length ≤ 512) := ⟨nv64 (by omega)⟩
  have H1 := Aside.mk h1
  have H2 := Aside.mk h2
  have H3 := Aside.mk h3
  have H4 := Aside.mk h4
  clear h1 h2 h3 h4
  have hk0 := Keep4.init (Ext.refl w) (.int .i64 0) (.bool false) (.slice none 0 0) (.slice none 0 0) 26
  generalize hbn : decide (n < 0) = bn
  generalize hbd : decide (d < 0) = bd
  obtain ⟨q, hq⟩ : ∃ q, ratio (!bn == bd) n.natAbs d.natAbs = q := ⟨_, rfl⟩
  have HQ := Aside.mk hq
  rw [show (bn != bd) = (!bn == bd) from by cases bn <;> cases bd <;> rfl, hq]
  clear hq
  have HBN := Aside.mk hbn
  have HBD := Aside.mk hbd
  clear hbn hbd
  go_enter Tryz.func16, Tryz.ntmps16
  go_wp2_with (first | (go_at_call 66; with_reducible refine (size_of H1.out H2.out).mono ?_; rw [HBN.out]; rintro e w1 ⟨r, rfl, hr, he⟩; have hk1 := Keep4.ext he hk0; have HZ1 := Aside.mk (World.block_lt_of_cell? _ _ hk1.2.1.1); have HR := Aside.mk hr; obtain ⟨A1, c1, rfl, _⟩ := hr.form; clear hk0 hr he) | (go_at_call 66; with_reducible refine (size_of H3.out H4.out).mono ?_; rw [HBD.out]; rintro e w2 ⟨r, rfl, hr, he⟩; have hk2 := Keep4.ext he hk1; have HE2 := Aside.mk he; have HR2 := Aside.mk hr; obtain ⟨A2, c2, rfl, _⟩ := hr.form; clear hk1 hr he) | (go_at_call 67; with_reducible refine (quotient_q (NV.of (HR.out.ext HE2.out).rv HN.out) (NV.of HR2.out.rv HD.out) HQ.out).mono ?_; rintro e w3 ⟨r, rfl, hr, he⟩; have hk3 := Keep4.ext he hk2; have HE3 := Aside.mk he; have HR3 := Aside.mk hr; obtain ⟨A3, c3, A4, c4, rfl⟩ := hr.form; clear hk2 hr he))
  have HK := Aside.mk hk3
  refine bodyPost_ret (v := .tuple #[.agg #[.int .i64 q.f, .bool q.neg, .slice A3 q.num.length c3, .slice A4 q.den.length c4], .int .i64 0]) (by simp [results, Tryz.results16, go_sem, hk3]) rfl ⟨_, rfl, ?_, ?_⟩
  · exact (HR3.out.set4 (by have := HE2.out.size; have := HZ1.out; omega) _ _ _ _).mono (by have := HE2.out.size; have := HZ1.out; omega)
  · exact ext_set4 HK.out.1.out (Nat.le_refl _) _ _ _ _

/-- Make returns a quotient. -/
theorem Make_calls {w : World} {neg : Bool} {x y : Value} {xs ys : List Nat} (hx : RV w x xs) (hy : RV w y ys) :
    Calls Tryz.prog 20 #[.bool neg, x, y] w fun e w' => (if natErr xs = 0 ∧ natErr ys = 0 then ∃ r, e = .returned (.tuple #[r, .int .i64 0]) ∧ RO w.heap.size w' r (ratio neg (val xs) (val ys))
      else e = .returned (.tuple #[.agg #[.int .i64 0, .bool false, .slice none 0 0, .slice none 0 0], .int .i64 5])) ∧ Ext w w' := by
  have HX := Aside.mk hx
  have HY := Aside.mk hy
  have HXD := Aside.mk hx.dg.2
  have HYD := Aside.mk hy.dg.2
  obtain ⟨A, c, rfl, _, _⟩ := hx
  obtain ⟨B, d, rfl, _, _⟩ := hy
  have hk0 := Keep4.init (Ext.refl w) (.int .i64 0) (.bool false) (.slice none 0 0) (.slice none 0 0) 26
  have hz0 : w.heap.size < (w.alloc (.cells #[.int .i64 0, .bool false, .slice none 0 0, .slice none 0 0] 26)).heap.size := by simp
  have HZ0 := Aside.mk hz0
  clear hz0
  by_cases h1 : natErr xs = 0
  · have HE1 : Aside (decide (natErr xs = 0) = true) := ⟨by simp [h1]⟩
    obtain ⟨hl1, hv1⟩ := natErr_zero HXD.out h1
    have HN1 : Aside (NV w (.slice A xs.length c) (val xs)) := ⟨by have h := HX.out; rw [hv1] at h; rw [hv1]; rw [val_dig]; exact ⟨by simpa [val_dig] using h, by rw [← hv1]; exact hl1⟩⟩
    by_cases h2 : natErr ys = 0
    · have HE2 : Aside (decide (natErr ys = 0) = true) := ⟨by simp [h2]⟩
      obtain ⟨hl2, hv2⟩ := natErr_zero HYD.out h2
      have HN2 : Aside (NV w (.slice B ys.length d) (val ys)) := ⟨by have h := HY.out; rw [hv2] at h; rw [hv2]; rw [val_dig]; exact ⟨by simpa [val_dig] using h, by rw [← hv2]; exact hl2⟩⟩
      have hif : (natErr xs = 0 ∧ natErr ys = 0) = True := by simp [h1, h2]
      simp only [hif, if_true]
      clear hif
      obtain ⟨q, hq⟩ : ∃ q, ratio neg (val xs) (val ys) = q := ⟨_, rfl⟩
      have HQ := Aside.mk hq
      rw [hq]
      clear hq h1 h2 hl1 hl2 hv1 hv2
      go_enter Tryz.func20, Tryz.ntmps20
      go_wp2_with (first | (go_at_call 70; with_reducible refine (isnat_calls (HX.out.ext hk0.1.out)).mono ?_; rw [HE1.out]; rintro e w1 ⟨rfl, he⟩; have hk1 := Keep4.ext he hk0; have HF1 := Aside.mk he; clear hk0 he) | (go_at_call 70; with_reducible refine (isnat_calls (HY.out.ext hk1.1.out)).mono ?_; rw [HE2.out]; rintro e w2 ⟨rfl, he⟩; have hk2 := Keep4.ext he hk1; have HF2 := Aside.mk he; clear hk1 he) | (go_at_call 67; with_reducible refine (quotient_q (HN1.out.ext hk2.1.out) (HN2.out.ext hk2.1.out) HQ.out).mono ?_; rintro e w3 ⟨r, rfl, hr, he⟩; have hk3 := Keep4.ext he hk2; have HR3 := Aside.mk hr; obtain ⟨A3, c3, A4, c4, rfl⟩ := hr.form; clear hk2 hr he))
      have HK := Aside.mk hk3
      have hs : w.heap.size + 1 ≤ _ := Nat.le_trans (Nat.le_of_lt_succ (Nat.lt_succ_of_le HZ0.out)) (Nat.le_trans HF1.out.size HF2.out.size)
      refine bodyPost_ret (v := .tuple #[.agg #[.int .i64 q.f, .bool q.neg, .slice A3 q.num.length c3, .slice A4 q.den.length c4], .int .i64 0]) (by simp [results, Tryz.results20, go_sem, hk3]) rfl ⟨⟨_, rfl, ?_⟩, ?_⟩
      · exact (HR3.out.set4 hs _ _ _ _).mono (Nat.le_of_succ_le hs)
      · exact ext_set4 HK.out.1.out (Nat.le_refl _) _ _ _ _
    · have HE2 : Aside (decide (natErr ys = 0) = false) := ⟨by simp [h2]⟩
      have hif : (natErr xs = 0 ∧ natErr ys = 0) = False := by simp [h2]
      simp only [hif, if_false]
      clear hif
      clear h1 h2 hl1 hv1
      go_enter Tryz.func20, Tryz.ntmps20
      go_wp2_with (first | (go_at_call 70; with_reducible refine (isnat_calls (HX.out.ext hk0.1.out)).mono ?_; rw [HE1.out]; rintro e w1 ⟨rfl, he⟩; have hk1 := Keep4.ext he hk0; have HF1 := Aside.mk he; clear hk0 he) | (go_at_call 70; with_reducible refine (isnat_calls (HY.out.ext hk1.1.out)).mono ?_; rw [HE2.out]; rintro e w2 ⟨rfl, he⟩; have hk2 := Keep4.ext he hk1; have HF2 := Aside.mk he; clear hk1 he))
      have HK := Aside.mk hk2
      refine bodyPost_ret (v := .tuple #[.agg #[.int .i64 0, .bool false, .slice none 0 0, .slice none 0 0], .int .i64 5]) (by simp [results, Tryz.results20, go_sem, hk2]) rfl ⟨rfl, ?_⟩
      exact ext_set4 HK.out.1.out (Nat.le_refl _) _ _ _ _
  · have HE1 : Aside (decide (natErr xs = 0) = false) := ⟨by simp [h1]⟩
    have hif : (natErr xs = 0 ∧ natErr ys = 0) = False := by simp [h1]
    simp only [hif, if_false]
    clear hif
    clear h1
    go_enter Tryz.func20, Tryz.ntmps20
    go_wp2_with (go_at_call 70; with_reducible refine (isnat_calls (HX.out.ext hk0.1.out)).mono ?_; rw [HE1.out]; rintro e w1 ⟨rfl, he⟩; have hk1 := Keep4.ext he hk0; have HF1 := Aside.mk he; clear hk0 he)
    have HK := Aside.mk hk1
    refine bodyPost_ret (v := .tuple #[.agg #[.int .i64 0, .bool false, .slice none 0 0, .slice none 0 0], .int .i64 5]) (by simp [results, Tryz.results20, go_sem, hk1]) rfl ⟨rfl, ?_⟩
    exact ext_set4 HK.out.1.out (Nat.le_refl _) _ _ _ _
end Go.Proofs.YtgfkachfbnbikaaGreatDoor
