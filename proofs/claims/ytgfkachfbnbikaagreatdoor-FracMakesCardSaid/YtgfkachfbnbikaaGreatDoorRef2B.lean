/- Contracts of package fluxionref02: Bound, Ratio, size, Of. -/
import Derived.Test.YtgfkachfbnbikaaGreatDoorRef2A
import Derived.Test.YtgfkachfbnbikaaGreatDoorFracF
namespace Go.Proofs.YtgfkachfbnbikaaGreatDoor
open Go.RowKit

abbrev KeepBR (w : World) (x0 x1 x2 x3 : Value) (w' : World) : Prop :=
  Aside (Ext w w') ∧ (w'.cell? ⟨w.heap.size, 0, none⟩ = some x0 ∧ w'.cell? ⟨w.heap.size, 1, none⟩ = some x1 ∧ w'.cell? ⟨w.heap.size, 2, none⟩ = some x2 ∧ w'.cell? ⟨w.heap.size, 3, none⟩ = some x3) ∧
    (Fits w' ⟨w.heap.size + 1, 0, none⟩ ∧ Fits w' ⟨w.heap.size + 1, 1, none⟩ ∧ Fits w' ⟨w.heap.size + 1, 2, none⟩ ∧ Fits w' ⟨w.heap.size + 1, 3, none⟩)
theorem KeepBR.ext {w w1 w2 : World} {x0 x1 x2 x3 : Value} (e : Ext w1 w2) (h : KeepBR w x0 x1 x2 x3 w1) : KeepBR w x0 x1 x2 x3 w2 :=
  ⟨⟨h.1.out.trans e⟩, ⟨e.cell h.2.1.1, e.cell h.2.1.2.1, e.cell h.2.1.2.2.1, e.cell h.2.1.2.2.2⟩, ⟨h.2.2.1.ext e, h.2.2.2.1.ext e, h.2.2.2.2.1.ext e, h.2.2.2.2.2.ext e⟩⟩
theorem KeepBR.init (w : World) (x0 x1 x2 x3 z0 z1 z2 z3 : Value) (t t' : TypeId) : KeepBR w x0 x1 x2 x3 ((w.alloc (.cells #[x0, x1, x2, x3] t)).alloc (.cells #[z0, z1, z2, z3] t')) :=
  ⟨⟨((Ext.refl w).alloc _).alloc _⟩, ⟨cell_old (cell_new rfl rfl), cell_old (cell_new rfl rfl), cell_old (cell_new rfl rfl), cell_old (cell_new rfl rfl)⟩,
    ⟨fits_new (v := z0) (by simp) rfl, fits_new (v := z1) (by simp) rfl, fits_new (v := z2) (by simp) rfl, fits_new (v := z3) (by simp) rfl⟩⟩
theorem KeepBR.set {w w1 : World} {x0 x1 x2 x3 : Value} (h : KeepBR w x0 x1 x2 x3 w1) (j : Nat) (v : Value) : KeepBR w x0 x1 x2 x3 (w1.setCell ⟨w.heap.size + 1, j, none⟩ v) :=
  ⟨⟨h.1.out.set (by show w.heap.size ≤ w.heap.size + 1; omega) v⟩, ⟨cell_other h.2.1.1 (by omega), cell_other h.2.1.2.1 (by omega), cell_other h.2.1.2.2.1 (by omega), cell_other h.2.1.2.2.2 (by omega)⟩,
    ⟨h.2.2.1.set _ _, h.2.2.2.1.set _ _, h.2.2.2.2.1.set _ _, h.2.2.2.2.2.set _ _⟩⟩


set_option maxRecDepth 10000 in
set_option maxHeartbeats 1000000 in
theorem rbound_calls {w : World} {neg : Bool} {x y : Value} {a b : Nat} {base : Nat} {q : Rq} (hx : OV base w x (dig a)) (hy : OV base w y (dig b)) (hb : base ≤ w.heap.size) (hq : (if isLong a || isLong b then fq 4 else ⟨0, neg, dig a, dig b⟩) = q) :
    Calls Tryz.prog 72 #[.agg #[.int .i64 0, .bool neg, x, y]] w fun e w' => ∃ r, e = .returned r ∧ RO base w' r q ∧ Ext w w' := by
  have HX := Aside.mk hx
  have HY := Aside.mk hy
  have HBS := Aside.mk hb
  obtain ⟨A, c, rfl, _⟩ := hx.form
  obtain ⟨B, d, rfl, _⟩ := hy.form
  obtain ⟨la, hla⟩ : ∃ l, isLong a = l := ⟨_, rfl⟩
  obtain ⟨lb, hlb⟩ : ∃ l, isLong b = l := ⟨_, rfl⟩
  rw [hla, hlb] at hq
  have HLA := Aside.mk hla
  have HLB := Aside.mk hlb
  obtain ⟨na, hna⟩ : ∃ l, (dig a).length = l := ⟨_, rfl⟩
  obtain ⟨nb, hnb⟩ : ∃ l, (dig b).length = l := ⟨_, rfl⟩
  rw [hna] at HX ⊢
  rw [hnb] at HY ⊢
  have hk0 := KeepBR.init w (.int .i64 0) (.bool neg) (.slice A na c) (.slice B nb d) (.int .i64 0) (.bool false) (.slice none 0 0) (.slice none 0 0) 26 26
  clear hx hy hb hla hlb hna hnb
  cases la
  · cases lb
    · have HQ : Aside (q = ⟨0, neg, dig a, dig b⟩) := ⟨hq.symm⟩
      rw [HQ.out]
      clear hq
      go_enter Tryz.func72, Tryz.ntmps72
      go_wp2_with (first | (go_at_call 123; with_reducible refine (rlong_calls (HX.out.rv.ext hk0.1.out) HLA.out).mono ?_; rintro e w' ⟨rfl, rfl⟩) | (go_at_call 123; with_reducible refine (rlong_calls (HY.out.rv.ext hk0.1.out) HLB.out).mono ?_; rintro e w' ⟨rfl, rfl⟩))
      refine bodyPost_ret (v := .agg #[.int .i64 0, .bool neg, .slice A na c, .slice B nb d]) (by simp [results, Tryz.results72, go_sem]) rfl ⟨_, rfl, ⟨_, _, rfl, ?_, ?_⟩, ?_⟩
      · exact HX.out.ext (((Ext.refl w).alloc _).alloc _)
      · exact HY.out.ext (((Ext.refl w).alloc _).alloc _)
      · exact ((Ext.refl w).alloc _).alloc _
    · have HQ : Aside (q = fq 4) := ⟨hq.symm⟩
      rw [HQ.out]
      clear hq
      go_enter Tryz.func72, Tryz.ntmps72
      go_wp2_with (first | (go_at_call 123; with_reducible refine (rlong_calls (HX.out.rv.ext hk0.1.out) HLA.out).mono ?_; rintro e w' ⟨rfl, rfl⟩) | (go_at_call 123; with_reducible refine (rlong_calls (HY.out.rv.ext hk0.1.out) HLB.out).mono ?_; rintro e w' ⟨rfl, rfl⟩) | (go_at_call 64; with_reducible refine rfault_calls.mono ?_; rintro e w1 ⟨rfl, he⟩; have hk1 := KeepBR.ext he hk0; clear hk0 he))
      have HK := Aside.mk hk1
      refine bodyPost_ret (v := .agg #[.int .i64 4, .bool false, .slice none 0 0, .slice none 0 0]) (by simp [results, Tryz.results72, go_sem, hk1]) rfl ⟨_, rfl, RO.fq _ _ _, ext_set4 HK.out.1.out (by omega) _ _ _ _⟩
  · have HQ : Aside (q = fq 4) := ⟨hq.symm⟩
    rw [HQ.out]
    clear hq
    go_enter Tryz.func72, Tryz.ntmps72
    go_wp2_with (first | (go_at_call 123; with_reducible refine (rlong_calls (HX.out.rv.ext hk0.1.out) HLA.out).mono ?_; rintro e w' ⟨rfl, rfl⟩) | (go_at_call 64; with_reducible refine rfault_calls.mono ?_; rintro e w1 ⟨rfl, he⟩; have hk1 := KeepBR.ext he hk0; clear hk0 he))
    have HK := Aside.mk hk1
    refine bodyPost_ret (v := .agg #[.int .i64 4, .bool false, .slice none 0 0, .slice none 0 0]) (by simp [results, Tryz.results72, go_sem, hk1]) rfl ⟨_, rfl, RO.fq _ _ _, ext_set4 HK.out.1.out (by omega) _ _ _ _⟩

theorem RO.parts {b : Nat} {w : World} {v : Value} {f : Int} {neg : Bool} {xs ys : List Nat} (h : RO b w v ⟨f, neg, xs, ys⟩) : ∃ x y, v = .agg #[.int .i64 f, .bool neg, x, y] ∧ OV b w x xs ∧ OV b w y ys := h
theorem exact_ratio {neg : Bool} {a b : Nat} (hb : 0 < b) : ∃ n' a' b', exactq neg a b = ⟨0, n', dig a', dig b'⟩ ∧ (if isLong a' || isLong b' then fq 4 else ⟨0, n', dig a', dig b'⟩) = ratio neg a b := by
  unfold exactq ratio
  rw [if_neg (show ¬ b = 0 by omega)]
  rcases Nat.eq_zero_or_pos a with rfl | ha
  · refine ⟨false, 0, 1, by rw [if_pos rfl, dig_zero], ?_⟩
    rw [Nat.gcd_zero_left, Nat.zero_div, Nat.div_self hb]
    simp
  · refine ⟨neg, _, _, by rw [if_neg (show ¬ a = 0 by omega)], ?_⟩
    rw [decide_eq_true ha, Bool.and_true]
set_option maxRecDepth 10000 in
set_option maxHeartbeats 1000000 in
theorem rratio_calls {w : World} {neg : Bool} {u v : Value} {a b : Nat} {q : Rq} (hu : RV w u (dig a)) (hv : RV w v (dig b)) (hla : (dig a).length < 1073741824) (hlb : (dig b).length < 1073741824) (hq : ratio neg a b = q) :
    Calls Tryz.prog 24 #[.bool neg, u, v] w fun e w' => ∃ r, e = .returned r ∧ RO w.heap.size w' r q ∧ Ext w w' := by
  have HU := Aside.mk hu
  have HV := Aside.mk hv
  have HLA := Aside.mk hla
  have HLB := Aside.mk hlb
  have hk0 := Keep4.init (Ext.refl w) (.int .i64 0) (.bool false) (.slice none 0 0) (.slice none 0 0) 26
  obtain ⟨A, c, rfl, _⟩ := hu
  rcases Nat.eq_zero_or_pos b with rfl | hb
  · obtain ⟨B, d, rfl, _⟩ := hv
    have h0 : (dig 0).length = 0 := by rw [dig_zero]; rfl
    have HQ : Aside (q = fq 11) := ⟨by rw [← hq]; rfl⟩
    rw [h0, HQ.out]
    clear h0 hla hlb hq
    go_enter Tryz.func24, Tryz.ntmps24
    go_wp2_with (go_at_call 64; with_reducible refine rfault_calls.mono ?_; rintro e w1 ⟨rfl, he⟩; have hk1 := Keep4.ext he hk0; clear hk0 he)
    have HK := Aside.mk hk1
    refine bodyPost_ret (v := .agg #[.int .i64 11, .bool false, .slice none 0 0, .slice none 0 0]) (by simp [results, Tryz.results24, go_sem, hk1]) rfl ⟨_, rfl, RO.fq _ _ _, ext_set4 HK.out.1.out (Nat.le_refl _) _ _ _ _⟩
  · obtain ⟨av, nv, cv, _, rfl, _, _, hcv, hnv⟩ := hv.first2 hb
    have hne : ((nv : Int) + 1 == 0) = false := beq_eq_false_iff_ne.2 (by omega)
    obtain ⟨n', a', b', he, hr⟩ := @exact_ratio neg a b hb
    rw [hq] at hr
    have HE := Aside.mk he
    have HQ := Aside.mk hr
    have HB0 := Aside.mk hb
    clear hla hlb hq hb he hr hnv
    go_enter Tryz.func24, Tryz.ntmps24
    go_wp2_with (first | (go_at_call 73; with_reducible refine (rexact_calls (HU.out.ext hk0.1.out) (HV.out.ext hk0.1.out) HLA.out HLB.out HB0.out).mono ?_; rw [HE.out]; rintro e w1 ⟨r, rfl, hr, he⟩; have hk1 := Keep4.ext he hk0; have hz := World.block_lt_of_cell? _ _ hk0.2.1.1; obtain ⟨x1, y1, rfl, hx, hy⟩ := hr.parts; have HX := Aside.mk (hx.mono (Nat.succ_le_of_lt hz)); have HY := Aside.mk (hy.mono (Nat.succ_le_of_lt hz)); have HZ := Aside.mk (Nat.le_trans (Nat.succ_le_of_lt hz) he.size); clear hk0 hr he hx hy hz) | (go_at_call 72; with_reducible refine (rbound_calls HX.out HY.out HZ.out HQ.out).mono ?_; rintro e w2 ⟨r, rfl, hr, he⟩; have hk2 := Keep4.ext he hk1; have HR := Aside.mk hr; obtain ⟨A2, c2, B2, d2, rfl⟩ := hr.form; clear hk1 hr he))
    have HK := Aside.mk hk2
    refine bodyPost_ret (v := .agg #[.int .i64 q.f, .bool q.neg, .slice A2 q.num.length c2, .slice B2 q.den.length d2]) (by simp [results, Tryz.results24, go_sem, hk2]) rfl ⟨_, rfl, (HR.out.set4 (Nat.lt_succ_self _) _ _ _ _).mono (Nat.le_succ _), ext_set4 HK.out.1.out (Nat.le_refl _) _ _ _ _⟩

theorem rsize_calls {w : World} {n : Int} {a : Nat} (h1 : -9223372036854775808 ≤ n) (h2 : n ≤ 9223372036854775807) (ha : n.natAbs = a) :
    Calls Tryz.prog 69 #[.int .i64 n] w fun e w' => e = .returned (.int .u64 (a : Int)) ∧ w = w' := by
  rcases Int.lt_or_le n 0 with hn | hn
  · have e1 : IntKind.u64.wrap (0 - IntKind.u64.wrap n) = (a : Int) := by simp only [wrap_u64]; omega
    have e1' : IntKind.u64.wrap (-IntKind.u64.wrap n) = (a : Int) := by simp only [wrap_u64]; omega
    clear h1 h2 ha
    go_enter Tryz.func69, Tryz.ntmps69
    go_wp2
    go_ret
    exact ⟨rfl, rfl⟩
  · have e1 : IntKind.u64.wrap n = (a : Int) := by simp only [wrap_u64]; omega
    clear h1 h2 ha
    go_enter Tryz.func69, Tryz.ntmps69
    go_wp2
    go_ret
    exact ⟨rfl, rfl⟩
end Go.Proofs.YtgfkachfbnbikaaGreatDoor
