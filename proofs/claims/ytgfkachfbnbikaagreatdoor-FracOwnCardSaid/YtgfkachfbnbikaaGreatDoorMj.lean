/- Contracts of package fluxionref02: Fault, one, Long, Exact, Bound, Ratio, size, Of. Contracts of package fluxionref02: Bound, Ratio, size, Of. Contracts: fluxionref02.Of, digits, Equal; fluxionlaw02.gives, zero, cut. -/
import Derived.Test.YtgfkachfbnbikaaGreatDoorMg
import Derived.Test.YtgfkachfbnbikaaGreatDoorMh
import Derived.Test.YtgfkachfbnbikaaGreatDoorMi
namespace Go.Proofs.YtgfkachfbnbikaaGreatDoor
open Go.RowKit

theorem rfault_calls {w : World} {f : Int} :
    Calls Tryz.prog 64 #[.int .i64 f] w fun e w' => e = .returned (.agg #[.int .i64 f, .bool false, .slice none 0 0, .slice none 0 0]) ∧ Ext w w' := by
  go_enter Tryz.func64, Tryz.ntmps64
  go_wp2
  refine bodyPost_ret (v := .agg #[.int .i64 f, .bool false, .slice none 0 0, .slice none 0 0]) (by simp [results, Tryz.results64, go_sem]) rfl ?_
  exact ⟨rfl, (Ext.refl w).alloc _⟩
theorem dig_one : dig 1 = [1] := by rw [dig_pos (by decide), show (1 : Nat) / 4294967296 = 0 from rfl, dig_zero]
theorem rone_calls {w : World} :
    Calls Tryz.prog 90 #[] w fun e w' => ∃ r, e = .returned r ∧ OV w.heap.size w' r (dig 1) ∧ Ext w w' := by
  have hol := OV.lit w [1] (by simp) (Ds.cons (by decide) Ds.nil)
  simp only [u32s, List.map_cons, List.map_nil, List.length_cons, List.length_nil] at hol
  have HO := Aside.mk hol
  clear hol
  go_enter Tryz.func90, Tryz.ntmps90
  go_wp2
  go_ret
  exact ⟨_, rfl, by rw [dig_one]; exact HO.out, (Ext.refl w).alloc _⟩
theorem rlong_calls {w : World} {u : Value} {a : Nat} {d : Bool} (h : RV w u (dig a)) (hd : isLong a = d) :
    Calls Tryz.prog 123 #[u] w fun e w' => e = .returned (.bool d) ∧ w = w' := by
  obtain ⟨m, hm⟩ : ∃ m, blen a = m := ⟨_, rfl⟩
  have hb : decide ((4096 : Int) < (m : Int)) = d := by
    rw [← hd, ← hm]; unfold isLong
    by_cases hh : 4096 < blen a
    · rw [decide_eq_true hh, decide_eq_true (by omega)]
    · rw [decide_eq_false hh, decide_eq_false (by omega)]
  have H := Aside.mk h
  have HM := Aside.mk hm
  have HB := Aside.mk hb
  clear h hm hd hb
  go_enter Tryz.func123, Tryz.ntmps123
  go_wp2_with (go_at_call 154; with_reducible refine (rbits_calls H.out HM.out).mono ?_; rintro e w' ⟨rfl, rfl⟩)
  go_ret
  exact ⟨by rw [← HB.out]; rfl, rfl⟩

/-- The number num / den, long or not. -/
def exactq (neg : Bool) (a b : Nat) : Rq := if a = 0 then ⟨0, false, [], dig 1⟩ else ⟨0, neg, dig (a / Nat.gcd a b), dig (b / Nat.gcd a b)⟩
theorem RV.first2 {w : World} {v : Value} {X : Nat} (h : RV w v (dig X)) (h0 : 0 < X) : ∃ ad n c x, v = .slice (some ad) (n + 1) c ∧ w.cell? ad = some (.int .u32 ((x : Nat) : Int)) ∧ x = X % 4294967296 ∧ n + 1 ≤ c ∧ (dig X).length = n + 1 := by
  obtain ⟨A, c, rfl, hc, hd, hr⟩ := h
  have hl := dig_length_pos h0
  obtain ⟨ad, rfl, hcell⟩ := hr.at32 0 hl
  have e : ad.add 0 = ad := by simp [Addr.add]
  rw [e, getD_dig, Nat.pow_zero, Nat.div_one] at hcell
  exact ⟨ad, (dig X).length - 1, c, _, by congr 1; omega, hcell, rfl, by omega, by omega⟩

set_option maxRecDepth 10000 in
set_option maxHeartbeats 2000000 in
theorem rexact_calls {w : World} {neg : Bool} {u v : Value} {a b : Nat} (hu : RV w u (dig a)) (hv : RV w v (dig b)) (hla : (dig a).length < 1073741824) (hlb : (dig b).length < 1073741824) (hb : 0 < b) :
    Calls Tryz.prog 73 #[.bool neg, u, v] w fun e w' => ∃ r, e = .returned r ∧ RO w.heap.size w' r (exactq neg a b) ∧ Ext w w' := by
  have HU := Aside.mk hu
  have HV := Aside.mk hv
  have hk0 := Keep4.init (Ext.refl w) (.int .i64 0) (.bool false) (.slice none 0 0) (.slice none 0 0) 26
  rcases Nat.eq_zero_or_pos a with rfl | ha
  · obtain ⟨A, c, rfl, _⟩ := hu
    obtain ⟨B, d, rfl, _⟩ := hv
    have h0 : (dig 0).length = 0 := by rw [dig_zero]; rfl
    have HQ : Aside (exactq neg 0 b = ⟨0, false, [], dig 1⟩) := ⟨by simp [exactq]⟩
    rw [h0, HQ.out]
    clear h0 hla hlb hb
    go_enter Tryz.func73, Tryz.ntmps73
    go_wp2_with (go_at_call 90; with_reducible refine rone_calls.mono ?_; rintro e w1 ⟨r, rfl, hr, he⟩; have hk1 := Keep4.ext he hk0; have HS := Aside.mk (World.block_lt_of_cell? _ _ hk0.2.1.1); have HR := Aside.mk hr; obtain ⟨A1, c1, rfl, _⟩ := hr.form; clear hk0 hr he)
    have HK := Aside.mk hk1
    refine bodyPost_ret (v := .agg #[.int .i64 0, .bool false, .slice none 0 0, .slice A1 (dig 1).length c1]) (by simp [results, Tryz.results73, go_sem, hk1]) rfl ⟨_, rfl, ⟨_, _, rfl, OV.nil _ _, ?_⟩, ext_set4 HK.out.1.out (Nat.le_refl _) _ _ _ _⟩
    exact (HR.out.set4 HS.out _ _ _ _).mono (Nat.le_of_lt HS.out)
  · obtain ⟨au, nu, cu, _, rfl, _, _, hcu, hnu⟩ := hu.first2 ha
    obtain ⟨av, nv, cv, _, rfl, _, _, hcv, hnv⟩ := hv.first2 hb
    have hne : ((nu : Int) + 1 == 0) = false := beq_eq_false_iff_ne.2 (by omega)
    obtain ⟨g, hg⟩ : ∃ g, Nat.gcd a b = g := ⟨_, rfl⟩
    have hgp : 0 < g := by rw [← hg]; exact Nat.gcd_pos_of_pos_left _ ha
    have HG := Aside.mk hg
    have HGP := Aside.mk hgp
    have HQ : Aside (exactq neg a b = ⟨0, neg, dig (a / g), dig (b / g)⟩) := ⟨by unfold exactq; rw [if_neg (by omega), hg]⟩
    have HLB := Aside.mk hlb
    have HLG : Aside ((dig g).length < 1073741824) := ⟨Nat.lt_of_le_of_lt (dig_len_mono (by rw [← hg]; exact Nat.le_of_dvd hb (Nat.gcd_dvd_right _ _))) hlb⟩
    rw [HQ.out]
    clear hla hlb hb ha hg hgp hnu hnv
    rcases Nat.lt_or_ge g 4294967296 with hgB | hgB
    · have hdl : (dig g).length = 1 := by rw [dig_pos (by have := HGP.out; omega), Nat.div_eq_of_lt hgB, dig_zero]; rfl
      have HN0 : Aside (∀ n, (dig g).length = n + 1 → n = 0) := ⟨fun n h => by omega⟩
      rcases Nat.lt_or_ge 1 g with hg1 | hg1
      · have HX1 : Aside (∀ x, x = g % 4294967296 → (1 : Int) < (x : Int)) := ⟨fun x h => by rw [Nat.mod_eq_of_lt hgB] at h; omega⟩
        clear hdl hgB hg1
        go_enter Tryz.func73, Tryz.ntmps73
        go_wp2_with (first | ((go_at_call 76; with_reducible refine (rgcd_calls (HU.out.ext hk0.1.out) (HV.out.ext hk0.1.out) HLB.out HG.out).mono ?_; rintro e w1 ⟨r, rfl, hr, he⟩; have hk1 := Keep4.ext he hk0; have HR1 := Aside.mk hr.rv; obtain ⟨ad, n, c1, x, rfl, hcell, hx, hcn, hdl⟩ := hr.rv.first2 HGP.out; have HX := Aside.mk hx; have HDL := Aside.mk hdl; have HK1E := hk1.1; clear hk0 hr he hx hdl); obtain rfl : n = 0 := HN0.out n HDL.out; have hx1 : (1 : Int) < (x : Int) := HX1.out x HX.out) | (go_at_call 112; with_reducible refine (rdiv_calls (HU.out.ext hk1.1.out) HR1.out HGP.out HLG.out).mono ?_; rintro e w2 ⟨q2, r2, rfl, hq, hr, he⟩; have hk2 := Keep4.ext he hk1; have HQ2 := Aside.mk hq.rv; have HE2 := Aside.mk he; clear hk1 hq hr he) | (go_at_call 112; with_reducible refine (rdiv_calls (HV.out.ext hk2.1.out) (HR1.out.ext HE2.out) HGP.out HLG.out).mono ?_; rintro e w3 ⟨q3, r3, rfl, hq, hr, he⟩; have hk3 := Keep4.ext he hk2; have HQ3 := Aside.mk hq.rv; have HQ2' := Aside.mk (HQ2.out.ext he); clear hk2 hq hr he) | (at_builtin; (refine copy_rv rfl _ _ rfl _ _ (HQ2'.out) rfl rfl ?_; intro v6 w6 h6 e6; have hk6 := Keep4.ext e6 hk3; have HV6 := Aside.mk h6; have HS6 := Aside.mk (World.block_lt_of_cell? _ _ hk3.2.1.1); have HE6 := Aside.mk e6; obtain ⟨A6, c6, rfl, _⟩ := h6.form; clear hk3 h6 e6)) | (at_builtin; (refine copy_rv rfl _ _ rfl _ _ (RV.ext (HQ3.out) HE6.out) rfl rfl ?_; intro v7 w7 h7 e7; have hk7 := Keep4.ext e7 hk6; have HV7 := Aside.mk h7; have HS7 := Aside.mk (World.block_lt_of_cell? _ _ hk6.2.1.1); have HE7 := Aside.mk e7; obtain ⟨A7, c7, rfl, _⟩ := h7.form; clear hk6 h7 e7)))
        have HK := Aside.mk hk7
        refine bodyPost_ret (v := .agg #[.int .i64 0, .bool neg, .slice A6 (dig (a / g)).length c6, .slice A7 (dig (b / g)).length c7]) (by simp [results, Tryz.results73, go_sem, hk7]) rfl ⟨_, rfl, ⟨_, _, rfl, ?_, ?_⟩, ext_set4 HK.out.1.out (Nat.le_refl _) _ _ _ _⟩
        · exact ((HV6.out.ext HE7.out).set4 HS6.out _ _ _ _).mono (Nat.le_of_lt HS6.out)
        · exact (HV7.out.set4 HS7.out _ _ _ _).mono (Nat.le_of_lt HS7.out)
      · obtain rfl : g = 1 := by have := HGP.out; omega
        have HX1 : Aside (∀ x, x = 1 % 4294967296 → x = 1) := ⟨fun x h => by rw [h]⟩
        rw [Nat.div_one, Nat.div_one]
        clear hdl hgB hg1
        go_enter Tryz.func73, Tryz.ntmps73
        go_wp2_with (first | ((go_at_call 76; with_reducible refine (rgcd_calls (HU.out.ext hk0.1.out) (HV.out.ext hk0.1.out) HLB.out HG.out).mono ?_; rintro e w1 ⟨r, rfl, hr, he⟩; have hk1 := Keep4.ext he hk0; have HR1 := Aside.mk hr.rv; obtain ⟨ad, n, c1, x, rfl, hcell, hx, hcn, hdl⟩ := hr.rv.first2 HGP.out; have HX := Aside.mk hx; have HDL := Aside.mk hdl; have HK1E := hk1.1; clear hk0 hr he hx hdl); obtain rfl : n = 0 := HN0.out n HDL.out; obtain rfl : x = 1 := HX1.out x HX.out) | (at_builtin; (refine copy_rv rfl _ _ rfl _ _ (HU.out.ext HK1E.out) rfl rfl ?_; intro v6 w6 h6 e6; have hk6 := Keep4.ext e6 hk1; have HV6 := Aside.mk h6; have HS6 := Aside.mk (World.block_lt_of_cell? _ _ hk1.2.1.1); have HE6 := Aside.mk e6; obtain ⟨A6, c6, rfl, _⟩ := h6.form; clear hk1 h6 e6)) | (at_builtin; (refine copy_rv rfl _ _ rfl _ _ (RV.ext (HV.out.ext HK1E.out) HE6.out) rfl rfl ?_; intro v7 w7 h7 e7; have hk7 := Keep4.ext e7 hk6; have HV7 := Aside.mk h7; have HS7 := Aside.mk (World.block_lt_of_cell? _ _ hk6.2.1.1); have HE7 := Aside.mk e7; obtain ⟨A7, c7, rfl, _⟩ := h7.form; clear hk6 h7 e7)))
        have HK := Aside.mk hk7
        refine bodyPost_ret (v := .agg #[.int .i64 0, .bool neg, .slice A6 (dig (a)).length c6, .slice A7 (dig (b)).length c7]) (by simp [results, Tryz.results73, go_sem, hk7]) rfl ⟨_, rfl, ⟨_, _, rfl, ?_, ?_⟩, ext_set4 HK.out.1.out (Nat.le_refl _) _ _ _ _⟩
        · exact ((HV6.out.ext HE7.out).set4 HS6.out _ _ _ _).mono (Nat.le_of_lt HS6.out)
        · exact (HV7.out.set4 HS7.out _ _ _ _).mono (Nat.le_of_lt HS7.out)
    · have HN0 : Aside (∀ n, (dig g).length = n + 1 → (1 : Int) < (n : Int) + 1) := ⟨fun n h => by
        have h1 := lt_of_dig_length (Nat.le_of_eq h)
        rcases Nat.eq_zero_or_pos n with rfl | h2
        · rw [Nat.zero_add, Nat.pow_one] at h1; omega
        · omega⟩
      clear hgB
      go_enter Tryz.func73, Tryz.ntmps73
      go_wp2_with (first | ((go_at_call 76; with_reducible refine (rgcd_calls (HU.out.ext hk0.1.out) (HV.out.ext hk0.1.out) HLB.out HG.out).mono ?_; rintro e w1 ⟨r, rfl, hr, he⟩; have hk1 := Keep4.ext he hk0; have HR1 := Aside.mk hr.rv; obtain ⟨ad, n, c1, x, rfl, hcell, hx, hcn, hdl⟩ := hr.rv.first2 HGP.out; have HX := Aside.mk hx; have HDL := Aside.mk hdl; have HK1E := hk1.1; clear hk0 hr he hx hdl); have hn1 : (1 : Int) < (n : Int) + 1 := HN0.out n HDL.out) | (go_at_call 112; with_reducible refine (rdiv_calls (HU.out.ext hk1.1.out) HR1.out HGP.out HLG.out).mono ?_; rintro e w2 ⟨q2, r2, rfl, hq, hr, he⟩; have hk2 := Keep4.ext he hk1; have HQ2 := Aside.mk hq.rv; have HE2 := Aside.mk he; clear hk1 hq hr he) | (go_at_call 112; with_reducible refine (rdiv_calls (HV.out.ext hk2.1.out) (HR1.out.ext HE2.out) HGP.out HLG.out).mono ?_; rintro e w3 ⟨q3, r3, rfl, hq, hr, he⟩; have hk3 := Keep4.ext he hk2; have HQ3 := Aside.mk hq.rv; have HQ2' := Aside.mk (HQ2.out.ext he); clear hk2 hq hr he) | (at_builtin; (refine copy_rv rfl _ _ rfl _ _ (HQ2'.out) rfl rfl ?_; intro v6 w6 h6 e6; have hk6 := Keep4.ext e6 hk3; have HV6 := Aside.mk h6; have HS6 := Aside.mk (World.block_lt_of_cell? _ _ hk3.2.1.1); have HE6 := Aside.mk e6; obtain ⟨A6, c6, rfl, _⟩ := h6.form; clear hk3 h6 e6)) | (at_builtin; (refine copy_rv rfl _ _ rfl _ _ (RV.ext (HQ3.out) HE6.out) rfl rfl ?_; intro v7 w7 h7 e7; have hk7 := Keep4.ext e7 hk6; have HV7 := Aside.mk h7; have HS7 := Aside.mk (World.block_lt_of_cell? _ _ hk6.2.1.1); have HE7 := Aside.mk e7; obtain ⟨A7, c7, rfl, _⟩ := h7.form; clear hk6 h7 e7)))
      have HK := Aside.mk hk7
      refine bodyPost_ret (v := .agg #[.int .i64 0, .bool neg, .slice A6 (dig (a / g)).length c6, .slice A7 (dig (b / g)).length c7]) (by simp [results, Tryz.results73, go_sem, hk7]) rfl ⟨_, rfl, ⟨_, _, rfl, ?_, ?_⟩, ext_set4 HK.out.1.out (Nat.le_refl _) _ _ _ _⟩
      · exact ((HV6.out.ext HE7.out).set4 HS6.out _ _ _ _).mono (Nat.le_of_lt HS6.out)
      · exact (HV7.out.set4 HS7.out _ _ _ _).mono (Nat.le_of_lt HS7.out)
end Go.Proofs.YtgfkachfbnbikaaGreatDoor

namespace Go.Proofs.YtgfkachfbnbikaaGreatDoor
open Go.RowKit

abbrev KeepBR (w : World) (x0 x1 x2 x3 : Value) (w' : World) : Prop :=
  Aside (Ext w w') ∧ (w'.cell? ⟨w.heap.size, 0, none⟩ = some x0 ∧ w'.cell? ⟨w.heap.size, 1, none⟩ = some x1 ∧ w'.cell? ⟨w.heap.size, 2, none⟩ = some x2 ∧ w'.cell? ⟨w.heap.size, 3, none⟩ = some x3) ∧
    (Fits w' ⟨w.heap.size + 1, 0, none⟩ ∧ Fits w' ⟨w.heap.size + 1, 1, none⟩ ∧ Fits w' ⟨w.heap.size + 1, 2, none⟩ ∧ Fits w' ⟨w.heap.size + 1, 3, none⟩)
theorem KeepBR.ext {w w1 w2 : World} {x0 x1 x2 x3 : Value} (e : Ext w1 w2) (h : KeepBR w x0 x1 x2 x3 w1) : KeepBR w x0 x1 x2 x3 w2 :=
  ⟨⟨h.1.out.trans e⟩, ⟨e.cell h.2.1.1, e.cell h.2.1.2.1, e.cell h.2.1.2.2.1, e.cell h.2.1.2.2.2⟩, ⟨h.2.2.1.ext e, h.2.2.2.1.ext e, h.2.2.2.2.1.ext e, h.2.2.2.2.2.ext e⟩⟩
theorem KeepBR.init (w : World) (x0 x1 x2 x3 z0 z1 z2 z3 : Value) (t t' : TypeId) : KeepBR w x0 x1 x2 x3 ((w.alloc (.cells #[x0, x1, x2, x3] t)).alloc (.cells #[z0, z1, z2, z3] t')) :=
  ⟨⟨((Ext.refl w).alloc _).alloc _⟩, ⟨cell_old (cell_new rfl rfl), cell_old (cell_new rfl rfl), cell_old (cell_new rfl rfl), cell_old (cell_new rfl rfl)⟩,
    ⟨fits_new (v := z0) (by simp) rfl, fits_new (v := z1) (by simp) rfl, fits_new (v := z2) (by simp) rfl, fits_new (v := z3) (by simp) rfl⟩⟩
theorem KeepBR.set {w w1 : World} {x0 x1 x2 x3 : Value} (h : KeepBR w x0 x1 x2 x3 w1) (j : Nat) (v : Value) : KeepBR w x0 x1 x2 x3 (w1.setCell ⟨w.heap.size + 1, j, none⟩ v) :=
  ⟨⟨h.1.out.set (by show w.heap.size ≤ w.heap.size + 1; omega) v⟩, ⟨cell_other h.2.1.1 (by omega), cell_other h.2.1.2.1 (by omega), cell_other h.2.1.2.2.1 (by omega), cell_other h.2.1.2.2.2 (by omega)⟩,
    ⟨h.2.2.1.set _ _, h.2.2.2.1.set _ _, h.2.2.2.2.1.set _ _, h.2.2.2.2.2.set _ _⟩⟩


set_option maxRecDepth 10000 in
set_option maxHeartbeats 1000000 in
theorem rbound_calls {w : World} {neg : Bool} {x y : Value} {a b : Nat} {base : Nat} {q : Rq} (hx : OV base w x (dig a)) (hy : OV base w y (dig b)) (hb : base ≤ w.heap.size) (hq : (if isLong a || isLong b then fq 4 else ⟨0, neg, dig a, dig b⟩) = q) :
    Calls Tryz.prog 72 #[.agg #[.int .i64 0, .bool neg, x, y]] w fun e w' => ∃ r, e = .returned r ∧ RO base w' r q ∧ Ext w w' := by
  have HX := Aside.mk hx
  have HY := Aside.mk hy
  have HBS := Aside.mk hb
  obtain ⟨A, c, rfl, _⟩ := hx.form
  obtain ⟨B, d, rfl, _⟩ := hy.form
  obtain ⟨la, hla⟩ : ∃ l, isLong a = l := ⟨_, rfl⟩
  obtain ⟨lb, hlb⟩ : ∃ l, isLong b = l := ⟨_, rfl⟩
  rw [hla, hlb] at hq
  have HLA := Aside.mk hla
  have HLB := Aside.mk hlb
  obtain ⟨na, hna⟩ : ∃ l, (dig a).length = l := ⟨_, rfl⟩
  obtain ⟨nb, hnb⟩ : ∃ l, (dig b).length = l := ⟨_, rfl⟩
  rw [hna] at HX ⊢
  rw [hnb] at HY ⊢
  have hk0 := KeepBR.init w (.int .i64 0) (.bool neg) (.slice A na c) (.slice B nb d) (.int .i64 0) (.bool false) (.slice none 0 0) (.slice none 0 0) 26 26
  clear hx hy hb hla hlb hna hnb
  cases la
  · cases lb
    · have HQ : Aside (q = ⟨0, neg, dig a, dig b⟩) := ⟨hq.symm⟩
      rw [HQ.out]
      clear hq
      go_enter Tryz.func72, Tryz.ntmps72
      go_wp2_with (first | (go_at_call 123; with_reducible refine (rlong_calls (HX.out.rv.ext hk0.1.out) HLA.out).mono ?_; rintro e w' ⟨rfl, rfl⟩) | (go_at_call 123; with_reducible refine (rlong_calls (HY.out.rv.ext hk0.1.out) HLB.out).mono ?_; rintro e w' ⟨rfl, rfl⟩))
      refine bodyPost_ret (v := .agg #[.int .i64 0, .bool neg, .slice A na c, .slice B nb d]) (by simp [results, Tryz.results72, go_sem]) rfl ⟨_, rfl, ⟨_, _, rfl, ?_, ?_⟩, ?_⟩
      · exact HX.out.ext (((Ext.refl w).alloc _).alloc _)
      · exact HY.out.ext (((Ext.refl w).alloc _).alloc _)
      · exact ((Ext.refl w).alloc _).alloc _
    · have HQ : Aside (q = fq 4) := ⟨hq.symm⟩
      rw [HQ.out]
      clear hq
      go_enter Tryz.func72, Tryz.ntmps72
      go_wp2_with (first | (go_at_call 123; with_reducible refine (rlong_calls (HX.out.rv.ext hk0.1.out) HLA.out).mono ?_; rintro e w' ⟨rfl, rfl⟩) | (go_at_call 123; with_reducible refine (rlong_calls (HY.out.rv.ext hk0.1.out) HLB.out).mono ?_; rintro e w' ⟨rfl, rfl⟩) | (go_at_call 64; with_reducible refine rfault_calls.mono ?_; rintro e w1 ⟨rfl, he⟩; have hk1 := KeepBR.ext he hk0; clear hk0 he))
      have HK := Aside.mk hk1
      refine bodyPost_ret (v := .agg #[.int .i64 4, .bool false, .slice none 0 0, .slice none 0 0]) (by simp [results, Tryz.results72, go_sem, hk1]) rfl ⟨_, rfl, RO.fq _ _ _, ext_set4 HK.out.1.out (by omega) _ _ _ _⟩
  · have HQ : Aside (q = fq 4) := ⟨hq.symm⟩
    rw [HQ.out]
    clear hq
    go_enter Tryz.func72, Tryz.ntmps72
    go_wp2_with (first | (go_at_call 123; with_reducible refine (rlong_calls (HX.out.rv.ext hk0.1.out) HLA.out).mono ?_; rintro e w' ⟨rfl, rfl⟩) | (go_at_call 64; with_reducible refine rfault_calls.mono ?_; rintro e w1 ⟨rfl, he⟩; have hk1 := KeepBR.ext he hk0; clear hk0 he))
    have HK := Aside.mk hk1
    refine bodyPost_ret (v := .agg #[.int .i64 4, .bool false, .slice none 0 0, .slice none 0 0]) (by simp [results, Tryz.results72, go_sem, hk1]) rfl ⟨_, rfl, RO.fq _ _ _, ext_set4 HK.out.1.out (by omega) _ _ _ _⟩

theorem RO.parts {b : Nat} {w : World} {v : Value} {f : Int} {neg : Bool} {xs ys : List Nat} (h : RO b w v ⟨f, neg, xs, ys⟩) : ∃ x y, v = .agg #[.int .i64 f, .bool neg, x, y] ∧ OV b w x xs ∧ OV b w y ys := h
theorem exact_ratio {neg : Bool} {a b : Nat} (hb : 0 < b) : ∃ n' a' b', exactq neg a b = ⟨0, n', dig a', dig b'⟩ ∧ (if isLong a' || isLong b' then fq 4 else ⟨0, n', dig a', dig b'⟩) = ratio neg a b := by
  unfold exactq ratio
  rw [if_neg (show ¬ b = 0 by omega)]
  rcases Nat.eq_zero_or_pos a with rfl | ha
  · refine ⟨false, 0, 1, by rw [if_pos rfl, dig_zero], ?_⟩
    rw [Nat.gcd_zero_left, Nat.zero_div, Nat.div_self hb]
    simp
  · refine ⟨neg, _, _, by rw [if_neg (show ¬ a = 0 by omega)], ?_⟩
    rw [decide_eq_true ha, Bool.and_true]
set_option maxRecDepth 10000 in
set_option maxHeartbeats 1000000 in
theorem rratio_calls {w : World} {neg : Bool} {u v : Value} {a b : Nat} {q : Rq} (hu : RV w u (dig a)) (hv : RV w v (dig b)) (hla : (dig a).length < 1073741824) (hlb : (dig b).length < 1073741824) (hq : ratio neg a b = q) :
    Calls Tryz.prog 24 #[.bool neg, u, v] w fun e w' => ∃ r, e = .returned r ∧ RO w.heap.size w' r q ∧ Ext w w' := by
  have HU := Aside.mk hu
  have HV := Aside.mk hv
  have HLA := Aside.mk hla
  have HLB := Aside.mk hlb
  have hk0 := Keep4.init (Ext.refl w) (.int .i64 0) (.bool false) (.slice none 0 0) (.slice none 0 0) 26
  obtain ⟨A, c, rfl, _⟩ := hu
  rcases Nat.eq_zero_or_pos b with rfl | hb
  · obtain ⟨B, d, rfl, _⟩ := hv
    have h0 : (dig 0).length = 0 := by rw [dig_zero]; rfl
    have HQ : Aside (q = fq 11) := ⟨by rw [← hq]; rfl⟩
    rw [h0, HQ.out]
    clear h0 hla hlb hq
    go_enter Tryz.func24, Tryz.ntmps24
    go_wp2_with (go_at_call 64; with_reducible refine rfault_calls.mono ?_; rintro e w1 ⟨rfl, he⟩; have hk1 := Keep4.ext he hk0; clear hk0 he)
    have HK := Aside.mk hk1
    refine bodyPost_ret (v := .agg #[.int .i64 11, .bool false, .slice none 0 0, .slice none 0 0]) (by simp [results, Tryz.results24, go_sem, hk1]) rfl ⟨_, rfl, RO.fq _ _ _, ext_set4 HK.out.1.out (Nat.le_refl _) _ _ _ _⟩
  · obtain ⟨av, nv, cv, _, rfl, _, _, hcv, hnv⟩ := hv.first2 hb
    have hne : ((nv : Int) + 1 == 0) = false := beq_eq_false_iff_ne.2 (by omega)
    obtain ⟨n', a', b', he, hr⟩ := @exact_ratio neg a b hb
    rw [hq] at hr
    have HE := Aside.mk he
    have HQ := Aside.mk hr
    have HB0 := Aside.mk hb
    clear hla hlb hq hb he hr hnv
    go_enter Tryz.func24, Tryz.ntmps24
    go_wp2_with (first | (go_at_call 73; with_reducible refine (rexact_calls (HU.out.ext hk0.1.out) (HV.out.ext hk0.1.out) HLA.out HLB.out HB0.out).mono ?_; rw [HE.out]; rintro e w1 ⟨r, rfl, hr, he⟩; have hk1 := Keep4.ext he hk0; have hz := World.block_lt_of_cell? _ _ hk0.2.1.1; obtain ⟨x1, y1, rfl, hx, hy⟩ := hr.parts; have HX := Aside.mk (hx.mono (Nat.succ_le_of_lt hz)); have HY := Aside.mk (hy.mono (Nat.succ_le_of_lt hz)); have HZ := Aside.mk (Nat.le_trans (Nat.succ_le_of_lt hz) he.size); clear hk0 hr he hx hy hz) | (go_at_call 72; with_reducible refine (rbound_calls HX.out HY.out HZ.out HQ.out).mono ?_; rintro e w2 ⟨r, rfl, hr, he⟩; have hk2 := Keep4.ext he hk1; have HR := Aside.mk hr; obtain ⟨A2, c2, B2, d2, rfl⟩ := hr.form; clear hk1 hr he))
    have HK := Aside.mk hk2
    refine bodyPost_ret (v := .agg #[.int .i64 q.f, .bool q.neg, .slice A2 q.num.length c2, .slice B2 q.den.length d2]) (by simp [results, Tryz.results24, go_sem, hk2]) rfl ⟨_, rfl, (HR.out.set4 (Nat.lt_succ_self _) _ _ _ _).mono (Nat.le_succ _), ext_set4 HK.out.1.out (Nat.le_refl _) _ _ _ _⟩

theorem rsize_calls {w : World} {n : Int} {a : Nat} (h1 : -9223372036854775808 ≤ n) (h2 : n ≤ 9223372036854775807) (ha : n.natAbs = a) :
    Calls Tryz.prog 69 #[.int .i64 n] w fun e w' => e = .returned (.int .u64 (a : Int)) ∧ w = w' := by
  rcases Int.lt_or_le n 0 with hn | hn
  · have e1 : IntKind.u64.wrap (0 - IntKind.u64.wrap n) = (a : Int) := by simp only [wrap_u64]; omega
    have e1' : IntKind.u64.wrap (-IntKind.u64.wrap n) = (a : Int) := by simp only [wrap_u64]; omega
    clear h1 h2 ha
    go_enter Tryz.func69, Tryz.ntmps69
    go_wp2
    go_ret
    exact ⟨rfl, rfl⟩
  · have e1 : IntKind.u64.wrap n = (a : Int) := by simp only [wrap_u64]; omega
    clear h1 h2 ha
    go_enter Tryz.func69, Tryz.ntmps69
    go_wp2
    go_ret
    exact ⟨rfl, rfl⟩
end Go.Proofs.YtgfkachfbnbikaaGreatDoor

namespace Go.Proofs.YtgfkachfbnbikaaGreatDoor
open Go.RowKit

set_option maxRecDepth 10000 in
set_option maxHeartbeats 1000000 in
theorem rOf_calls {w : World} {n d : Int} {q : Rq} (h1 : -9223372036854775808 ≤ n) (h2 : n ≤ 9223372036854775807) (h3 : -9223372036854775808 ≤ d) (h4 : d ≤ 9223372036854775807) (hq : ratio (decide (n < 0) != decide (d < 0)) n.natAbs d.natAbs = q) :
    Calls Tryz.prog 18 #[.int .i64 n, .int .i64 d] w fun e w' => ∃ r, e = .returned r ∧ RO w.heap.size w' r q ∧ Ext w w' := by
  obtain ⟨a, ha⟩ : ∃ a, n.natAbs = a := ⟨_, rfl⟩
  obtain ⟨b, hb⟩ : ∃ b, d.natAbs = b := ⟨_, rfl⟩
  have ha4 : a < 18446744073709551616 := by omega
  have hb4 : b < 18446744073709551616 := by omega
  rw [ha, hb] at hq
  have H1 := Aside.mk h1
  have H2 := Aside.mk h2
  have H3 := Aside.mk h3
  have H4 := Aside.mk h4
  have HA := Aside.mk ha
  have HB := Aside.mk hb
  have HA4 := Aside.mk ha4
  have HB4 := Aside.mk hb4
  have HLA : Aside ((dig a).length < 1073741824) := ⟨Nat.lt_of_le_of_lt (nv64 ha4) (by decide)⟩
  have HLB : Aside ((dig b).length < 1073741824) := ⟨Nat.lt_of_le_of_lt (nv64 hb4) (by decide)⟩
  generalize hx : decide (n < 0) = bn at *
  generalize hy : decide (d < 0) = bd at *
  have HQ : Aside (ratio (!bn == bd) a b = q) := ⟨by rw [← hq]; cases bn <;> cases bd <;> rfl⟩
  have hk0 := Keep4.init (Ext.refl w) (.int .i64 0) (.bool false) (.slice none 0 0) (.slice none 0 0) 26
  clear h1 h2 h3 h4 ha hb ha4 hb4 hq
  go_enter Tryz.func18, Tryz.ntmps18
  go_wp2_with (first | (go_at_call 69; with_reducible refine (rsize_calls H1.out H2.out HA.out).mono ?_; rintro e w' ⟨rfl, rfl⟩) | (go_at_call 69; with_reducible refine (rsize_calls H3.out H4.out HB.out).mono ?_; rintro e w' ⟨rfl, rfl⟩) | (go_at_call 68; with_reducible refine (rof_calls HA4.out).mono ?_; rintro e w1 ⟨r1, rfl, hr, he⟩; have hk1 := Keep4.ext he hk0; have HR1 := Aside.mk hr.rv; have HZ0 := Aside.mk (World.block_lt_of_cell? _ _ hk0.2.1.1); have HE1 := Aside.mk he; clear hk0 hr he) | (go_at_call 68; with_reducible refine (rof_calls HB4.out).mono ?_; rintro e w2 ⟨r2, rfl, hr, he⟩; have hk2 := Keep4.ext he hk1; have HR2 := Aside.mk hr.rv; have HR1' := Aside.mk (HR1.out.ext he); have HZ1 := Aside.mk (World.block_lt_of_cell? _ _ hk1.2.1.1); clear hk1 hr he) | (go_at_call 24; with_reducible refine (rratio_calls HR1'.out HR2.out HLA.out HLB.out HQ.out).mono ?_; rintro e w3 ⟨r, rfl, hr, he⟩; have hk3 := Keep4.ext he hk2; have HZ2 := Aside.mk (World.block_lt_of_cell? _ _ hk2.2.1.1); have HR := Aside.mk hr; obtain ⟨A2, c2, B2, d2, rfl⟩ := hr.form; clear hk2 hr he))
  have HK := Aside.mk hk3
  refine bodyPost_ret (v := .agg #[.int .i64 q.f, .bool q.neg, .slice A2 q.num.length c2, .slice B2 q.den.length d2]) (by simp [results, Tryz.results18, go_sem, hk3]) rfl ⟨_, rfl, (HR.out.set4 HZ2.out _ _ _ _).mono (Nat.le_of_lt HZ2.out), ext_set4 HK.out.1.out (Nat.le_refl _) _ _ _ _⟩

theorem getD_cons_eq {xs ys : List Nat} (h : xs.length = ys.length) (hall : ∀ j, j < xs.length → xs.getD j 0 = ys.getD j 0) : xs = ys := by
  apply List.ext_getElem h
  intro i h1 h2
  have := hall i h1
  rwa [List.getD_eq_getElem?_getD, List.getD_eq_getElem?_getD, List.getElem?_eq_getElem h1, List.getElem?_eq_getElem h2] at this
theorem rdigits_calls {w : World} {u v : Value} {xs ys : List Nat} {b : Bool} (hu : RV w u xs) (hv : RV w v ys) (hb : decide (xs = ys) = b) :
    Calls Tryz.prog 93 #[u, v] w fun e w' => e = .returned (.bool b) ∧ Ext w w' := by
  obtain ⟨A, c, rfl, hc, hd, hr⟩ := id hu
  obtain ⟨B, d, rfl, hc', hd', hr'⟩ := id hv
  have HU := Aside.mk hu
  have HV := Aside.mk hv
  have hl : xs.length ≤ 1073741824 := hd.1
  have HB := Aside.mk hb
  clear hu hv hd hd' hr hr' hb
  by_cases hll : xs.length = ys.length
  · have HLL := Aside.mk hll
    rw [← hll]
    rw [← hll] at hc'
    clear hll
    go_enter Tryz.func93, Tryz.ntmps93
    go_wp2
    go_loopw [5] (fun i wr => ∃ k : Nat, k ≤ xs.length ∧ i = .int .i64 (k : Int) ∧ Aside (∀ j, j < k → xs.getD j 0 = ys.getD j 0) ∧ Aside (∃ n, wr = w.drewN n)) (fun i _ => xs.length - (intOf i).toNat)
    case atStart => exact ⟨0, Nat.zero_le _, rfl, ⟨fun j h => by omega⟩, ⟨0, rfl⟩⟩
    case round =>
      obtain ⟨k, hk, rfl, HK, HW⟩ := hrel
      by_cases hlt : k < xs.length
      · obtain ⟨ad, rfl, hx⟩ := HU.out.at' k hlt
        obtain ⟨bd, rfl, hy⟩ := HV.out.at' k (by have := HLL.out; omega)
        obtain ⟨n, rfl⟩ := HW.out
        obtain ⟨x, hxx⟩ : ∃ x, xs.getD k 0 = x := ⟨_, rfl⟩
        obtain ⟨y, hyy⟩ : ∃ y, ys.getD k 0 = y := ⟨_, rfl⟩
        rw [hxx] at hx
        rw [hyy] at hy
        have HXX := Aside.mk hxx
        have HYY := Aside.mk hyy
        clear hxx hyy
        by_cases hxy : x = y
        · subst hxy
          go_wp2
          go_quiet (fail)
          go_wp2
          go_roundw
          case rel => exact ⟨k + 1, by omega, by go_num, ⟨fun j hj => by
            rcases Nat.lt_or_ge j k with h | h
            · exact HK.out j h
            · obtain rfl : j = k := by omega
              rw [HXX.out, HYY.out]⟩, ⟨_, rfl⟩⟩
          case measure => simp [intOf]; omega
        · have hne : ((x : Int) == (y : Int)) = false := beq_eq_false_iff_ne.2 (by omega)
          have hne' : ((x : Int) != (y : Int)) = true := by simp [bne, hne]
          have HF : Aside (b = false) := ⟨by rw [← HB.out]; apply decide_eq_false; intro h; apply hxy; rw [← HXX.out, ← HYY.out, h]⟩
          clear hxy
          go_wp2
          go_quiet (fail)
          go_wp2
          go_ret
          exact ⟨by rw [HF.out]; rfl, ((Ext.refl w).drewN _).drewN _⟩
      · have hkx : k = xs.length := by omega
        have HT : Aside (b = true) := ⟨by rw [← HB.out]; apply decide_eq_true; exact getD_cons_eq HLL.out (fun j hj => HK.out j (by omega))⟩
        subst hkx
        obtain ⟨n, rfl⟩ := HW.out
        go_wp2
        go_ret
        exact ⟨by rw [HT.out]; rfl, (Ext.refl w).drewN _⟩
  · have HF : Aside (b = false) := ⟨by rw [← HB.out]; apply decide_eq_false; intro h; apply hll; rw [h]⟩
    have hne : ((xs.length : Int) == (ys.length : Int)) = false := beq_eq_false_iff_ne.2 (by omega)
    have hne' : ((xs.length : Int) != (ys.length : Int)) = true := by simp [bne, hne]
    clear hll
    go_enter Tryz.func93, Tryz.ntmps93
    go_wp2
    go_ret
    exact ⟨by rw [HF.out]; rfl, Ext.refl w⟩

/-- Two boxes of four cells. -/
abbrev KeepE (w : World) (x0 x1 x2 x3 y0 y1 y2 y3 : Value) (w' : World) : Prop :=
  Aside (Ext w w') ∧ (w'.cell? ⟨w.heap.size, 0, none⟩ = some x0 ∧ w'.cell? ⟨w.heap.size, 1, none⟩ = some x1 ∧ w'.cell? ⟨w.heap.size, 2, none⟩ = some x2 ∧ w'.cell? ⟨w.heap.size, 3, none⟩ = some x3) ∧
    (w'.cell? ⟨w.heap.size + 1, 0, none⟩ = some y0 ∧ w'.cell? ⟨w.heap.size + 1, 1, none⟩ = some y1 ∧ w'.cell? ⟨w.heap.size + 1, 2, none⟩ = some y2 ∧ w'.cell? ⟨w.heap.size + 1, 3, none⟩ = some y3)
theorem KeepE.ext {w w1 w2 : World} {x0 x1 x2 x3 y0 y1 y2 y3 : Value} (e : Ext w1 w2) (h : KeepE w x0 x1 x2 x3 y0 y1 y2 y3 w1) : KeepE w x0 x1 x2 x3 y0 y1 y2 y3 w2 :=
  ⟨⟨h.1.out.trans e⟩, ⟨e.cell h.2.1.1, e.cell h.2.1.2.1, e.cell h.2.1.2.2.1, e.cell h.2.1.2.2.2⟩, ⟨e.cell h.2.2.1, e.cell h.2.2.2.1, e.cell h.2.2.2.2.1, e.cell h.2.2.2.2.2⟩⟩
theorem KeepE.init (w : World) (x0 x1 x2 x3 y0 y1 y2 y3 : Value) (t t' : TypeId) : KeepE w x0 x1 x2 x3 y0 y1 y2 y3 ((w.alloc (.cells #[x0, x1, x2, x3] t)).alloc (.cells #[y0, y1, y2, y3] t')) :=
  ⟨⟨((Ext.refl w).alloc _).alloc _⟩, ⟨cell_old (cell_new rfl rfl), cell_old (cell_new rfl rfl), cell_old (cell_new rfl rfl), cell_old (cell_new rfl rfl)⟩,
    ⟨cell_new (by simp) rfl, cell_new (by simp) rfl, cell_new (by simp) rfl, cell_new (by simp) rfl⟩⟩
set_option maxRecDepth 10000 in
set_option maxHeartbeats 1000000 in
/-- A Rat equals one with the same fields. -/
theorem requal_same {w : World} {u v : Value} {q : Rq} (hu : RR w u q) (hv : RR w v q) :
    Calls Tryz.prog 33 #[u, v] w fun e w' => e = .returned (.bool true) ∧ Ext w w' := by
  obtain ⟨x, y, rfl, hx, hy⟩ := hu
  obtain ⟨x', y', rfl, hx', hy'⟩ := hv
  obtain ⟨f, neg, xs, ys⟩ := q
  dsimp only at *
  have HX := Aside.mk hx
  have HY := Aside.mk hy
  have HX' := Aside.mk hx'
  have HY' := Aside.mk hy'
  obtain ⟨A, ca, rfl, _⟩ := hx
  obtain ⟨B, cb, rfl, _⟩ := hy
  obtain ⟨C, cc, rfl, _⟩ := hx'
  obtain ⟨D, cd, rfl, _⟩ := hy'
  have hk0 := KeepE.init w (.int .i64 f) (.bool neg) (.slice A xs.length ca) (.slice B ys.length cb) (.int .i64 f) (.bool neg) (.slice C xs.length cc) (.slice D ys.length cd) 26 26
  generalize xs.length = lx at *
  generalize ys.length = ly at *
  go_enter Tryz.func33, Tryz.ntmps33
  go_wp2_with (first | (go_at_call 93; with_reducible refine (rdigits_calls (HX.out.ext hk0.1.out) (HX'.out.ext hk0.1.out) (decide_eq_true rfl)).mono ?_; rintro e w1 ⟨rfl, he⟩; have hk1 := KeepE.ext he hk0; clear hk0 he) | (go_at_call 93; with_reducible refine (rdigits_calls (HY.out.ext hk1.1.out) (HY'.out.ext hk1.1.out) (decide_eq_true rfl)).mono ?_; rintro e w2 ⟨rfl, he⟩; have hk2 := KeepE.ext he hk1; clear hk1 he))
  go_ret
  exact ⟨by simp, hk2.1.out⟩
set_option maxRecDepth 10000 in
/-- A result without an error, and the Rat that is wanted. -/
theorem gives_same {w : World} {u v : Value} {q : Rq} (hu : RR w u q) (hv : RR w v q) :
    Calls Tryz.prog 17 #[u, .int .i64 0, v] w fun e w' => e = .returned (.bool true) ∧ Ext w w' := by
  have HU := Aside.mk hu
  have HV := Aside.mk hv
  obtain ⟨A, ca, B, cb, rfl⟩ := hu.form
  obtain ⟨C, cc, D, cd, rfl⟩ := hv.form
  have hk0 := KeepE.init w (.int .i64 q.f) (.bool q.neg) (.slice A q.num.length ca) (.slice B q.den.length cb) (.int .i64 q.f) (.bool q.neg) (.slice C q.num.length cc) (.slice D q.den.length cd) 26 26
  clear hu hv
  go_enter Tryz.func17, Tryz.ntmps17
  go_wp2_with (go_at_call 33; with_reducible refine (requal_same (HU.out.ext hk0.1.out) (HV.out.ext hk0.1.out)).mono ?_; rintro e w1 ⟨rfl, he⟩; have hk1 := KeepE.ext he hk0; clear hk0 he)
  go_ret
  exact ⟨rfl, hk1.1.out⟩
/-- The zero Rat. -/
theorem zero_true {w : World} :
    Calls Tryz.prog 22 #[.agg #[.int .i64 0, .bool false, .slice none 0 0, .slice none 0 0]] w fun e w' => e = .returned (.bool true) ∧ Ext w w' := by
  go_enter Tryz.func22, Tryz.ntmps22
  go_wp2
  go_ret
  exact ⟨by simp, (Ext.refl w).alloc _⟩
theorem RV.take {w : World} {A : Option Addr} {n c : Nat} {xs : List Nat} (h : RV w (.slice A n c) xs) (k : Nat) (hk : k ≤ xs.length) : RV w (.slice A k c) (xs.take k) := by
  obtain ⟨A', c', e, hc, hd, hr⟩ := h
  injection e with e1 e2 e3
  subst e1 e3
  have hl : (xs.take k).length = k := by simp; omega
  refine ⟨A, c, by rw [hl], by rw [hl]; omega, ⟨by rw [hl]; have := hd.1; omega, fun x hx => hd.2 x (List.mem_of_mem_take hx)⟩, ?_⟩
  intro j v hj
  refine hr j v ?_
  have : u32s (xs.take k) = (u32s xs).take k := by simp [u32s, List.map_take]
  rw [this, List.getElem?_take] at hj
  split at hj
  · exact hj
  · cases hj
/-- A slice that reads as digits, of any length. -/
def RL (w : World) (v : Value) (xs : List Nat) : Prop := ∃ A c, v = .slice A xs.length c ∧ xs.length ≤ c ∧ xs.length ≤ maxLen ∧ (∀ x ∈ xs, x < 4294967296) ∧ Rd w A (u32s xs)
theorem RL.ext {a b : World} {v : Value} {xs : List Nat} (h : RL a v xs) (e : Ext a b) : RL b v xs := let ⟨A, c, h1, h2, h3, h4, h5⟩ := h; ⟨A, c, h1, h2, h3, h4, h5.ext e⟩
theorem RL.take {w : World} {A : Option Addr} {n c : Nat} {xs : List Nat} (h : RL w (.slice A n c) xs) (k : Nat) (hk : k ≤ xs.length) (hk' : k ≤ 1073741824) : RV w (.slice A k c) (xs.take k) := by
  obtain ⟨A', c', e, hc, _, hd, hr⟩ := h
  injection e with e1 e2 e3
  subst e1 e3
  have hl : (xs.take k).length = k := by simp; omega
  refine ⟨A, c, by rw [hl], by rw [hl]; omega, ⟨by rw [hl]; omega, fun x hx => hd x (List.mem_of_mem_take hx)⟩, ?_⟩
  intro j v hj
  refine hr j v ?_
  have : u32s (xs.take k) = (u32s xs).take k := by simp [u32s, List.map_take]
  rw [this, List.getElem?_take] at hj
  split at hj
  · exact hj
  · cases hj
/-- A copy of at most so many digits. -/
theorem cut_calls {w : World} {u : Value} {xs ys : List Nat} {m : Int} {most : Nat} (hu : RL w u xs) (hm : m = (most : Int)) (hmost : most ≤ 1073741824) (hy : xs.take most = ys) :
    Calls Tryz.prog 19 #[u, .int .i64 m] w fun e w' => ∃ r, e = .returned r ∧ OV w.heap.size w' r ys ∧ Ext w w' := by
  subst hm
  subst hy
  obtain ⟨k, hk⟩ : ∃ k, min xs.length most = k := ⟨_, rfl⟩
  have hmin : min (xs.length : Int) (most : Int) = (k : Int) := by omega
  have e : xs.take most = xs.take k := by rw [← hk, Nat.min_comm]; exact List.take_eq_take_min
  rw [e]
  obtain ⟨A, c, rfl, hc, hl, hd, _⟩ := id hu
  have hkl : k ≤ xs.length := by omega
  have hkc : k ≤ c := by omega
  have HU := Aside.mk (hu.take k hkl (by omega))
  generalize xs.length = n at *
  clear hu hd hk e hmost
  go_enter Tryz.func19, Tryz.ntmps19
  go_wp2_with (at_builtin; (refine copy_rv rfl _ _ rfl _ _ HU.out rfl rfl ?_; intro v1 w9 h9 e9; have HV9 := Aside.mk h9; have HE9 := Aside.mk e9; clear h9 e9))
  go_ret
  exact ⟨_, rfl, HV9.out, HE9.out⟩
end Go.Proofs.YtgfkachfbnbikaaGreatDoor
