/- Contracts of package fluxionref02: Fault, one, Long, Exact, Bound, Ratio, size, Of. -/
import Derived.Test.YtgfkachfbnbikaaGreatDoorRefF
import Derived.Test.YtgfkachfbnbikaaGreatDoorFracD
namespace Go.Proofs.YtgfkachfbnbikaaGreatDoor
open Go.RowKit

theorem rfault_calls {w : World} {f : Int} :
    Calls Tryz.prog 64 #[.int .i64 f] w fun e w' => e = .returned (.agg #[.int .i64 f, .bool false, .slice none 0 0, .slice none 0 0]) ∧ Ext w w' := by
  go_enter Tryz.func64, Tryz.ntmps64
  go_wp2
  refine bodyPost_ret (v := .agg #[.int .i64 f, .bool false, .slice none 0 0, .slice none 0 0]) (by simp [results, Tryz.results64, go_sem]) rfl ?_
  exact ⟨rfl, (Ext.refl w).alloc _⟩
theorem dig_one : dig 1 = [1] := by rw [dig_pos (by decide), show (1 : Nat) / 4294967296 = 0 from rfl, dig_zero]
theorem rone_calls {w : World} :
    Calls Tryz.prog 90 #[] w fun e w' => ∃ r, e = .returned r ∧ OV w.heap.size w' r (dig 1) ∧ Ext w w' := by
  have hol := OV.lit w [1] (by simp) (Ds.cons (by decide) Ds.nil)
  simp only [u32s, List.map_cons, List.map_nil, List.length_cons, List.length_nil] at hol
  have HO := Aside.mk hol
  clear hol
  go_enter Tryz.func90, Tryz.ntmps90
  go_wp2
  go_ret
  exact ⟨_, rfl, by rw [dig_one]; exact HO.out, (Ext.refl w).alloc _⟩
theorem rlong_calls {w : World} {u : Value} {a : Nat} {d : Bool} (h : RV w u (dig a)) (hd : isLong a = d) :
    Calls Tryz.prog 123 #[u] w fun e w' => e = .returned (.bool d) ∧ w = w' := by
  obtain ⟨m, hm⟩ : ∃ m, blen a = m := ⟨_, rfl⟩
  have hb : decide ((4096 : Int) < (m : Int)) = d := by
    rw [← hd, ← hm]; unfold isLong
    by_cases hh : 4096 < blen a
    · rw [decide_eq_true hh, decide_eq_true (by omega)]
    · rw [decide_eq_false hh, decide_eq_false (by omega)]
  have H := Aside.mk h
  have HM := Aside.mk hm
  have HB := Aside.mk hb
  clear h hm hd hb
  go_enter Tryz.func123, Tryz.ntmps123
  go_wp2_with (go_at_call 154; with_reducible refine (rbits_calls H.out HM.out).mono ?_; rintro e w' ⟨rfl, rfl⟩)
  go_ret
  exact ⟨by rw [← HB.out]; rfl, rfl⟩

/-- The number num / den, long or not. -/
def exactq (neg : Bool) (a b : Nat) : Rq := if a = 0 then ⟨0, false, [], dig 1⟩ else ⟨0, neg, dig (a / Nat.gcd a b), dig (b / Nat.gcd a b)⟩
theorem RV.first2 {w : World} {v : Value} {X : Nat} (h : RV w v (dig X)) (h0 : 0 < X) : ∃ ad n c x, v = .slice (some ad) (n + 1) c ∧ w.cell? ad = some (.int .u32 ((x : Nat) : Int)) ∧ x = X % 4294967296 ∧ n + 1 ≤ c ∧ (dig X).length = n + 1 := by
  obtain ⟨A, c, rfl, hc, hd, hr⟩ := h
  have hl := dig_length_pos h0
  obtain ⟨ad, rfl, hcell⟩ := hr.at32 0 hl
  have e : ad.add 0 = ad := by simp [Addr.add]
  rw [e, getD_dig, Nat.pow_zero, Nat.div_one] at hcell
  exact ⟨ad, (dig X).length - 1, c, _, by congr 1; omega, hcell, rfl, by omega, by omega⟩

set_option maxRecDepth 10000 in
set_option maxHeartbeats 2000000 in
theorem rexact_calls {w : World} {neg : Bool} {u v : Value} {a b : Nat} (hu : RV w u (dig a)) (hv : RV w v (dig b)) (hla : (dig a).length < 1073741824) (hlb : (dig b).length < 1073741824) (hb : 0 < b) :
    Calls Tryz.prog 73 #[.bool neg, u, v] w fun e w' => ∃ r, e = .returned r ∧ RO w.heap.size w' r (exactq neg a b) ∧ Ext w w' := by
  have HU := Aside.mk hu
  have HV := Aside.mk hv
  have hk0 := Keep4.init (Ext.refl w) (.int .i64 0) (.bool false) (.slice none 0 0) (.slice none 0 0) 26
  rcases Nat.eq_zero_or_pos a with rfl | ha
  · obtain ⟨A, c, rfl, _⟩ := hu
    obtain ⟨B, d, rfl, _⟩ := hv
    have h0 : (dig 0).length = 0 := by rw [dig_zero]; rfl
    have HQ : Aside (exactq neg 0 b = ⟨0, false, [], dig 1⟩) := ⟨by simp [exactq]⟩
    rw [h0, HQ.out]
    clear h0 hla hlb hb
    go_enter Tryz.func73, Tryz.ntmps73
    go_wp2_with (go_at_call 90; with_reducible refine rone_calls.mono ?_; rintro e w1 ⟨r, rfl, hr, he⟩; have hk1 := Keep4.ext he hk0; have HS := Aside.mk (World.block_lt_of_cell? _ _ hk0.2.1.1); have HR := Aside.mk hr; obtain ⟨A1, c1, rfl, _⟩ := hr.form; clear hk0 hr he)
    have HK := Aside.mk hk1
    refine bodyPost_ret (v := .agg #[.int .i64 0, .bool false, .slice none 0 0, .slice A1 (dig 1).length c1]) (by simp [results, Tryz.results73, go_sem, hk1]) rfl ⟨_, rfl, ⟨_, _, rfl, OV.nil _ _, ?_⟩, ext_set4 HK.out.1.out (Nat.le_refl _) _ _ _ _⟩
    exact (HR.out.set4 HS.out _ _ _ _).mono (Nat.le_of_lt HS.out)
  · obtain ⟨au, nu, cu, _, rfl, _, _, hcu, hnu⟩ := hu.first2 ha
    obtain ⟨av, nv, cv, _, rfl, _, _, hcv, hnv⟩ := hv.first2 hb
    have hne : ((nu : Int) + 1 == 0) = false := beq_eq_false_iff_ne.2 (by omega)
    obtain ⟨g, hg⟩ : ∃ g, Nat.gcd a b = g := ⟨_, rfl⟩
    have hgp : 0 < g := by rw [← hg]; exact Nat.gcd_pos_of_pos_left _ ha
    have HG := Aside.mk hg
    have HGP := Aside.mk hgp
    have HQ : Aside (exactq neg a b = ⟨0, neg, dig (a / g), dig (b / g)⟩) := ⟨by unfold exactq; rw [if_neg (by omega), hg]⟩
    have HLB := Aside.mk hlb
    have HLG : Aside ((dig g).length < 1073741824) := ⟨Nat.lt_of_le_of_lt (dig_len_mono (by rw [← hg]; exact Nat.le_of_dvd hb (Nat.gcd_dvd_right _ _))) hlb⟩
    rw [HQ.out]
    clear hla hlb hb ha hg hgp hnu hnv
    rcases Nat.lt_or_ge g 4294967296 with hgB | hgB
    · have hdl : (dig g).length = 1 := by rw [dig_pos (by have := HGP.out; omega), Nat.div_eq_of_lt hgB, dig_zero]; rfl
      have HN0 : Aside (∀ n, (dig g).length = n + 1 → n = 0) := ⟨fun n h => by omega⟩
      rcases Nat.lt_or_ge 1 g with hg1 | hg1
      · have HX1 : Aside (∀ x, x = g % 4294967296 → (1 : Int) < (x : Int)) := ⟨fun x h => by rw [Nat.mod_eq_of_lt hgB] at h; omega⟩
        clear hdl hgB hg1
        go_enter Tryz.func73, Tryz.ntmps73
        go_wp2_with (first | ((go_at_call 76; with_reducible refine (rgcd_calls (HU.out.ext hk0.1.out) (HV.out.ext hk0.1.out) HLB.out HG.out).mono ?_; rintro e w1 ⟨r, rfl, hr, he⟩; have hk1 := Keep4.ext he hk0; have HR1 := Aside.mk hr.rv; obtain ⟨ad, n, c1, x, rfl, hcell, hx, hcn, hdl⟩ := hr.rv.first2 HGP.out; have HX := Aside.mk hx; have HDL := Aside.mk hdl; have HK1E := hk1.1; clear hk0 hr he hx hdl); obtain rfl : n = 0 := HN0.out n HDL.out; have hx1 : (1 : Int) < (x : Int) := HX1.out x HX.out) | (go_at_call 112; with_reducible refine (rdiv_calls (HU.out.ext hk1.1.out) HR1.out HGP.out HLG.out).mono ?_; rintro e w2 ⟨q2, r2, rfl, hq, hr, he⟩; have hk2 := Keep4.ext he hk1; have HQ2 := Aside.mk hq.rv; have HE2 := Aside.mk he; clear hk1 hq hr he) | (go_at_call 112; with_reducible refine (rdiv_calls (HV.out.ext hk2.1.out) (HR1.out.ext HE2.out) HGP.out HLG.out).mono ?_; rintro e w3 ⟨q3, r3, rfl, hq, hr, he⟩; have hk3 := Keep4.ext he hk2; have HQ3 := Aside.mk hq.rv; have HQ2' := Aside.mk (HQ2.out.ext he); clear hk2 hq hr he) | (at_builtin; (refine copy_rv rfl _ _ rfl _ _ (HQ2'.out) rfl rfl ?_; intro v6 w6 h6 e6; have hk6 := Keep4.ext e6 hk3; have HV6 := Aside.mk h6; have HS6 := Aside.mk (World.block_lt_of_cell? _ _ hk3.2.1.1); have HE6 := Aside.mk e6; obtain ⟨A6, c6, rfl, _⟩ := h6.form; clear hk3 h6 e6)) | (at_builtin; (refine copy_rv rfl _ _ rfl _ _ (RV.ext (HQ3.out) HE6.out) rfl rfl ?_; intro v7 w7 h7 e7; have hk7 := Keep4.ext e7 hk6; have HV7 := Aside.mk h7; have HS7 := Aside.mk (World.block_lt_of_cell? _ _ hk6.2.1.1); have HE7 := Aside.mk e7; obtain ⟨A7, c7, rfl, _⟩ := h7.form; clear hk6 h7 e7)))
        have HK := Aside.mk hk7
        refine bodyPost_ret (v := .agg #[.int .i64 0, .bool neg, .slice A6 (dig (a / g)).length c6, .slice A7 (dig (b / g)).length c7]) (by simp [results, Tryz.results73, go_sem, hk7]) rfl ⟨_, rfl, ⟨_, _, rfl, ?_, ?_⟩, ext_set4 HK.out.1.out (Nat.le_refl _) _ _ _ _⟩
        · exact ((HV6.out.ext HE7.out).set4 HS6.out _ _ _ _).mono (Nat.le_of_lt HS6.out)
        · exact (HV7.out.set4 HS7.out _ _ _ _).mono (Nat.le_of_lt HS7.out)
      · obtain rfl : g = 1 := by have := HGP.out; omega
        have HX1 : Aside (∀ x, x = 1 % 4294967296 → x = 1) := ⟨fun x h => by rw [h]⟩
        rw [Nat.div_one, Nat.div_one]
        clear hdl hgB hg1
        go_enter Tryz.func73, Tryz.ntmps73
        go_wp2_with (first | ((go_at_call 76; with_reducible refine (rgcd_calls (HU.out.ext hk0.1.out) (HV.out.ext hk0.1.out) HLB.out HG.out).mono ?_; rintro e w1 ⟨r, rfl, hr, he⟩; have hk1 := Keep4.ext he hk0; have HR1 := Aside.mk hr.rv; obtain ⟨ad, n, c1, x, rfl, hcell, hx, hcn, hdl⟩ := hr.rv.first2 HGP.out; have HX := Aside.mk hx; have HDL := Aside.mk hdl; have HK1E := hk1.1; clear hk0 hr he hx hdl); obtain rfl : n = 0 := HN0.out n HDL.out; obtain rfl : x = 1 := HX1.out x HX.out) | (at_builtin; (refine copy_rv rfl _ _ rfl _ _ (HU.out.ext HK1E.out) rfl rfl ?_; intro v6 w6 h6 e6; have hk6 := Keep4.ext e6 hk1; have HV6 := Aside.mk h6; have HS6 := Aside.mk (World.block_lt_of_cell? _ _ hk1.2.1.1); have HE6 := Aside.mk e6; obtain ⟨A6, c6, rfl, _⟩ := h6.form; clear hk1 h6 e6)) | (at_builtin; (refine copy_rv rfl _ _ rfl _ _ (RV.ext (HV.out.ext HK1E.out) HE6.out) rfl rfl ?_; intro v7 w7 h7 e7; have hk7 := Keep4.ext e7 hk6; have HV7 := Aside.mk h7; have HS7 := Aside.mk (World.block_lt_of_cell? _ _ hk6.2.1.1); have HE7 := Aside.mk e7; obtain ⟨A7, c7, rfl, _⟩ := h7.form; clear hk6 h7 e7)))
        have HK := Aside.mk hk7
        refine bodyPost_ret (v := .agg #[.int .i64 0, .bool neg, .slice A6 (dig (a)).length c6, .slice A7 (dig (b)).length c7]) (by simp [results, Tryz.results73, go_sem, hk7]) rfl ⟨_, rfl, ⟨_, _, rfl, ?_, ?_⟩, ext_set4 HK.out.1.out (Nat.le_refl _) _ _ _ _⟩
        · exact ((HV6.out.ext HE7.out).set4 HS6.out _ _ _ _).mono (Nat.le_of_lt HS6.out)
        · exact (HV7.out.set4 HS7.out _ _ _ _).mono (Nat.le_of_lt HS7.out)
    · have HN0 : Aside (∀ n, (dig g).length = n + 1 → (1 : Int) < (n : Int) + 1) := ⟨fun n h => by
        have h1 := lt_of_dig_length (Nat.le_of_eq h)
        rcases Nat.eq_zero_or_pos n with rfl | h2
        · rw [Nat.zero_add, Nat.pow_one] at h1; omega
        · omega⟩
      clear hgB
      go_enter Tryz.func73, Tryz.ntmps73
      go_wp2_with (first | ((go_at_call 76; with_reducible refine (rgcd_calls (HU.out.ext hk0.1.out) (HV.out.ext hk0.1.out) HLB.out HG.out).mono ?_; rintro e w1 ⟨r, rfl, hr, he⟩; have hk1 := Keep4.ext he hk0; have HR1 := Aside.mk hr.rv; obtain ⟨ad, n, c1, x, rfl, hcell, hx, hcn, hdl⟩ := hr.rv.first2 HGP.out; have HX := Aside.mk hx; have HDL := Aside.mk hdl; have HK1E := hk1.1; clear hk0 hr he hx hdl); have hn1 : (1 : Int) < (n : Int) + 1 := HN0.out n HDL.out) | (go_at_call 112; with_reducible refine (rdiv_calls (HU.out.ext hk1.1.out) HR1.out HGP.out HLG.out).mono ?_; rintro e w2 ⟨q2, r2, rfl, hq, hr, he⟩; have hk2 := Keep4.ext he hk1; have HQ2 := Aside.mk hq.rv; have HE2 := Aside.mk he; clear hk1 hq hr he) | (go_at_call 112; with_reducible refine (rdiv_calls (HV.out.ext hk2.1.out) (HR1.out.ext HE2.out) HGP.out HLG.out).mono ?_; rintro e w3 ⟨q3, r3, rfl, hq, hr, he⟩; have hk3 := Keep4.ext he hk2; have HQ3 := Aside.mk hq.rv; have HQ2' := Aside.mk (HQ2.out.ext he); clear hk2 hq hr he) | (at_builtin; (refine copy_rv rfl _ _ rfl _ _ (HQ2'.out) rfl rfl ?_; intro v6 w6 h6 e6; have hk6 := Keep4.ext e6 hk3; have HV6 := Aside.mk h6; have HS6 := Aside.mk (World.block_lt_of_cell? _ _ hk3.2.1.1); have HE6 := Aside.mk e6; obtain ⟨A6, c6, rfl, _⟩ := h6.form; clear hk3 h6 e6)) | (at_builtin; (refine copy_rv rfl _ _ rfl _ _ (RV.ext (HQ3.out) HE6.out) rfl rfl ?_; intro v7 w7 h7 e7; have hk7 := Keep4.ext e7 hk6; have HV7 := Aside.mk h7; have HS7 := Aside.mk (World.block_lt_of_cell? _ _ hk6.2.1.1); have HE7 := Aside.mk e7; obtain ⟨A7, c7, rfl, _⟩ := h7.form; clear hk6 h7 e7)))
      have HK := Aside.mk hk7
      refine bodyPost_ret (v := .agg #[.int .i64 0, .bool neg, .slice A6 (dig (a / g)).length c6, .slice A7 (dig (b / g)).length c7]) (by simp [results, Tryz.results73, go_sem, hk7]) rfl ⟨_, rfl, ⟨_, _, rfl, ?_, ?_⟩, ext_set4 HK.out.1.out (Nat.le_refl _) _ _ _ _⟩
      · exact ((HV6.out.ext HE7.out).set4 HS6.out _ _ _ _).mono (Nat.le_of_lt HS6.out)
      · exact (HV7.out.set4 HS7.out _ _ _ _).mono (Nat.le_of_lt HS7.out)
end Go.Proofs.YtgfkachfbnbikaaGreatDoor
