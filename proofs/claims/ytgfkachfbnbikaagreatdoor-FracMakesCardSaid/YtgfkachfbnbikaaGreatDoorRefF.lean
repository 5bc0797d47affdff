/- Contract of fluxionref01.Gcd. -/
import Derived.Test.YtgfkachfbnbikaaGreatDoorRefE
import Derived.Test.YtgfkachfbnbikaaGreatDoorCopy
import Derived.Deep.LoopGhost
namespace Go.Proofs.YtgfkachfbnbikaaGreatDoor
open Go.RowKit

theorem rhalf_n {w : World} {u : Value} {a : Nat} (hu : RV w u (dig a)) :
    Calls Tryz.prog 127 #[u] w fun e w' => ∃ r, e = .returned r ∧ OV w.heap.size w' r (dig (a / 2)) ∧ Ext w w' := by
  have h := rhalf_calls hu
  rw [val_dig] at h
  exact h
theorem rtwice_0 {w : World} {u : Value} {a m : Nat} (hu : RV w u (dig a)) (hl : (dig a).length < 1073741824) (hm : 2 * a + 0 = m) :
    Calls Tryz.prog 129 #[u, .int .u32 0] w fun e w' => ∃ r, e = .returned r ∧ OV w.heap.size w' r (dig m) ∧ Ext w w' := rtwice_n (b0 := 0) hu (Nat.zero_le _) hl hm
theorem cmpN_gt {a b : Nat} : decide ((0 : Int) < cmpN a b) = decide (b < a) := by
  unfold cmpN
  rcases Nat.lt_trichotomy a b with h | h | h
  · rw [if_pos h]; simp; omega
  · rw [if_neg (by omega), if_pos h]; simp; omega
  · rw [if_neg (by omega), if_neg (by omega)]; simp; omega
/-- The first digit of a number that is not 0. -/
theorem RV.first {w : World} {v : Value} {X : Nat} (h : RV w v (dig X)) (h0 : 0 < X) : ∃ ad n c x, v = .slice (some ad) (n + 1) c ∧ w.cell? ad = some (.int .u32 ((x : Nat) : Int)) ∧ x % 2 = X % 2 ∧ x < 4294967296 ∧ n + 1 ≤ c ∧ (dig X).length = n + 1 := by
  obtain ⟨A, c, rfl, hc, hd, hr⟩ := h
  have hl := dig_length_pos h0
  obtain ⟨ad, rfl, hcell⟩ := hr.at32 0 hl
  have e : ad.add 0 = ad := by simp [Addr.add]
  rw [e] at hcell
  exact ⟨ad, (dig X).length - 1, c, _, by congr 1; omega, hcell, val_mod2 X, Ds.get (ds_dig X) 0, by omega, by omega⟩
theorem gcd_pos_of {X Y : Nat} (h : 0 < X) : 0 < Nat.gcd X Y := Nat.gcd_pos_of_pos_left _ h

set_option maxRecDepth 10000 in
set_option maxHeartbeats 4000000 in
theorem rgcd_calls {w : World} {u v : Value} {a b g : Nat} (hu : RV w u (dig a)) (hv : RV w v (dig b)) (hbl : (dig b).length < 1073741824) (hg : Nat.gcd a b = g) :
    Calls Tryz.prog 76 #[u, v] w fun e w' => ∃ r, e = .returned r ∧ OV w.heap.size w' r (dig g) ∧ Ext w w' := by
  have HU := Aside.mk hu
  have HV := Aside.mk hv
  have HG := Aside.mk hg
  rcases Nat.eq_zero_or_pos a with rfl | ha
  · obtain ⟨A, c, rfl, hc, _⟩ := hu
    obtain ⟨B, d, rfl, hc', _⟩ := hv
    have h0 : (dig 0).length = 0 := by rw [dig_zero]; rfl
    rw [h0] at hc HU ⊢
    have HG' : Aside (b = g) := ⟨by have := HG.out; rwa [Nat.gcd_zero_left] at this⟩
    generalize (dig b).length = lb at *
    clear h0 hg hbl
    go_enter Tryz.func76, Tryz.ntmps76
    go_wp2_with (at_builtin; (refine copy_rv rfl _ _ rfl _ _ HV.out rfl rfl ?_; intro v1 w9 h9 e9; have HV9 := Aside.mk h9; have HE9 := Aside.mk e9; clear h9 e9))
    go_ret
    exact ⟨_, rfl, by rw [← HG'.out]; exact HV9.out, HE9.out⟩
  rcases Nat.eq_zero_or_pos b with rfl | hb
  · obtain ⟨ad, n, c, x, rfl, _, _, _, hc, hn⟩ := hu.first ha
    obtain ⟨B, d, rfl, hc', _⟩ := hv
    have h0 : (dig 0).length = 0 := by rw [dig_zero]; rfl
    rw [h0] at hc' HV ⊢
    have HG' : Aside (a = g) := ⟨by have := HG.out; rwa [Nat.gcd_zero_right] at this⟩
    have hne : ((n : Int) + 1 == 0) = false := beq_eq_false_iff_ne.2 (by omega)
    clear h0 hg hbl hn ha
    go_enter Tryz.func76, Tryz.ntmps76
    go_wp2_with (at_builtin; (refine copy_rv rfl _ _ rfl _ _ HU.out rfl rfl ?_; intro v1 w9 h9 e9; have HV9 := Aside.mk h9; have HE9 := Aside.mk e9; clear h9 e9))
    go_ret
    exact ⟨_, rfl, by rw [← HG'.out]; exact HV9.out, HE9.out⟩
  · obtain ⟨ad, n, c, x, rfl, _, _, _, hc, hn⟩ := hu.first ha
    obtain ⟨bd, n', c', x', rfl, _, _, _, hc', hn'⟩ := hv.first hb
    have hne : ((n : Int) + 1 == 0) = false := beq_eq_false_iff_ne.2 (by omega)
    have hne' : ((n' : Int) + 1 == 0) = false := beq_eq_false_iff_ne.2 (by omega)
    have HA := Aside.mk ha
    have HBB := Aside.mk hb
    obtain ⟨m, hm⟩ : ∃ m, blen b = m := ⟨_, rfl⟩
    have hmn : m ≤ 32 * (n' + 1) := by
      rw [← hm]
      apply blen_le.2
      have := lt_of_dig_length (show (dig b).length ≤ n' + 1 by omega)
      rwa [B_pow] at this
    have hn1 : n' + 1 ≤ 1073741823 := by omega
    have HM := Aside.mk hm
    have HBL : Aside (∀ z, z ≤ b → (dig z).length < 1073741824) := ⟨fun z hz => Nat.lt_of_le_of_lt (dig_len_mono hz) hbl⟩
    have HMN := Aside.mk hmn
    have HN1 := Aside.mk hn1
    have hm40 : m ≤ 68719476736 := by omega
    clear hg hbl hn hn' ha hb hm hmn hn1
    go_enter Tryz.func76, Tryz.ntmps76
    go_wp2
    go_loopg [0, 1, 5] a (fun X x y tw wr => ∃ (Y t : Nat), 0 < X ∧ 0 < Y ∧ t ≤ m ∧ tw = .int .i64 (t : Int) ∧ Aside (RV wr x (dig X)) ∧ Aside (RV wr y (dig Y)) ∧ Aside (Ext w wr) ∧ Aside (g = Nat.gcd X Y * 2 ^ t) ∧ Aside (Y * 2 ^ t ≤ b))
    case atStart => exact ⟨b, 0, HA.out, HBB.out, Nat.zero_le _, rfl, HU, HV, ⟨Ext.refl w⟩, ⟨by rw [HG.out]; simp⟩, ⟨by simp⟩⟩
    case round =>
      obtain ⟨Y, t, hX0, hY0, ht, rfl, HX, HY, HB, HS, HT⟩ := hrel
      obtain ⟨ad1, n1, c1, x1, rfl, hcx, hxm, hx4, hcn, _⟩ := HX.out.first hX0
      obtain ⟨bd1, n2, c2, y1, rfl, hcy, hym, hy4, hcn2, _⟩ := HY.out.first hY0
      have HX0 := Aside.mk hX0
      have HY0 := Aside.mk hY0
      have hyy : (((y1 % 2 : Nat) : Int) == 0) = decide (Y % 2 = 0) := by
        rw [hym]; by_cases h : Y % 2 = 0
        · simp [h]
        · rw [decide_eq_false h]; exact beq_eq_false_iff_ne.2 (by omega)
      have hcond : ¬ (gk % 2 = 0 ∧ Y % 2 = 0) ∨ (gk % 2 = 0 ∧ Y % 2 = 0) := (Decidable.em _).symm
      rcases Nat.mod_two_eq_zero_or_one gk with hxe | hxe
      · have hxb : (((x1 : Nat) : Int) % 2 == 0) = true := beq_iff_eq.2 (by omega)
        rcases Nat.mod_two_eq_zero_or_one Y with hye | hye
        · have hyb : (((y1 : Nat) : Int) % 2 == 0) = true := beq_iff_eq.2 (by omega)
          have HE := Aside.mk (gcd_halves hxe hye)
          have HYE : Aside (Y / 2 * 2 = Y ∧ 0 < Y / 2 ∧ 0 < gk / 2 ∧ gk / 2 < gk) := ⟨by omega⟩
          have hcy1 : ∀ w', Ext wr w' → w'.cell? bd1 = some (.int .u32 ((y1 : Nat) : Int)) := fun w' e => e.cell hcy
          clear hxe hye hxm hym hyy hcond hX0 hY0
          go_wp2_with (first | (go_at_call 127; with_reducible refine (rhalf_n HX.out).mono ?_; rintro e w1 ⟨r1, rfl, hr, he⟩; have HX1 := Aside.mk hr.rv; have HB1 := Aside.mk (HB.out.trans he); have HY1 := Aside.mk (HY.out.ext he); clear hr he) | (go_at_call 127; with_reducible refine (rhalf_n HY1.out).mono ?_; rintro e w2 ⟨r2, rfl, hr, he⟩; have HY2 := Aside.mk hr.rv; have HB2 := Aside.mk (HB1.out.trans he); have HX2 := Aside.mk (HX1.out.ext he); clear hr he))
          go_roundg (gk / 2)
          case measure => exact HYE.out.2.2.2
          case rel =>
            have hb2 : Y / 2 * 2 ^ (t + 1) ≤ b := by
              rw [Nat.pow_succ', ← Nat.mul_assoc, HYE.out.1]; exact HT.out
            refine ⟨Y / 2, t + 1, HYE.out.2.2.1, HYE.out.2.1, ?_, by go_num, HX2, HY2, HB2, ⟨by rw [HS.out, HE.out, Nat.pow_succ', ← Nat.mul_assoc, Nat.mul_comm (Nat.gcd (gk / 2) (Y / 2)) 2]⟩, ⟨hb2⟩⟩
            have h1 : 2 ^ (t + 1) ≤ b := Nat.le_trans (Nat.le_mul_of_pos_left _ HYE.out.2.1) hb2
            have h2 : ¬ blen b ≤ t + 1 := fun h => by have := blen_le.1 h; omega
            rw [HM.out] at h2; omega
        · have hyb : (((y1 : Nat) : Int) % 2 == 0) = false := beq_eq_false_iff_ne.2 (by omega)
          have hodd : Nat.gcd gk Y % 2 = 1 := gcd_odd (by omega)
          obtain ⟨h, hh⟩ : ∃ h, Nat.gcd gk Y = h := ⟨_, rfl⟩
          rw [hh] at hodd HS
          have HH := Aside.mk hh
          have HO := Aside.mk hodd
          have HHB : Aside (h * 2 ^ t ≤ b) := ⟨Nat.le_trans (Nat.mul_le_mul_right _ (by rw [← hh]; exact Nat.le_of_dvd hY0 (Nat.gcd_dvd_right _ _))) HT.out⟩
          clear hodd hh hxe hxm hym hyy hcond hX0 hY0
          go_wp2
          go_loopg [0, 1] (gk + Y) (fun k x y wr2 => ∃ (X2 Y2 : Nat), k = X2 + Y2 ∧ 0 < X2 ∧ Aside (RV wr2 x (dig X2)) ∧ Aside (RV wr2 y (dig Y2)) ∧ Aside (Ext w wr2) ∧ Aside (Nat.gcd X2 Y2 = h))
          case atStart => exact ⟨gk, Y, rfl, HX0.out, HX, HY, HB, HH⟩
          case round =>
            obtain ⟨gk2, ek2⟩ : ∃ z, z = gk := ⟨_, rfl⟩
            subst ek2
            obtain ⟨wr2, ew2⟩ : ∃ z, z = wr := ⟨_, rfl⟩
            subst ew2
            obtain ⟨X2, Y2, hk2, hX2, HX2, HY2, HB2, HH2⟩ := hrel
            obtain ⟨K, hK⟩ : ∃ K, K = X2 + Y2 := ⟨_, rfl⟩
            have HK2 := Aside.mk hk2
            have HXP := Aside.mk hX2
            clear hk2 hX2 hK
            rcases Nat.eq_zero_or_pos Y2 with rfl | hY2
            · obtain ⟨A2, c2', rfl, _⟩ := HX2.out
              obtain ⟨B2, d2, rfl, _⟩ := HY2.out
              have h0 : (dig 0).length = 0 := by rw [dig_zero]; rfl
              rw [h0]
              have HXH : Aside (X2 = h) := ⟨by have := HH2.out; rwa [Nat.gcd_zero_right] at this⟩
              rw [HXH.out] at HX2 ⊢
              clear h0
              go_wp2
              go_loopw [0, 7] (fun x i wr3 => ∃ k : Nat, k ≤ t ∧ i = .int .i64 (k : Int) ∧ Aside (RV wr3 x (dig (h * 2 ^ k))) ∧ Aside (Ext w wr3)) (fun _ i _ => t - (intOf i).toNat)
              case atStart => exact ⟨0, Nat.zero_le _, rfl, ⟨by simpa using HX2.out⟩, HB2⟩
              case round =>
                obtain ⟨k, hk, rfl, HX3, HB3⟩ := hrel
                by_cases hkt : k < t
                · have HLEN : Aside ((dig (h * 2 ^ k)).length < 1073741824) := ⟨HBL.out _ (Nat.le_trans (Nat.mul_le_mul_left _ (Nat.pow_le_pow_right (by decide) hk)) HHB.out)⟩
                  have HTW : Aside (2 * (h * 2 ^ k) + 0 = h * 2 ^ (k + 1)) := ⟨by rw [Nat.add_zero, Nat.pow_succ', Nat.mul_left_comm]⟩
                  go_wp2_with (go_at_call 129; with_reducible refine (rtwice_0 HX3.out HLEN.out HTW.out).mono ?_; rintro e w5 ⟨r5, rfl, hr, he⟩; have HX5 := Aside.mk hr.rv; have HB5 := Aside.mk (HB3.out.trans he); clear hr he)
                  go_roundw
                  case rel => exact ⟨k + 1, by omega, by go_num, HX5, HB5⟩
                  case measure => simp [intOf]; omega
                · have hkt' : k = t := by omega
                  subst hkt'
                  rw [← HS.out] at HX3
                  go_wp2_with (at_builtin; (refine copy_rv rfl _ _ rfl _ _ HX3.out rfl rfl ?_; intro v1 w9 h9 e9; have HV9 := Aside.mk h9; have HE9 := Aside.mk e9; clear h9 e9))
                  go_ret
                  exact ⟨_, rfl, HV9.out.mono HB3.out.size, HB3.out.trans HE9.out⟩
            · have HYP := Aside.mk hY2
              obtain ⟨bd2, n3, c3, y2, rfl, hcy2, _, _, hcn3, _⟩ := HY2.out.first hY2
              clear hY2
              go_wp2
              go_loopg [0] X2 (fun k x wr3 => 0 < k ∧ k ≤ X2 ∧ Aside (RV wr3 x (dig k)) ∧ Aside (RV wr3 (.slice (some bd2) (n3 + 1) c3) (dig Y2)) ∧ Aside (Ext w wr3) ∧ Aside (Nat.gcd k Y2 = h))
              case atStart => exact ⟨HXP.out, Nat.le_refl _, HX2, HY2, HB2, HH2⟩
              case round =>
                obtain ⟨gk3, ek3⟩ : ∃ z, z = gk := ⟨_, rfl⟩
                subst ek3
                obtain ⟨wr3, ew3⟩ : ∃ z, z = wr := ⟨_, rfl⟩
                subst ew3
                obtain ⟨hk0, hkX, HX3, HY3, HB3, HH3⟩ := hrel
                obtain ⟨ad3, n4, c4, x3, rfl, hcx3, hxm3, hx43, hcn4, _⟩ := HX3.out.first hk0
                have HKX := Aside.mk hkX
                have HK0 := Aside.mk hk0
                rcases Nat.mod_two_eq_zero_or_one gk3 with hx | hx
                · have hxb3 : (((x3 : Nat) : Int) % 2 == 0) = true := beq_iff_eq.2 (by omega)
                  have HQ : Aside (0 < gk3 / 2 ∧ gk3 / 2 ≤ X2 ∧ gk3 / 2 < gk3) := ⟨by omega⟩
                  have HH4 := Aside.mk (gcd_half_left HH3.out HO.out hx)
                  clear hx hk0 hkX hxm3
                  go_wp2_with (go_at_call 127; with_reducible refine (rhalf_n HX3.out).mono ?_; rintro e w5 ⟨r5, rfl, hr, he⟩; have HX5 := Aside.mk hr.rv; have HB5 := Aside.mk (HB3.out.trans he); have HY5 := Aside.mk (HY3.out.ext he); clear hr he)
                  go_roundg (gk3 / 2)
                  case measure => exact HQ.out.2.2
                  case rel => exact ⟨HQ.out.1, HQ.out.2.1, HX5, HY5, HB5, HH4⟩
                · have hxb3 : (((x3 : Nat) : Int) % 2 == 0) = false := beq_eq_false_iff_ne.2 (by omega)
                  clear hx hk0 hkX hxm3
                  go_wp2
                  go_loopg [1] Y2 (fun k y wr4 => 0 < k ∧ k ≤ Y2 ∧ Aside (RV wr4 y (dig k)) ∧ Aside (RV wr4 (.slice (some ad3) (n4 + 1) c4) (dig gk3)) ∧ Aside (Ext w wr4) ∧ Aside (Nat.gcd gk3 k = h))
                  case atStart => exact ⟨HYP.out, Nat.le_refl _, HY3, HX3, HB3, HH3⟩
                  case round =>
                    obtain ⟨gk4, ek4⟩ : ∃ z, z = gk := ⟨_, rfl⟩
                    subst ek4
                    obtain ⟨wr4, ew4⟩ : ∃ z, z = wr := ⟨_, rfl⟩
                    subst ew4
                    obtain ⟨hk04, hkY, HY4, HX4, HB4, HH4⟩ := hrel
                    obtain ⟨bd4, n5, c5, y4, rfl, hcy4, hym4, hy44, hcn5, _⟩ := HY4.out.first hk04
                    have HKY := Aside.mk hkY
                    rcases Nat.mod_two_eq_zero_or_one gk4 with hy | hy
                    · have hyb4 : (((y4 : Nat) : Int) % 2 == 0) = true := beq_iff_eq.2 (by omega)
                      have HQ : Aside (0 < gk4 / 2 ∧ gk4 / 2 ≤ Y2 ∧ gk4 / 2 < gk4) := ⟨by omega⟩
                      have HH5 := Aside.mk (gcd_half_right HH4.out HO.out hy)
                      clear hy hk04 hkY hym4
                      go_wp2_with (go_at_call 127; with_reducible refine (rhalf_n HY4.out).mono ?_; rintro e w5 ⟨r5, rfl, hr, he⟩; have HY5 := Aside.mk hr.rv; have HB5 := Aside.mk (HB4.out.trans he); have HX5 := Aside.mk (HX4.out.ext he); clear hr he)
                      go_roundg (gk4 / 2)
                      case measure => exact HQ.out.2.2
                      case rel => exact ⟨HQ.out.1, HQ.out.2.1, HY5, HX5, HB5, HH5⟩
                    · have hyb4 : (((y4 : Nat) : Int) % 2 == 0) = false := beq_eq_false_iff_ne.2 (by omega)
                      have HK4 := Aside.mk hk04
                      have hcg := @cmpN_gt gk3 gk4
                      clear hy hk04 hkY hym4
                      rcases Nat.lt_or_ge gk4 gk3 with hgt | hle
                      · have hcf : decide ((0 : Int) < cmpN gk3 gk4) = true := by rw [hcg]; simp; omega
                        have HGT := Aside.mk hgt
                        clear hcg hgt
                        go_wp2_with (first | (go_at_call 120; with_reducible refine (rcompare_calls HX4.out HY4.out).mono ?_; rintro e w5 ⟨rfl, he⟩; have HE5 := Aside.mk (Ext.of_drewN he); have HX5 := Aside.mk (HX4.out.ext HE5.out); have HY5 := Aside.mk (HY4.out.ext HE5.out); have HB5 := Aside.mk (HB4.out.trans HE5.out); clear he) | (go_at_call 128; with_reducible refine (rsub_n HX5.out HY5.out (Nat.le_of_lt HGT.out)).mono ?_; rintro e w6 ⟨r6, rfl, hr, he⟩; have HZ6 := Aside.mk hr.rv; have HY6 := Aside.mk (HY5.out.ext he); have HB6 := Aside.mk (HB5.out.trans he); clear hr he))
                        go_roundg (gk4 + (gk3 - gk4))
                        case measure => have := HK2.out; have := HGT.out; have := HKX.out; have := HYP.out; omega
                        case rel => exact ⟨gk4, gk3 - gk4, rfl, HK4.out, HY6, HZ6, HB6, ⟨by rw [← HH4.out, Nat.gcd_comm gk3 gk4]; exact Nat.gcd_sub_self_right (Nat.le_of_lt HGT.out)⟩⟩
                      · have hcf : decide ((0 : Int) < cmpN gk3 gk4) = false := by rw [hcg]; simp; omega
                        have HLE := Aside.mk hle
                        clear hcg hle
                        go_wp2_with (first | (go_at_call 120; with_reducible refine (rcompare_calls HX4.out HY4.out).mono ?_; rintro e w5 ⟨rfl, he⟩; have HE5 := Aside.mk (Ext.of_drewN he); have HX5 := Aside.mk (HX4.out.ext HE5.out); have HY5 := Aside.mk (HY4.out.ext HE5.out); have HB5 := Aside.mk (HB4.out.trans HE5.out); clear he) | (go_at_call 128; with_reducible refine (rsub_n HY5.out HX5.out HLE.out).mono ?_; rintro e w6 ⟨r6, rfl, hr, he⟩; have HZ6 := Aside.mk hr.rv; have HX6 := Aside.mk (HX5.out.ext he); have HB6 := Aside.mk (HB5.out.trans he); clear hr he))
                        go_roundg (gk3 + (gk4 - gk3))
                        case measure => have := HK2.out; have := HLE.out; have := HKY.out; have := HXP.out; omega
                        case rel => exact ⟨gk3, gk4 - gk3, rfl, HK0.out, HX6, HZ6, HB6, ⟨gcd_sub HH4.out HLE.out⟩⟩
      · have hxb : (((x1 : Nat) : Int) % 2 == 0) = false := beq_eq_false_iff_ne.2 (by omega)
        have hodd : Nat.gcd gk Y % 2 = 1 := gcd_odd (by omega)
        obtain ⟨h, hh⟩ : ∃ h, Nat.gcd gk Y = h := ⟨_, rfl⟩
        rw [hh] at hodd HS
        have HH := Aside.mk hh
        have HO := Aside.mk hodd
        have HHB : Aside (h * 2 ^ t ≤ b) := ⟨Nat.le_trans (Nat.mul_le_mul_right _ (by rw [← hh]; exact Nat.le_of_dvd hY0 (Nat.gcd_dvd_right _ _))) HT.out⟩
        clear hodd hh hxe hxm hym hyy hcond hX0 hY0
        go_wp2
        go_loopg [0, 1] (gk + Y) (fun k x y wr2 => ∃ (X2 Y2 : Nat), k = X2 + Y2 ∧ 0 < X2 ∧ Aside (RV wr2 x (dig X2)) ∧ Aside (RV wr2 y (dig Y2)) ∧ Aside (Ext w wr2) ∧ Aside (Nat.gcd X2 Y2 = h))
        case atStart => exact ⟨gk, Y, rfl, HX0.out, HX, HY, HB, HH⟩
        case round =>
          obtain ⟨gk2, ek2⟩ : ∃ z, z = gk := ⟨_, rfl⟩
          subst ek2
          obtain ⟨wr2, ew2⟩ : ∃ z, z = wr := ⟨_, rfl⟩
          subst ew2
          obtain ⟨X2, Y2, hk2, hX2, HX2, HY2, HB2, HH2⟩ := hrel
          obtain ⟨K, hK⟩ : ∃ K, K = X2 + Y2 := ⟨_, rfl⟩
          have HK2 := Aside.mk hk2
          have HXP := Aside.mk hX2
          clear hk2 hX2 hK
          rcases Nat.eq_zero_or_pos Y2 with rfl | hY2
          · obtain ⟨A2, c2', rfl, _⟩ := HX2.out
            obtain ⟨B2, d2, rfl, _⟩ := HY2.out
            have h0 : (dig 0).length = 0 := by rw [dig_zero]; rfl
            rw [h0]
            have HXH : Aside (X2 = h) := ⟨by have := HH2.out; rwa [Nat.gcd_zero_right] at this⟩
            rw [HXH.out] at HX2 ⊢
            clear h0
            go_wp2
            go_loopw [0, 7] (fun x i wr3 => ∃ k : Nat, k ≤ t ∧ i = .int .i64 (k : Int) ∧ Aside (RV wr3 x (dig (h * 2 ^ k))) ∧ Aside (Ext w wr3)) (fun _ i _ => t - (intOf i).toNat)
            case atStart => exact ⟨0, Nat.zero_le _, rfl, ⟨by simpa using HX2.out⟩, HB2⟩
            case round =>
              obtain ⟨k, hk, rfl, HX3, HB3⟩ := hrel
              by_cases hkt : k < t
              · have HLEN : Aside ((dig (h * 2 ^ k)).length < 1073741824) := ⟨HBL.out _ (Nat.le_trans (Nat.mul_le_mul_left _ (Nat.pow_le_pow_right (by decide) hk)) HHB.out)⟩
                have HTW : Aside (2 * (h * 2 ^ k) + 0 = h * 2 ^ (k + 1)) := ⟨by rw [Nat.add_zero, Nat.pow_succ', Nat.mul_left_comm]⟩
                go_wp2_with (go_at_call 129; with_reducible refine (rtwice_0 HX3.out HLEN.out HTW.out).mono ?_; rintro e w5 ⟨r5, rfl, hr, he⟩; have HX5 := Aside.mk hr.rv; have HB5 := Aside.mk (HB3.out.trans he); clear hr he)
                go_roundw
                case rel => exact ⟨k + 1, by omega, by go_num, HX5, HB5⟩
                case measure => simp [intOf]; omega
              · have hkt' : k = t := by omega
                subst hkt'
                rw [← HS.out] at HX3
                go_wp2_with (at_builtin; (refine copy_rv rfl _ _ rfl _ _ HX3.out rfl rfl ?_; intro v1 w9 h9 e9; have HV9 := Aside.mk h9; have HE9 := Aside.mk e9; clear h9 e9))
                go_ret
                exact ⟨_, rfl, HV9.out.mono HB3.out.size, HB3.out.trans HE9.out⟩
          · have HYP := Aside.mk hY2
            obtain ⟨bd2, n3, c3, y2, rfl, hcy2, _, _, hcn3, _⟩ := HY2.out.first hY2
            clear hY2
            go_wp2
            go_loopg [0] X2 (fun k x wr3 => 0 < k ∧ k ≤ X2 ∧ Aside (RV wr3 x (dig k)) ∧ Aside (RV wr3 (.slice (some bd2) (n3 + 1) c3) (dig Y2)) ∧ Aside (Ext w wr3) ∧ Aside (Nat.gcd k Y2 = h))
            case atStart => exact ⟨HXP.out, Nat.le_refl _, HX2, HY2, HB2, HH2⟩
            case round =>
              obtain ⟨gk3, ek3⟩ : ∃ z, z = gk := ⟨_, rfl⟩
              subst ek3
              obtain ⟨wr3, ew3⟩ : ∃ z, z = wr := ⟨_, rfl⟩
              subst ew3
              obtain ⟨hk0, hkX, HX3, HY3, HB3, HH3⟩ := hrel
              obtain ⟨ad3, n4, c4, x3, rfl, hcx3, hxm3, hx43, hcn4, _⟩ := HX3.out.first hk0
              have HKX := Aside.mk hkX
              have HK0 := Aside.mk hk0
              rcases Nat.mod_two_eq_zero_or_one gk3 with hx | hx
              · have hxb3 : (((x3 : Nat) : Int) % 2 == 0) = true := beq_iff_eq.2 (by omega)
                have HQ : Aside (0 < gk3 / 2 ∧ gk3 / 2 ≤ X2 ∧ gk3 / 2 < gk3) := ⟨by omega⟩
                have HH4 := Aside.mk (gcd_half_left HH3.out HO.out hx)
                clear hx hk0 hkX hxm3
                go_wp2_with (go_at_call 127; with_reducible refine (rhalf_n HX3.out).mono ?_; rintro e w5 ⟨r5, rfl, hr, he⟩; have HX5 := Aside.mk hr.rv; have HB5 := Aside.mk (HB3.out.trans he); have HY5 := Aside.mk (HY3.out.ext he); clear hr he)
                go_roundg (gk3 / 2)
                case measure => exact HQ.out.2.2
                case rel => exact ⟨HQ.out.1, HQ.out.2.1, HX5, HY5, HB5, HH4⟩
              · have hxb3 : (((x3 : Nat) : Int) % 2 == 0) = false := beq_eq_false_iff_ne.2 (by omega)
                clear hx hk0 hkX hxm3
                go_wp2
                go_loopg [1] Y2 (fun k y wr4 => 0 < k ∧ k ≤ Y2 ∧ Aside (RV wr4 y (dig k)) ∧ Aside (RV wr4 (.slice (some ad3) (n4 + 1) c4) (dig gk3)) ∧ Aside (Ext w wr4) ∧ Aside (Nat.gcd gk3 k = h))
                case atStart => exact ⟨HYP.out, Nat.le_refl _, HY3, HX3, HB3, HH3⟩
                case round =>
                  obtain ⟨gk4, ek4⟩ : ∃ z, z = gk := ⟨_, rfl⟩
                  subst ek4
                  obtain ⟨wr4, ew4⟩ : ∃ z, z = wr := ⟨_, rfl⟩
                  subst ew4
                  obtain ⟨hk04, hkY, HY4, HX4, HB4, HH4⟩ := hrel
                  obtain ⟨bd4, n5, c5, y4, rfl, hcy4, hym4, hy44, hcn5, _⟩ := HY4.out.first hk04
                  have HKY := Aside.mk hkY
                  rcases Nat.mod_two_eq_zero_or_one gk4 with hy | hy
                  · have hyb4 : (((y4 : Nat) : Int) % 2 == 0) = true := beq_iff_eq.2 (by omega)
                    have HQ : Aside (0 < gk4 / 2 ∧ gk4 / 2 ≤ Y2 ∧ gk4 / 2 < gk4) := ⟨by omega⟩
                    have HH5 := Aside.mk (gcd_half_right HH4.out HO.out hy)
                    clear hy hk04 hkY hym4
                    go_wp2_with (go_at_call 127; with_reducible refine (rhalf_n HY4.out).mono ?_; rintro e w5 ⟨r5, rfl, hr, he⟩; have HY5 := Aside.mk hr.rv; have HB5 := Aside.mk (HB4.out.trans he); have HX5 := Aside.mk (HX4.out.ext he); clear hr he)
                    go_roundg (gk4 / 2)
                    case measure => exact HQ.out.2.2
                    case rel => exact ⟨HQ.out.1, HQ.out.2.1, HY5, HX5, HB5, HH5⟩
                  · have hyb4 : (((y4 : Nat) : Int) % 2 == 0) = false := beq_eq_false_iff_ne.2 (by omega)
                    have HK4 := Aside.mk hk04
                    have hcg := @cmpN_gt gk3 gk4
                    clear hy hk04 hkY hym4
                    rcases Nat.lt_or_ge gk4 gk3 with hgt | hle
                    · have hcf : decide ((0 : Int) < cmpN gk3 gk4) = true := by rw [hcg]; simp; omega
                      have HGT := Aside.mk hgt
                      clear hcg hgt
                      go_wp2_with (first | (go_at_call 120; with_reducible refine (rcompare_calls HX4.out HY4.out).mono ?_; rintro e w5 ⟨rfl, he⟩; have HE5 := Aside.mk (Ext.of_drewN he); have HX5 := Aside.mk (HX4.out.ext HE5.out); have HY5 := Aside.mk (HY4.out.ext HE5.out); have HB5 := Aside.mk (HB4.out.trans HE5.out); clear he) | (go_at_call 128; with_reducible refine (rsub_n HX5.out HY5.out (Nat.le_of_lt HGT.out)).mono ?_; rintro e w6 ⟨r6, rfl, hr, he⟩; have HZ6 := Aside.mk hr.rv; have HY6 := Aside.mk (HY5.out.ext he); have HB6 := Aside.mk (HB5.out.trans he); clear hr he))
                      go_roundg (gk4 + (gk3 - gk4))
                      case measure => have := HK2.out; have := HGT.out; have := HKX.out; have := HYP.out; omega
                      case rel => exact ⟨gk4, gk3 - gk4, rfl, HK4.out, HY6, HZ6, HB6, ⟨by rw [← HH4.out, Nat.gcd_comm gk3 gk4]; exact Nat.gcd_sub_self_right (Nat.le_of_lt HGT.out)⟩⟩
                    · have hcf : decide ((0 : Int) < cmpN gk3 gk4) = false := by rw [hcg]; simp; omega
                      have HLE := Aside.mk hle
                      clear hcg hle
                      go_wp2_with (first | (go_at_call 120; with_reducible refine (rcompare_calls HX4.out HY4.out).mono ?_; rintro e w5 ⟨rfl, he⟩; have HE5 := Aside.mk (Ext.of_drewN he); have HX5 := Aside.mk (HX4.out.ext HE5.out); have HY5 := Aside.mk (HY4.out.ext HE5.out); have HB5 := Aside.mk (HB4.out.trans HE5.out); clear he) | (go_at_call 128; with_reducible refine (rsub_n HY5.out HX5.out HLE.out).mono ?_; rintro e w6 ⟨r6, rfl, hr, he⟩; have HZ6 := Aside.mk hr.rv; have HX6 := Aside.mk (HX5.out.ext he); have HB6 := Aside.mk (HB5.out.trans he); clear hr he))
                      go_roundg (gk3 + (gk4 - gk3))
                      case measure => have := HK2.out; have := HLE.out; have := HKY.out; have := HXP.out; omega
                      case rel => exact ⟨gk3, gk4 - gk3, rfl, HK0.out, HX6, HZ6, HB6, ⟨gcd_sub HH4.out HLE.out⟩⟩
end Go.Proofs.YtgfkachfbnbikaaGreatDoor
