/- Contracts of package nat: gcd, form, IsNat, Of, size, Bits. -/
import Derived.Test.YtgfkachfbnbikaaGreatDoorNatF
namespace Go.Proofs.YtgfkachfbnbikaaGreatDoor
open Go.RowKit

theorem RV.uniq {w : World} {v : Value} {xs ys : List Nat} (h : RV w v xs) (k : RV w v ys) : xs = ys := by
  obtain ⟨A, c, rfl, _, _, h4⟩ := h
  obtain ⟨A', c', e, _, _, k4⟩ := k
  injection e with e1 e2 e3
  subst e1
  apply List.ext_getElem e2
  intro j hj hj'
  obtain ⟨ad, ha, hc⟩ := h4.at32 j hj
  obtain ⟨ad', ha', hc'⟩ := k4.at32 j hj'
  rw [ha] at ha'
  cases ha'
  rw [hc] at hc'
  simp only [Option.some.injEq, Value.int.injEq, true_and, List.getD_eq_getElem?_getD, List.getElem?_eq_getElem hj, List.getElem?_eq_getElem hj', Option.getD_some] at hc'
  omega

open Classical in
/-- The number that a slice of digits is. -/
noncomputable def numOf (w : World) (v : Value) : Nat := if h : ∃ b, RV w v (dig b) then h.choose else 0
theorem numOf_eq {w : World} {v : Value} {b : Nat} (h : RV w v (dig b)) : numOf w v = b := by
  have h' : ∃ b, RV w v (dig b) := ⟨b, h⟩
  unfold numOf
  rw [dif_pos h']
  exact dig_inj (RV.uniq h'.choose_spec h)

theorem dig_len_mono {a b : Nat} (h : a ≤ b) : (dig a).length ≤ (dig b).length := dig_length_le (Nat.lt_of_le_of_lt h (lt_of_dig_length (Nat.le_refl _)))

set_option maxHeartbeats 400000 in
/-- gcd is the greatest common divisor. -/
theorem gcd_calls {w : World} {u v : Value} {a b : Nat} (hu : RV w u (dig a)) (hv : RV w v (dig b)) (hla : (dig a).length < 1073741823) (hlb : (dig b).length < 1073741823) :
    Calls Tryz.prog 153 #[u, v] w fun e w' => ∃ r, e = .returned r ∧ OV w.heap.size w' r (dig (Nat.gcd a b)) ∧ Ext w w' := by
  have H0 : Aside (RV w u (dig a) ∧ RV w v (dig b) ∧ (dig a).length < 1073741823 ∧ (dig b).length < 1073741823) := ⟨hu, hv, hla, hlb⟩
  clear hu hv hla hlb
  go_enter Tryz.func153, Tryz.ntmps153
  go_wp2
  go_loopw [0, 1] (fun x y wr => ∃ a' b' : Nat, Aside (RV wr x (dig a') ∧ RV wr y (dig b') ∧ (dig a').length < 1073741823 ∧ (dig b').length < 1073741823) ∧ Aside (Nat.gcd a' b' = Nat.gcd a b) ∧ Aside (Ext w wr)) (fun _ y wr => numOf wr y)
  case atStart => exact ⟨a, b, H0, ⟨rfl⟩, ⟨Ext.refl w⟩⟩
  case round =>
    obtain ⟨a', b', H, HG, HE⟩ := hrel
    obtain ⟨B, d, rfl, hdc, hdd, hdr⟩ := id H.out.2.1
    have hl1 : (dig b').length ≤ 1073741824 := hdd.1
    clear hdd hdr
    rcases Nat.eq_zero_or_pos b' with rfl | hb
    · have hz : (dig 0).length = 0 := by rw [dig_zero]; rfl
      have HZ : Aside (a' = Nat.gcd a b) := ⟨by rw [← HG.out, Nat.gcd_zero_right]⟩
      go_wp2_with (go_at_call 124; refine (clone_calls H.out.1).mono ?_; rintro e w' ⟨r, rfl, hr, he⟩; have HO := Aside.mk hr; have HE1 := Aside.mk he; clear hr he)
      go_ret
      exact ⟨r, rfl, by rw [← HZ.out]; exact HO.out.mono HE.out.size, HE.out.trans HE1.out⟩
    · obtain ⟨z, hz⟩ : ∃ z, (dig b').length = z := ⟨_, rfl⟩
      have hz0 : 0 < z := by
        rcases Nat.eq_zero_or_pos z with h0 | h0
        · rw [h0] at hz
          have := dig_nil_iff.1 (List.eq_nil_of_length_eq_zero hz)
          omega
        · exact h0
      have H' := H
      rw [hz] at hdc hl1 H'
      have HZ := Aside.mk hz
      have HB := Aside.mk hb
      rw [hz]
      clear hz hb H
      go_wp2_with (go_at_call 148; refine (div_calls (b := b') (a := a') H'.out.1 (by have := H'.out.2.1; exact this) HB.out H'.out.2.2.1 (by have := H'.out.2.2.2; rw [HZ.out]; exact this)).mono ?_; rintro e w1 ⟨q, r, rfl, hq, hr, he⟩; have HR := Aside.mk hr; have HE1 := Aside.mk he; clear hq hr he)
      go_roundw
      case rel =>
        refine ⟨b', a' % b', ⟨H'.out.2.1.ext HE1.out, HR.out.rv, by rw [HZ.out]; exact H'.out.2.2.2, ?_⟩, ⟨?_⟩, ⟨HE.out.trans HE1.out⟩⟩
        · exact Nat.lt_of_le_of_lt (dig_len_mono (Nat.le_of_lt (Nat.mod_lt _ HB.out))) (by rw [HZ.out]; exact H'.out.2.2.2)
        · rw [← HG.out, Nat.gcd_comm, ← Nat.gcd_rec, Nat.gcd_comm]
      case measure =>
        rw [numOf_eq HR.out.rv, numOf_eq H'.out.2.1]
        exact Nat.mod_lt _ HB.out

/-- The error of a list that is to be a natural number. -/
def natErr (xs : List Nat) : Nat := if 512 < xs.length then 3 else if 0 < xs.length ∧ xs.getD (xs.length - 1) 0 = 0 then 5 else 0
/-- The first error of some. -/
def natErrs : List (List Nat) → Nat
  | [] => 0
  | xs :: ls => if natErr xs = 0 then natErrs ls else natErr xs

theorem natErrs_drop (ls : List (List Nat)) (k : Nat) (h : k < ls.length) : natErrs (ls.drop k) = if natErr (ls.getD k []) = 0 then natErrs (ls.drop (k + 1)) else natErr (ls.getD k []) := by
  rw [List.drop_eq_getElem_cons h, natErrs, List.getD_eq_getElem?_getD, List.getElem?_eq_getElem h]; rfl

set_option maxHeartbeats 800000 in
/-- form looks at numbers. -/
theorem form_calls {w : World} {A : Addr} {n c : Nat} {ls : List (List Nat)} (hl : ls.length = n) (hn : n ≤ 1000) (hc : n ≤ c) (hv : ∀ j, j < n → ∃ v, w.cell? (A.add j) = some v ∧ RV w v (ls.getD j [])) :
    Calls Tryz.prog 122 #[.slice (some A) n c] w fun e w' => e = .returned (.int .i64 (natErrs ls : Int)) ∧ w = w' := by
  have HV := Aside.mk hv
  have HL := Aside.mk hl
  clear hv hl
  go_enter Tryz.func122, Tryz.ntmps122
  go_wp2
  go_loop [7] (fun i => ∃ k : Nat, k ≤ n ∧ i = .int .i64 (k : Int) ∧ Aside (natErrs (ls.drop k) = natErrs ls)) (fun i => n - (intOf i).toNat)
  case atStart => exact ⟨0, by omega, rfl, ⟨by simp⟩⟩
  case round =>
    obtain ⟨k, hk, rfl, HK⟩ := hrel
    rcases Nat.lt_or_ge k n with hkn | hkn
    · obtain ⟨v, hcell, hrv⟩ := HV.out k hkn
      obtain ⟨xs, hxs⟩ : ∃ xs, ls.getD k [] = xs := ⟨_, rfl⟩
      rw [hxs] at hrv
      have HD : Aside (natErrs (ls.drop k) = if natErr xs = 0 then natErrs (ls.drop (k + 1)) else natErr xs) := ⟨by rw [natErrs_drop ls k (by rw [HL.out]; exact hkn), hxs]⟩
      obtain ⟨B, d, rfl, hdc, hdd, hdr⟩ := hrv
      have hl1 : xs.length ≤ 1073741824 := hdd.1
      have HRV := Aside.mk hdr
      obtain ⟨m, hm⟩ : ∃ m, xs.length = m := ⟨_, rfl⟩
      have hne : natErr xs = if 512 < m then 3 else if 0 < m ∧ xs.getD (m - 1) 0 = 0 then 5 else 0 := by rw [natErr, hm]
      rw [hm] at hcell hdc hl1
      have HM := Aside.mk hm
      clear hdd hdr hm
      rcases Nat.lt_or_ge 512 m with h512 | h512
      · have HE : Aside ((natErr xs : Int) = 3) := ⟨by rw [hne, if_pos h512]; rfl⟩
        clear hne hxs
        go_wp2
        go_ret
        refine ⟨?_, rfl⟩
        show Ending.returned (.int .i64 3) = _
        rw [← HK.out, HD.out, if_neg (by have := HE.out; omega), HE.out]
      · rcases Nat.eq_zero_or_pos m with rfl | h0
        · have HE : Aside (natErr xs = 0) := ⟨by rw [hne, if_neg (by omega), if_neg (by omega)]⟩
          clear hne hxs
          go_wp2
          go_round
          case rel => exact ⟨k + 1, hkn, by simp, ⟨by rw [← HK.out, HD.out, if_pos HE.out]⟩⟩
          case measure => simp [intOf]; omega
        · obtain ⟨z, hz⟩ : ∃ z, m = z + 1 := ⟨m - 1, by omega⟩
          obtain ⟨t, ht⟩ : ∃ t, xs.getD z 0 = t := ⟨_, rfl⟩
          obtain ⟨bd, rfl, hcl⟩ := Rd.at32 HRV.out z (by rw [HM.out]; omega)
          rw [ht] at hcl
          have hlen : (m : Int) - 1 = (z : Int) := by omega
          have hzl : z < m := by omega
          have HT : Aside (natErr xs = if t = 0 then 5 else 0) := ⟨by
            rw [hne, if_neg (by omega), hz, show z + 1 - 1 = z from rfl, ht]
            simp⟩
          clear hne hxs hz ht
          rcases Nat.eq_zero_or_pos t with rfl | ht0
          · have HE : Aside ((natErr xs : Int) = 5) := ⟨by rw [HT.out, if_pos rfl]; rfl⟩
            go_wp2
            go_ret
            refine ⟨?_, rfl⟩
            show Ending.returned (.int .i64 5) = _
            rw [← HK.out, HD.out, if_neg (by have := HE.out; omega), HE.out]
          · have HE : Aside (natErr xs = 0) := ⟨by rw [HT.out, if_neg (by omega)]⟩
            have ht1 : ((t : Int) == 0) = false := by simp; omega
            go_wp2
            go_round
            case rel => exact ⟨k + 1, hkn, by simp, ⟨by rw [← HK.out, HD.out, if_pos HE.out]⟩⟩
            case measure => simp [intOf]; omega
    · obtain rfl : k = n := by omega
      have HE : Aside ((natErrs ls : Int) = 0) := ⟨by rw [← HK.out, List.drop_of_length_le (by rw [HL.out]; omega)]; rfl⟩
      go_wp2
      go_ret
      exact ⟨by rw [HE.out]; rfl, rfl⟩

end Go.Proofs.YtgfkachfbnbikaaGreatDoor
