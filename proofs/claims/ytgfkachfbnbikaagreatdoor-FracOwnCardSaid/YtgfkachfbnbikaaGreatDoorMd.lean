/- Contracts of package nat: gcd, form, IsNat, Of, size, Bits. Contracts of package nat: IsNat, Of, Bits, Add, Sub, Mul, Compare, Div, Gcd. Contracts of package nat: Of, Add, Sub, Mul, Compare, Div, Gcd, for natural numbers of at most 512 digits. -/
import Derived.Test.YtgfkachfbnbikaaGreatDoorMc
import Derived.Test.YtgfkachfbnbikaaGreatDoorMb
namespace Go.Proofs.YtgfkachfbnbikaaGreatDoor
open Go.RowKit

theorem RV.uniq {w : World} {v : Value} {xs ys : List Nat} (h : RV w v xs) (k : RV w v ys) : xs = ys := by
  obtain ⟨A, c, rfl, _, _, h4⟩ := h
  obtain ⟨A', c', e, _, _, k4⟩ := k
  injection e with e1 e2 e3
  subst e1
  apply List.ext_getElem e2
  intro j hj hj'
  obtain ⟨ad, ha, hc⟩ := h4.at32 j hj
  obtain ⟨ad', ha', hc'⟩ := k4.at32 j hj'
  rw [ha] at ha'
  cases ha'
  rw [hc] at hc'
  simp only [Option.some.injEq, Value.int.injEq, true_and, List.getD_eq_getElem?_getD, List.getElem?_eq_getElem hj, List.getElem?_eq_getElem hj', Option.getD_some] at hc'
  omega

open Classical in
/-- The number that a slice of digits is. -/
noncomputable def numOf (w : World) (v : Value) : Nat := if h : ∃ b, RV w v (dig b) then h.choose else 0
theorem numOf_eq {w : World} {v : Value} {b : Nat} (h : RV w v (dig b)) : numOf w v = b := by
  have h' : ∃ b, RV w v (dig b) := ⟨b, h⟩
  unfold numOf
  rw [dif_pos h']
  exact dig_inj (RV.uniq h'.choose_spec h)

theorem dig_len_mono {a b : Nat} (h : a ≤ b) : (dig a).length ≤ (dig b).length := dig_length_le (Nat.lt_of_le_of_lt h (lt_of_dig_length (Nat.le_refl _)))

set_option maxHeartbeats 400000 in
/-- gcd is the greatest common divisor. -/
theorem gcd_calls {w : World} {u v : Value} {a b : Nat} (hu : RV w u (dig a)) (hv : RV w v (dig b)) (hla : (dig a).length < 1073741823) (hlb : (dig b).length < 1073741823) :
    Calls Tryz.prog 153 #[u, v] w fun e w' => ∃ r, e = .returned r ∧ OV w.heap.size w' r (dig (Nat.gcd a b)) ∧ Ext w w' := by
  have H0 : Aside (RV w u (dig a) ∧ RV w v (dig b) ∧ (dig a).length < 1073741823 ∧ (dig b).length < 1073741823) := ⟨hu, hv, hla, hlb⟩
  clear hu hv hla hlb
  go_enter Tryz.func153, Tryz.ntmps153
  go_wp2
  go_loopw [0, 1] (fun x y wr => ∃ a' b' : Nat, Aside (RV wr x (dig a') ∧ RV wr y (dig b') ∧ (dig a').length < 1073741823 ∧ (dig b').length < 1073741823) ∧ Aside (Nat.gcd a' b' = Nat.gcd a b) ∧ Aside (Ext w wr)) (fun _ y wr => numOf wr y)
  case atStart => exact ⟨a, b, H0, ⟨rfl⟩, ⟨Ext.refl w⟩⟩
  case round =>
    obtain ⟨a', b', H, HG, HE⟩ := hrel
    obtain ⟨B, d, rfl, hdc, hdd, hdr⟩ := id H.out.2.1
    have hl1 : (dig b').length ≤ 1073741824 := hdd.1
    clear hdd hdr
    rcases Nat.eq_zero_or_pos b' with rfl | hb
    · have hz : (dig 0).length = 0 := by rw [dig_zero]; rfl
      have HZ : Aside (a' = Nat.gcd a b) := ⟨by rw [← HG.out, Nat.gcd_zero_right]⟩
      go_wp2_with (go_at_call 124; refine (clone_calls H.out.1).mono ?_; rintro e w' ⟨r, rfl, hr, he⟩; have HO := Aside.mk hr; have HE1 := Aside.mk he; clear hr he)
      go_ret
      exact ⟨r, rfl, by rw [← HZ.out]; exact HO.out.mono HE.out.size, HE.out.trans HE1.out⟩
    · obtain ⟨z, hz⟩ : ∃ z, (dig b').length = z := ⟨_, rfl⟩
      have hz0 : 0 < z := by
        rcases Nat.eq_zero_or_pos z with h0 | h0
        · rw [h0] at hz
          have := dig_nil_iff.1 (List.eq_nil_of_length_eq_zero hz)
          omega
        · exact h0
      have H' := H
      rw [hz] at hdc hl1 H'
      have HZ := Aside.mk hz
      have HB := Aside.mk hb
      rw [hz]
      clear hz hb H
      go_wp2_with (go_at_call 148; refine (div_calls (b := b') (a := a') H'.out.1 (by have := H'.out.2.1; exact this) HB.out H'.out.2.2.1 (by have := H'.out.2.2.2; rw [HZ.out]; exact this)).mono ?_; rintro e w1 ⟨q, r, rfl, hq, hr, he⟩; have HR := Aside.mk hr; have HE1 := Aside.mk he; clear hq hr he)
      go_roundw
      case rel =>
        refine ⟨b', a' % b', ⟨H'.out.2.1.ext HE1.out, HR.out.rv, by rw [HZ.out]; exact H'.out.2.2.2, ?_⟩, ⟨?_⟩, ⟨HE.out.trans HE1.out⟩⟩
        · exact Nat.lt_of_le_of_lt (dig_len_mono (Nat.le_of_lt (Nat.mod_lt _ HB.out))) (by rw [HZ.out]; exact H'.out.2.2.2)
        · rw [← HG.out, Nat.gcd_comm, ← Nat.gcd_rec, Nat.gcd_comm]
      case measure =>
        rw [numOf_eq HR.out.rv, numOf_eq H'.out.2.1]
        exact Nat.mod_lt _ HB.out

/-- The error of a list that is to be a natural number. -/
def natErr (xs : List Nat) : Nat := if 512 < xs.length then 3 else if 0 < xs.length ∧ xs.getD (xs.length - 1) 0 = 0 then 5 else 0
/-- The first error of some. -/
def natErrs : List (List Nat) → Nat
  | [] => 0
  | xs :: ls => if natErr xs = 0 then natErrs ls else natErr xs

theorem natErrs_drop (ls : List (List Nat)) (k : Nat) (h : k < ls.length) : natErrs (ls.drop k) = if natErr (ls.getD k []) = 0 then natErrs (ls.drop (k + 1)) else natErr (ls.getD k []) := by
  rw [List.drop_eq_getElem_cons h, natErrs, List.getD_eq_getElem?_getD, List.getElem?_eq_getElem h]; rfl

set_option maxHeartbeats 800000 in
/-- form looks at numbers. -/
theorem form_calls {w : World} {A : Addr} {n c : Nat} {ls : List (List Nat)} (hl : ls.length = n) (hn : n ≤ 1000) (hc : n ≤ c) (hv : ∀ j, j < n → ∃ v, w.cell? (A.add j) = some v ∧ RV w v (ls.getD j [])) :
    Calls Tryz.prog 122 #[.slice (some A) n c] w fun e w' => e = .returned (.int .i64 (natErrs ls : Int)) ∧ w = w' := by
  have HV := Aside.mk hv
  have HL := Aside.mk hl
  clear hv hl
  go_enter Tryz.func122, Tryz.ntmps122
  go_wp2
  go_loop [7] (fun i => ∃ k : Nat, k ≤ n ∧ i = .int .i64 (k : Int) ∧ Aside (natErrs (ls.drop k) = natErrs ls)) (fun i => n - (intOf i).toNat)
  case atStart => exact ⟨0, by omega, rfl, ⟨by simp⟩⟩
  case round =>
    obtain ⟨k, hk, rfl, HK⟩ := hrel
    rcases Nat.lt_or_ge k n with hkn | hkn
    · obtain ⟨v, hcell, hrv⟩ := HV.out k hkn
      obtain ⟨xs, hxs⟩ : ∃ xs, ls.getD k [] = xs := ⟨_, rfl⟩
      rw [hxs] at hrv
      have HD : Aside (natErrs (ls.drop k) = if natErr xs = 0 then natErrs (ls.drop (k + 1)) else natErr xs) := ⟨by rw [natErrs_drop ls k (by rw [HL.out]; exact hkn), hxs]⟩
      obtain ⟨B, d, rfl, hdc, hdd, hdr⟩ := hrv
      have hl1 : xs.length ≤ 1073741824 := hdd.1
      have HRV := Aside.mk hdr
      obtain ⟨m, hm⟩ : ∃ m, xs.length = m := ⟨_, rfl⟩
      have hne : natErr xs = if 512 < m then 3 else if 0 < m ∧ xs.getD (m - 1) 0 = 0 then 5 else 0 := by rw [natErr, hm]
      rw [hm] at hcell hdc hl1
      have HM := Aside.mk hm
      clear hdd hdr hm
      rcases Nat.lt_or_ge 512 m with h512 | h512
      · have HE : Aside ((natErr xs : Int) = 3) := ⟨by rw [hne, if_pos h512]; rfl⟩
        clear hne hxs
        go_wp2
        go_ret
        refine ⟨?_, rfl⟩
        show Ending.returned (.int .i64 3) = _
        rw [← HK.out, HD.out, if_neg (by have := HE.out; omega), HE.out]
      · rcases Nat.eq_zero_or_pos m with rfl | h0
        · have HE : Aside (natErr xs = 0) := ⟨by rw [hne, if_neg (by omega), if_neg (by omega)]⟩
          clear hne hxs
          go_wp2
          go_round
          case rel => exact ⟨k + 1, hkn, by simp, ⟨by rw [← HK.out, HD.out, if_pos HE.out]⟩⟩
          case measure => simp [intOf]; omega
        · obtain ⟨z, hz⟩ : ∃ z, m = z + 1 := ⟨m - 1, by omega⟩
          obtain ⟨t, ht⟩ : ∃ t, xs.getD z 0 = t := ⟨_, rfl⟩
          obtain ⟨bd, rfl, hcl⟩ := Rd.at32 HRV.out z (by rw [HM.out]; omega)
          rw [ht] at hcl
          have hlen : (m : Int) - 1 = (z : Int) := by omega
          have hzl : z < m := by omega
          have HT : Aside (natErr xs = if t = 0 then 5 else 0) := ⟨by
            rw [hne, if_neg (by omega), hz, show z + 1 - 1 = z from rfl, ht]
            simp⟩
          clear hne hxs hz ht
          rcases Nat.eq_zero_or_pos t with rfl | ht0
          · have HE : Aside ((natErr xs : Int) = 5) := ⟨by rw [HT.out, if_pos rfl]; rfl⟩
            go_wp2
            go_ret
            refine ⟨?_, rfl⟩
            show Ending.returned (.int .i64 5) = _
            rw [← HK.out, HD.out, if_neg (by have := HE.out; omega), HE.out]
          · have HE : Aside (natErr xs = 0) := ⟨by rw [HT.out, if_neg (by omega)]⟩
            have ht1 : ((t : Int) == 0) = false := by simp; omega
            go_wp2
            go_round
            case rel => exact ⟨k + 1, hkn, by simp, ⟨by rw [← HK.out, HD.out, if_pos HE.out]⟩⟩
            case measure => simp [intOf]; omega
    · obtain rfl : k = n := by omega
      have HE : Aside ((natErrs ls : Int) = 0) := ⟨by rw [← HK.out, List.drop_of_length_le (by rw [HL.out]; omega)]; rfl⟩
      go_wp2
      go_ret
      exact ⟨by rw [HE.out]; rfl, rfl⟩

end Go.Proofs.YtgfkachfbnbikaaGreatDoor

namespace Go.Proofs.YtgfkachfbnbikaaGreatDoor
open Go.RowKit

theorem cell_lit {w : World} {t : TypeId} {vs : Array Value} {j : Nat} {v : Value} (h : vs[j]? = some v) : (w.alloc (.cells vs t)).cell? ((⟨w.heap.size, 0, none⟩ : Addr).add j) = some v := by
  rw [add_plain, World.cell?_alloc_new]
  exact h

theorem form1_calls {w : World} {v : Value} {xs : List Nat} {t : TypeId} {m : Nat} (h : RV w v xs) (hm : natErr xs = m) :
    Calls Tryz.prog 122 #[.slice (some ⟨w.heap.size, 0, none⟩) 1 1] (w.alloc (.cells #[v] t)) fun e w' => e = .returned (.int .i64 (m : Int)) ∧ w.alloc (.cells #[v] t) = w' := by
  refine (form_calls (ls := [xs]) (n := 1) rfl (by decide) (by decide) ?_).mono ?_
  · intro j hj
    obtain rfl : j = 0 := by omega
    exact ⟨v, cell_lit (by simp), h.ext ((Ext.refl w).alloc _)⟩
  · rintro e w' ⟨rfl, rfl⟩
    refine ⟨?_, rfl⟩
    simp only [natErrs, hm]
    by_cases h0 : m = 0 <;> simp [h0]
theorem form2_calls {w : World} {u v : Value} {xs ys : List Nat} {t : TypeId} (h : RV w u xs) (k : RV w v ys) (hx : natErr xs = 0) (hy : natErr ys = 0) :
    Calls Tryz.prog 122 #[.slice (some ⟨w.heap.size, 0, none⟩) 2 2] (w.alloc (.cells #[u, v] t)) fun e w' => e = .returned (.int .i64 0) ∧ w.alloc (.cells #[u, v] t) = w' := by
  refine (form_calls (ls := [xs, ys]) (n := 2) rfl (by decide) (by decide) ?_).mono ?_
  · intro j hj
    obtain rfl | rfl : j = 0 ∨ j = 1 := by omega
    · exact ⟨u, cell_lit (by simp), h.ext ((Ext.refl w).alloc _)⟩
    · exact ⟨v, cell_lit (by simp), k.ext ((Ext.refl w).alloc _)⟩
  · rintro e w' ⟨rfl, rfl⟩
    exact ⟨by simp [natErrs, hx, hy], rfl⟩

theorem natErr_dig (a : Nat) : natErr (dig a) = if 512 < (dig a).length then 3 else 0 := by
  unfold natErr
  split
  · rfl
  · rw [if_neg]
    rintro ⟨h1, h2⟩
    exact nz_dig a (by intro h; rw [h] at h1; simp at h1) h2
theorem natErr_dig0 {a : Nat} (h : (dig a).length ≤ 512) : natErr (dig a) = 0 := by rw [natErr_dig, if_neg (by omega)]
theorem natErr_zero {xs : List Nat} (hd : Ds xs) (h : natErr xs = 0) : xs.length ≤ 512 ∧ xs = dig (val xs) := by
  unfold natErr at h
  split at h
  · omega
  · split at h
    · omega
    · rename_i h1 h2
      refine ⟨by omega, (dig_val hd ?_).symm⟩
      intro hx h3
      exact h2 ⟨List.length_pos_iff.2 hx, h3⟩

theorem isnat_calls {w : World} {v : Value} {xs : List Nat} (h : RV w v xs) :
    Calls Tryz.prog 70 #[v] w fun e w' => e = .returned (.bool (decide (natErr xs = 0))) ∧ Ext w w' := by
  obtain ⟨A, c, rfl, hc, _, _⟩ := id h
  have H := Aside.mk h
  have hd : (((natErr xs : Nat) : Int) == 0) = decide (natErr xs = 0) := by
    by_cases h0 : natErr xs = 0
    · simp [h0]
    · simp [h0]
  obtain ⟨m, hm⟩ : ∃ m, natErr xs = m := ⟨_, rfl⟩
  rw [hm] at hd
  have HM := Aside.mk hm
  clear h hm
  rw [HM.out]
  go_enter Tryz.func70, Tryz.ntmps70
  go_wp2_with (go_at_call 122; refine (form1_calls H.out HM.out).mono ?_; rintro e w' ⟨rfl, rfl⟩)
  go_ret
  exact ⟨by rw [← hd]; rfl, (Ext.refl w).alloc _⟩

/-- How many binary digits a number has. -/
def blen (a : Nat) : Nat := if a = 0 then 0 else a.log2 + 1
theorem blen_le {a k : Nat} : blen a ≤ k ↔ a < 2 ^ k := by
  unfold blen
  split
  · rename_i h
    subst h
    exact ⟨fun _ => Nat.two_pow_pos k, fun _ => Nat.zero_le _⟩
  · rename_i h
    rw [Nat.succ_le_iff, Nat.log2_lt h]
theorem blen_of {a b : Nat} (_h0 : 0 < a) (h1 : 2 ^ (b - 1) ≤ a) (h2 : a < 2 ^ b) : blen a = b := by
  apply Nat.le_antisymm (blen_le.2 h2)
  rcases Nat.lt_or_ge (blen a) b with h | h
  · have h3 := blen_le.1 (show blen a ≤ b - 1 by omega)
    omega
  · exact h
theorem bitLen_blen {t : Nat} (h0 : 0 < t) (h : t < 4294967296) : Lib.bitLen t = blen t := by
  have h1 := Lib.bitLenAux_bounds 64 t (by omega) (by omega)
  exact (blen_of h0 h1.2.1 h1.2.2).symm
theorem blen_dig {a k t : Nat} (hk : (dig a).length = k + 1) (ht : (dig a).getD k 0 = t) : 0 < t ∧ t < 4294967296 ∧ blen a = 32 * k + blen t := by
  have ht4 : t < 4294967296 := by rw [← ht]; exact Ds.get (ds_dig a) _
  have ht0 : 0 < t := by
    have := nz_dig a (by intro h; rw [h] at hk; simp at hk)
    rw [hk, show k + 1 - 1 = k from rfl, ht] at this
    omega
  refine ⟨ht0, ht4, ?_⟩
  have hv := val_take_step (dig a) k
  rw [ht, show k + 1 = (dig a).length from hk.symm, val_take_all, val_dig] at hv
  have hl := val_lt ((ds_dig a).take k)
  rw [List.length_take, hk, Nat.min_eq_left (by omega)] at hl
  have hb := Lib.bitLenAux_bounds 64 t (by omega) (by omega)
  have hbt : blen t = Lib.bitLenAux 64 t := blen_of ht0 hb.2.1 hb.2.2
  rw [hbt]
  have hb0 : 0 < Lib.bitLenAux 64 t := hb.1
  generalize Lib.bitLenAux 64 t = b at *
  have e : (4294967296 : Nat) ^ k = 2 ^ (32 * k) := by rw [Nat.pow_mul]
  rw [e] at hl hv
  have hp := Nat.two_pow_pos (32 * k)
  generalize val ((dig a).take k) = lo at *
  have h1 := Nat.mul_le_mul_left (2 ^ (32 * k)) hb.2.1
  have h2 : 2 ^ (32 * k) * (t + 1) ≤ 2 ^ (32 * k) * 2 ^ b := Nat.mul_le_mul_left _ hb.2.2
  rw [← Nat.pow_add] at h1 h2
  rw [Nat.mul_add, Nat.mul_one] at h2
  apply blen_of
  · rw [hv]; have := Nat.mul_pos hp ht0; omega
  · rw [show 32 * k + b - 1 = 32 * k + (b - 1) from by omega]; omega
  · omega

/-- The number of binary digits of a slice of digits. -/
theorem size_calls {w : World} {u : Value} {a : Nat} (h : RV w u (dig a)) :
    Calls Tryz.prog 175 #[u] w fun e w' => e = .returned (.int .i64 (blen a : Int)) ∧ w = w' := by
  obtain ⟨A, c, rfl, hc, hd, hr⟩ := h
  have hl : (dig a).length ≤ 1073741824 := hd.1
  rcases Nat.eq_zero_or_pos a with rfl | ha
  · have h0 : (dig 0).length = 0 := by rw [dig_zero]; rfl
    clear hr hd
    rw [h0]
    go_enter Tryz.func175, Tryz.ntmps175
    go_wp2
    go_ret
    exact ⟨rfl, rfl⟩
  · obtain ⟨k, hk⟩ : ∃ k, (dig a).length = k + 1 := ⟨(dig a).length - 1, by
      have : (dig a).length ≠ 0 := fun h => by have := dig_nil_iff.1 (List.eq_nil_of_length_eq_zero h); omega
      omega⟩
    obtain ⟨t, ht⟩ : ∃ t, (dig a).getD k 0 = t := ⟨_, rfl⟩
    obtain ⟨ht0, ht4, hb⟩ := blen_dig hk ht
    obtain ⟨bd, rfl, hcell⟩ := Rd.at32 hr k (by omega)
    rw [ht] at hcell
    obtain ⟨z, hz⟩ : ∃ z, (dig a).length = z := ⟨_, rfl⟩
    rw [hz] at hc hl hk
    rw [hz]
    have hz1 : (z : Int) - 1 = (k : Int) := by omega
    have hzne : ((z : Int) == 0) = false := by simp; omega
    have hkz : k < z := by omega
    have hbl : Lib.bitLen t = blen t := bitLen_blen ht0 ht4
    have hb32 : blen t ≤ 32 := blen_le.2 (by omega)
    have HB : Aside ((blen a : Int) = 32 * (k : Int) + (blen t : Int)) := ⟨by rw [hb]; simp⟩
    have HBT := Aside.mk hbl
    have hT : (t : Int) ≤ 4294967295 := by omega
    have HT := Aside.mk hT
    generalize hbt : blen t = b at *
    clear hr hd hk ht hz hT ht4 ht0 hbl hb hbt
    go_enter Tryz.func175, Tryz.ntmps175
    go_wp2_with (go_at_call 185; refine (Tryz.bits_Len32 (t : Int) w (by omega) HT.out).mono ?_; rintro e w' ⟨rfl, rfl⟩; rw [show ((t : Int)).toNat = t from by simp, HBT.out])
    go_ret
    exact ⟨by rw [HB.out]; rfl, rfl⟩

/-- Bits and the error of a list. -/
theorem bits_calls {w : World} {u : Value} {a : Nat} (h : RV w u (dig a)) :
    Calls Tryz.prog 152 #[u] w fun e w' => e = .returned (if (dig a).length ≤ 512 then .tuple #[.int .i64 (blen a : Int), .int .i64 0] else .tuple #[.int .i64 0, .int .i64 3]) ∧ Ext w w' := by
  obtain ⟨A, c, rfl, hc, hd, _⟩ := id h
  have hl : (dig a).length ≤ 1073741824 := hd.1
  have H := Aside.mk h
  have HE := Aside.mk (natErr_dig a)
  clear h hd
  rcases Nat.lt_or_ge 512 (dig a).length with h5 | h5
  · have HM : Aside (natErr (dig a) = 3) := ⟨by rw [HE.out, if_pos h5]⟩
    rw [if_neg (by omega)]
    go_enter Tryz.func152, Tryz.ntmps152
    go_wp2_with (go_at_call 122; refine (form1_calls H.out HM.out).mono ?_; rintro e w' ⟨rfl, rfl⟩)
    go_ret2
    exact ⟨rfl, (Ext.refl w).alloc _⟩
  · have HM : Aside (natErr (dig a) = 0) := ⟨by rw [HE.out, if_neg (by omega)]⟩
    rw [if_pos h5]
    go_enter Tryz.func152, Tryz.ntmps152
    go_wp2_with (first | (go_at_call 122; refine (form1_calls H.out HM.out).mono ?_; rintro e w' ⟨rfl, rfl⟩) | (go_at_call 175; refine (size_calls (H.out.ext ((Ext.refl w).alloc _))).mono ?_; rintro e w' ⟨rfl, rfl⟩))
    go_ret2
    exact ⟨rfl, (Ext.refl w).alloc _⟩
end Go.Proofs.YtgfkachfbnbikaaGreatDoor

namespace Go.Proofs.YtgfkachfbnbikaaGreatDoor
open Go.RowKit

/-- A natural number that the functions of nat take. -/
def NV (w : World) (v : Value) (a : Nat) : Prop := RV w v (dig a) ∧ (dig a).length ≤ 512
theorem NV.ext {w w' : World} {v : Value} {a : Nat} (h : NV w v a) (e : Ext w w') : NV w' v a := ⟨h.1.ext e, h.2⟩
theorem NV.form {w : World} {v : Value} {a : Nat} (h : NV w v a) : ∃ A c n, v = .slice A n c ∧ n ≤ 512 ∧ Aside (n = (dig a).length) := by
  obtain ⟨A, c, rfl, _⟩ := h.1
  exact ⟨A, c, _, rfl, h.2, ⟨rfl⟩⟩

theorem form2n {w : World} {u v : Value} {a b : Nat} {t : TypeId} (h : NV w u a) (k : NV w v b) :
    Calls Tryz.prog 122 #[.slice (some ⟨w.heap.size, 0, none⟩) 2 2] (w.alloc (.cells #[u, v] t)) fun e w' => e = .returned (.int .i64 0) ∧ w.alloc (.cells #[u, v] t) = w' :=
  form2_calls h.1 k.1 (natErr_dig0 h.2) (natErr_dig0 k.2)

theorem Add_calls {w : World} {u v : Value} {a b : Nat} (hu : NV w u a) (hv : NV w v b) :
    Calls Tryz.prog 149 #[u, v] w fun e w' => ∃ r, e = .returned (.tuple #[r, .int .i64 0]) ∧ OV w.heap.size w' r (dig (a + b)) ∧ Ext w w' := by
  have HU := Aside.mk hu
  have HV := Aside.mk hv
  obtain ⟨A, c, n, rfl, _, _⟩ := hu.form
  obtain ⟨B, d, m, rfl, _, _⟩ := hv.form
  clear hu hv
  go_enter Tryz.func149, Tryz.ntmps149
  go_wp2_with (first | (go_at_call 122; refine (form2n HU.out HV.out).mono ?_; rintro e w' ⟨rfl, rfl⟩) | (go_at_call 173; refine (add_calls (HU.out.1.ext ((Ext.refl w).alloc _)) (HV.out.1.ext ((Ext.refl w).alloc _)) (by have := HU.out.2; have := HV.out.2; omega)).mono ?_; rintro e w1 ⟨r, rfl, hr, he⟩; have HR := Aside.mk hr; have HE := Aside.mk he; clear hr he))
  go_ret2
  exact ⟨r, rfl, (by simpa [val_dig] using HR.out.mono ((Ext.refl w).alloc _).size), ((Ext.refl w).alloc _).trans HE.out⟩
theorem Mul_calls {w : World} {u v : Value} {a b : Nat} (hu : NV w u a) (hv : NV w v b) :
    Calls Tryz.prog 100 #[u, v] w fun e w' => ∃ r, e = .returned (.tuple #[r, .int .i64 0]) ∧ OV w.heap.size w' r (dig (a * b)) ∧ Ext w w' := by
  have HU := Aside.mk hu
  have HV := Aside.mk hv
  obtain ⟨A, c, n, rfl, _, _⟩ := hu.form
  obtain ⟨B, d, m, rfl, _, _⟩ := hv.form
  clear hu hv
  go_enter Tryz.func100, Tryz.ntmps100
  go_wp2_with (first | (go_at_call 122; refine (form2n HU.out HV.out).mono ?_; rintro e w' ⟨rfl, rfl⟩) | (go_at_call 147; refine (mul_calls (HU.out.1.ext ((Ext.refl w).alloc _)) (HV.out.1.ext ((Ext.refl w).alloc _)) (by have := HU.out.2; have := HV.out.2; omega)).mono ?_; rintro e w1 ⟨r, rfl, hr, he⟩; have HR := Aside.mk hr; have HE := Aside.mk he; clear hr he))
  go_ret2
  exact ⟨r, rfl, (by simpa [val_dig] using HR.out.mono ((Ext.refl w).alloc _).size), ((Ext.refl w).alloc _).trans HE.out⟩
theorem Sub_calls {w : World} {u v : Value} {a b : Nat} (hu : NV w u a) (hv : NV w v b) (hle : b ≤ a) :
    Calls Tryz.prog 151 #[u, v] w fun e w' => ∃ r, e = .returned (.tuple #[r, .int .i64 0]) ∧ OV w.heap.size w' r (dig (a - b)) ∧ Ext w w' := by
  have HU := Aside.mk hu
  have HV := Aside.mk hv
  obtain ⟨A, c, n, rfl, _, _⟩ := hu.form
  obtain ⟨B, d, m, rfl, _, _⟩ := hv.form
  have hcmp : decide (cmpN a b < 0) = false := by
    unfold cmpN; rw [if_neg (by omega)]; split <;> rfl
  have HL := Aside.mk hle
  clear hu hv hle
  go_enter Tryz.func151, Tryz.ntmps151
  go_wp2_with (first | (go_at_call 167; refine (compare_calls (HU.out.1.ext ((Ext.refl w).alloc _)) (HV.out.1.ext ((Ext.refl w).alloc _))).mono ?_; rintro e w' ⟨rfl, n0, rfl⟩) | (go_at_call 122; refine (form2n HU.out HV.out).mono ?_; rintro e w' ⟨rfl, rfl⟩) | (go_at_call 174; refine (sub_calls (HU.out.1.ext (((Ext.refl w).alloc _).drewN _)) (HV.out.1.ext (((Ext.refl w).alloc _).drewN _)) (dig_len_mono HL.out) (by rw [val_dig, val_dig]; exact HL.out)).mono ?_; rintro e w1 ⟨r, rfl, hr, he⟩; have HR := Aside.mk hr; have HE := Aside.mk he; clear hr he))
  go_ret2
  exact ⟨r, rfl, (by simpa [val_dig] using HR.out.mono (((Ext.refl w).alloc _).drewN n0).size), (((Ext.refl w).alloc _).drewN n0).trans HE.out⟩
theorem Gcd_calls {w : World} {u v : Value} {a b : Nat} (hu : NV w u a) (hv : NV w v b) :
    Calls Tryz.prog 110 #[u, v] w fun e w' => ∃ r, e = .returned (.tuple #[r, .int .i64 0]) ∧ OV w.heap.size w' r (dig (Nat.gcd a b)) ∧ Ext w w' := by
  have HU := Aside.mk hu
  have HV := Aside.mk hv
  obtain ⟨A, c, n, rfl, _, _⟩ := hu.form
  obtain ⟨B, d, m, rfl, _, _⟩ := hv.form
  clear hu hv
  go_enter Tryz.func110, Tryz.ntmps110
  go_wp2_with (first | (go_at_call 122; refine (form2n HU.out HV.out).mono ?_; rintro e w' ⟨rfl, rfl⟩) | (go_at_call 153; refine (gcd_calls (HU.out.1.ext ((Ext.refl w).alloc _)) (HV.out.1.ext ((Ext.refl w).alloc _)) (by have := HU.out.2; omega) (by have := HV.out.2; omega)).mono ?_; rintro e w1 ⟨r, rfl, hr, he⟩; have HR := Aside.mk hr; have HE := Aside.mk he; clear hr he))
  go_ret2
  exact ⟨r, rfl, (by simpa [val_dig] using HR.out.mono ((Ext.refl w).alloc _).size), ((Ext.refl w).alloc _).trans HE.out⟩
theorem Compare_calls {w : World} {u v : Value} {a b : Nat} (hu : NV w u a) (hv : NV w v b) :
    Calls Tryz.prog 150 #[u, v] w fun e w' => e = .returned (.tuple #[.int .i64 (cmpN a b), .int .i64 0]) ∧ Ext w w' := by
  have HU := Aside.mk hu
  have HV := Aside.mk hv
  obtain ⟨A, c, n, rfl, _, _⟩ := hu.form
  obtain ⟨B, d, m, rfl, _, _⟩ := hv.form
  clear hu hv
  go_enter Tryz.func150, Tryz.ntmps150
  go_wp2_with (first | (go_at_call 167; refine (compare_calls (HU.out.1.ext ((Ext.refl w).alloc _)) (HV.out.1.ext ((Ext.refl w).alloc _))).mono ?_; rintro e w' ⟨rfl, n0, rfl⟩) | (go_at_call 122; refine (form2n HU.out HV.out).mono ?_; rintro e w' ⟨rfl, rfl⟩))
  go_ret2
  exact ⟨rfl, ((Ext.refl w).alloc _).drewN n0⟩
theorem Div_calls {w : World} {u v : Value} {a b : Nat} (hu : NV w u a) (hv : NV w v b) (hb : 0 < b) :
    Calls Tryz.prog 104 #[u, v] w fun e w' => ∃ q r, e = .returned (.tuple #[q, r, .int .i64 0]) ∧ OV w.heap.size w' q (dig (a / b)) ∧ OV w.heap.size w' r (dig (a % b)) ∧ Ext w w' := by
  have HU := Aside.mk hu
  have HV := Aside.mk hv
  obtain ⟨A, c, n, rfl, _, _⟩ := hu.form
  obtain ⟨B, d, m, rfl, _, hm⟩ := hv.form
  have hm0 : 0 < m := by
    rw [hm.out]
    exact List.length_pos_iff.2 (fun h => by have := dig_nil_iff.1 h; omega)
  have hmne : ((m : Int) == 0) = false := by simp; omega
  have HB := Aside.mk hb
  clear hu hv hb
  go_enter Tryz.func104, Tryz.ntmps104
  go_wp2_with (first | (go_at_call 122; refine (form2n HU.out HV.out).mono ?_; rintro e w' ⟨rfl, rfl⟩) | (go_at_call 148; refine (div_calls (HU.out.1.ext ((Ext.refl w).alloc _)) (HV.out.1.ext ((Ext.refl w).alloc _)) HB.out (by have := HU.out.2; omega) (by have := HV.out.2; omega)).mono ?_; rintro e w1 ⟨q, r, rfl, hq, hr, he⟩; have HQ := Aside.mk hq; have HR := Aside.mk hr; have HE := Aside.mk he; clear hq hr he))
  first | go_ret3 | go_ret2
  exact ⟨q, r, rfl, HQ.out.mono ((Ext.refl w).alloc _).size, HR.out.mono ((Ext.refl w).alloc _).size, ((Ext.refl w).alloc _).trans HE.out⟩

/-- Of returns the digits of a number. -/
theorem of_calls {w : World} {x : Nat} (hx : x < 18446744073709551616) :
    Calls Tryz.prog 121 #[.int .u64 (x : Int)] w fun e w' => ∃ r, e = .returned r ∧ OV w.heap.size w' r (dig x) ∧ Ext w w' := by
  obtain ⟨lo, hlo⟩ : ∃ lo, x % 4294967296 = lo := ⟨_, rfl⟩
  obtain ⟨hi, hhi⟩ : ∃ hi, x / 4294967296 = hi := ⟨_, rfl⟩
  have hl4 : lo < 4294967296 := by omega
  have hh4 : hi < 4294967296 := by omega
  have h1 : IntKind.u32.wrap (x : Int) = (lo : Int) := by rw [wrap_u32]; omega
  have h2 : (x : Int) / 4294967296 = (hi : Int) := by omega
  have h3 : IntKind.u32.wrap (hi : Int) = (hi : Int) := by rw [wrap_u32]; omega
  have hol := OV.lit w [lo, hi] (by simp) (Ds.cons hl4 (Ds.cons hh4 Ds.nil))
  simp only [u32s, List.map_cons, List.map_nil, List.length_cons, List.length_nil] at hol
  have HO := Aside.mk hol
  have HX : Aside (val [lo, hi] = x) := ⟨by simp [val]; omega⟩
  clear hol hl4 hh4 hlo hhi hx
  go_enter Tryz.func121, Tryz.ntmps121
  go_wp2_with (go_at_call 156; refine (trim_calls HO.out).mono ?_; rintro e w' ⟨r, rfl, hr, rfl⟩; have HR := Aside.mk hr; clear hr)
  go_ret
  exact ⟨r, rfl, (by have h := HR.out; rw [HX.out] at h; exact h), (Ext.refl w).alloc _⟩
end Go.Proofs.YtgfkachfbnbikaaGreatDoor
