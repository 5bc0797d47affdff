/- Contracts: nat.Text, nat.Parse. -/
import Derived.Test.YtgfkachfbnbikaaGreatDoorNatI
import Derived.Test.YtgfkachfbnbikaaGreatDoorNatD
import Derived.Test.YtgfkachfbnbikaaGreatDoorRev
import Derived.Deep.LoopGhost
namespace Go.Proofs.YtgfkachfbnbikaaGreatDoor
open Go.RowKit

/-- The bytes of a list of decimal digits. -/
def chs (xs : List Nat) : List Nat := xs.map fun x => 48 + x
theorem chs_length (xs : List Nat) : (chs xs).length = xs.length := by simp [chs]
theorem chs_snoc (xs : List Nat) (x : Nat) : chs (xs ++ [x]) = chs xs ++ [48 + x] := by simp [chs]
theorem chs_getD {xs : List Nat} {k : Nat} (h : k < xs.length) : (chs xs).getD k 0 = 48 + xs.getD k 0 := by
  simp [chs, List.getD_eq_getElem?_getD, List.getElem?_eq_getElem h]
theorem chs_text {a : Nat} (h : a ≠ 0) : dtext a = (chs (d10 a)).reverse.map UInt8.ofNat := by
  unfold dtext chs
  rw [if_neg h, List.map_reverse, List.map_map]; rfl
theorem d10_getD_lt {xs : List Nat} (h : D10 xs) (k : Nat) : xs.getD k 0 < 10 := by
  rw [List.getD_eq_getElem?_getD]
  rcases Nat.lt_or_ge k xs.length with hj | hj
  · rw [List.getElem?_eq_getElem hj]; exact h _ (List.getElem_mem hj)
  · rw [List.getElem?_eq_none hj]; decide

theorem short9 {w : World} {u : Value} {k : Nat} (hu : RV w u (dig k)) :
    Calls Tryz.prog 125 #[u, .int .u32 1000000000] w fun e w' => ∃ r, e = .returned (.tuple #[r, .int .u32 ((k % 1000000000 : Nat) : Int)]) ∧ OV w.heap.size w' r (dig (k / 1000000000)) ∧ Ext w w' := by
  have h := short_calls (y := 1000000000) hu (by decide) (by decide)
  rw [val_dig] at h
  exact h
theorem pow10_any {a n m : Nat} (h : a < 4294967296 ^ n) (hm : 10 * n ≤ m) : a < 10 ^ m := by
  have h2 : (4294967296 : Nat) ^ n ≤ 10 ^ (10 * n) := by rw [Nat.pow_mul]; exact Nat.pow_le_pow_left (by decide) n
  exact Nat.lt_of_lt_of_le h (Nat.le_trans h2 (Nat.pow_le_pow_right (by decide) hm))
theorem pow10_512 {a : Nat} (h : (dig a).length ≤ 512) : a < 10 ^ (9 * (600 - 0)) := by
  generalize hk : 9 * (600 - 0) = k
  exact pow10_any (lt_of_dig_length h) (by omega)
theorem text_down {k j : Nat} (h : k < 10 ^ (9 * (600 - j))) (hk : 0 < k) : j < 600 ∧ k / 1000000000 < 10 ^ (9 * (600 - (j + 1))) := by
  have hj : j < 600 := by
    rcases Nat.lt_or_ge j 600 with h' | h'
    · exact h'
    · rw [show 600 - j = 0 from by omega] at h; simp at h; omega
  refine ⟨hj, ?_⟩
  rw [show 9 * (600 - j) = 9 * (600 - (j + 1)) + 9 from by omega, Nat.pow_add] at h
  exact Nat.div_lt_of_lt_mul (by rw [Nat.mul_comm]; exact h)
theorem text_digit {zs : List Nat} {rr X : Nat} (h : v10 zs + 10 ^ zs.length * rr = X) : v10 (zs ++ [rr % 10]) + 10 ^ (zs ++ [rr % 10]).length * (rr / 10) = X := by
  rw [v10_snoc, List.length_append, List.length_singleton, Nat.pow_succ, ← h, Nat.add_assoc, Nat.mul_assoc, ← Nat.mul_add]
  congr 2; omega
theorem text_rest {rr t : Nat} (h : rr < 10 ^ (9 - t)) (ht : t < 9) : rr / 10 < 10 ^ (9 - (t + 1)) := by
  rw [show 9 - t = 9 - (t + 1) + 1 from by omega, Nat.pow_succ] at h
  exact Nat.div_lt_of_lt_mul (by rw [Nat.mul_comm]; exact h)
theorem text_chunk {zs zs' : List Nat} {a k : Nat} (h : a = v10 zs + 10 ^ zs.length * k) (hl : zs'.length = zs.length + 9)
    (hv : v10 zs' + 10 ^ zs'.length * 0 = v10 zs + 10 ^ zs.length * (k % 1000000000)) : a = v10 zs' + 10 ^ zs'.length * (k / 1000000000) := by
  have e : (10 : Nat) ^ 9 = 1000000000 := rfl
  rw [Nat.mul_zero, Nat.add_zero] at hv
  rw [hv, hl, Nat.pow_add, e, h, Nat.add_assoc, Nat.mul_assoc, ← Nat.mul_add]
  congr 2; omega

set_option maxHeartbeats 2000000 in
theorem Text_calls {w : World} {u : Value} {a : Nat} (h : NV w u a) :
    Calls Tryz.prog 74 #[u] w fun e w' => e = .returned (.tuple #[.string ⟨(dtext a).toArray⟩, .int .i64 0]) ∧ Ext w w' := by
  obtain ⟨h, h5⟩ := h
  obtain ⟨A, c, rfl, hc, hd, hr⟩ := id h
  have H := Aside.mk h
  have HM : Aside (natErr (dig a) = 0) := ⟨natErr_dig0 h5⟩
  have H5 := Aside.mk h5
  rcases Nat.eq_zero_or_pos a with rfl | ha
  · have h0 : (dig 0).length = 0 := by rw [dig_zero]; rfl
    clear hr hd h
    rw [h0] at hc H ⊢
    have HT : Aside (dtext 0 = [48]) := ⟨by simp [dtext]⟩
    rw [HT.out]
    go_enter Tryz.func74, Tryz.ntmps74
    go_wp2_with (go_at_call 122; refine (form1_calls H.out HM.out).mono ?_; rintro e w' ⟨rfl, rfl⟩)
    go_ret2
    exact ⟨rfl, (Ext.refl w).alloc _⟩
  · have hln : 0 < (dig a).length := by
      have : dig a ≠ [] := fun e => by have := dig_nil_iff.1 e; omega
      exact List.length_pos_iff.2 this
    obtain ⟨n, hn⟩ : ∃ n, (dig a).length = n := ⟨_, rfl⟩
    have HA := Aside.mk ha
    have HN := Aside.mk hn
    rw [hn] at hc h5 hln H ⊢
    have hnz : ((n : Int) == 0) = false := by simp; omega
    clear hr hd h hn ha
    go_enter Tryz.func74, Tryz.ntmps74
    go_wp2_with (first | (go_at_call 122; refine (form1_calls H.out HM.out).mono ?_; rintro e w' ⟨rfl, rfl⟩) | (go_at_call 124; refine (clone_calls (H.out.ext ((Ext.refl w).alloc _))).mono ?_; rintro e w1 ⟨r, rfl, hr, he⟩; have HB0 : Aside (Ext w w1) := ⟨((Ext.refl w).alloc _).trans he⟩; have HB0' := Aside.mk (((Ext.refl w).alloc (.cells #[.slice A n c] 22)).size); have HR := Aside.mk hr; have hrf := hr.form; clear hr he))
    obtain ⟨A1, c1, rfl, _⟩ := hrf
    go_loopg [0, 5] a (fun k x out wr => ∃ A n c zs j, x = .slice A n c ∧ n ≤ 512 ∧ Aside (n = (dig k).length) ∧ Aside (OV w.heap.size wr (.slice A n c) (dig k)) ∧ Aside (OB w.heap.size wr out (chs zs)) ∧ Aside (Ext w wr) ∧ Aside (D10 zs) ∧ Aside (a = v10 zs + 10 ^ zs.length * k) ∧ Aside (Apart (.slice A n c) out) ∧ Aside (zs.length = 9 * j) ∧ Aside (k < 10 ^ (9 * (600 - j))))
    case atStart => exact ⟨_, _, _, [], 0, rfl, by rw [HN.out]; exact h5, ⟨rfl⟩, ⟨HR.out.mono HB0'.out⟩, ⟨OB.nil _ _⟩, HB0, ⟨D10.nil⟩, ⟨by simp [v10]⟩, ⟨Apart.nil _⟩, ⟨rfl⟩, ⟨pow10_512 H5.out⟩⟩
    case round =>
      obtain ⟨A2, n2, c2, zs, j, rfl, hn2, HN2, HX, HO, HB, HD, HV, HA2, HJ, HK⟩ := hrel
      rcases Nat.eq_zero_or_pos n2 with rfl | hn0
      · have hkz : gk = 0 := dig_nil_iff.1 (List.eq_nil_of_length_eq_zero HN2.out.symm)
        have hva : a = v10 zs := by have := HV.out; rw [hkz, Nat.mul_zero, Nat.add_zero] at this; exact this
        have HT : Aside (trimTo zs zs.length = d10 a) := ⟨by rw [trimTo_d10 HD.out _ (Nat.le_refl _), List.take_length, ← hva]⟩
        obtain ⟨A5, c5, rfl, _⟩ := HO.out.form
        have hz0 : 0 < zs.length := by
          rcases Nat.eq_zero_or_pos zs.length with h | h
          · have := List.eq_nil_of_length_eq_zero h
            rw [this] at hva; simp [v10] at hva; have := HA.out; omega
          · exact h
        obtain ⟨g, c6, heq, hbg, _, hcap, _⟩ := HO.out.row (by rw [chs_length]; exact hz0)
        injection heq with e1 e2 e3
        subst e1 e3
        rw [chs_length] at HO hcap ⊢
        have HO0 : Aside (OB w.heap.size wr (.slice (some ⟨g, 0, none⟩) zs.length c5) (chs zs)) := HO
        have hzl : zs.length ≤ 1073741824 := by have := HO.out.1.1; rwa [chs_length] at this
        clear hkz hva hz0
        go_wp2
        go_loop [5] (fun v => ∃ k : Nat, k ≤ zs.length ∧ v = .slice (some ⟨g, 0, none⟩) k c5 ∧ Aside (trimTo zs zs.length = trimTo zs k)) (fun v => match v with | .slice _ k _ => k | _ => 0)
        case atStart => exact ⟨_, Nat.le_refl _, rfl, ⟨rfl⟩⟩
        case round =>
          obtain ⟨k, hk, rfl, HK'⟩ := hrel
          cases k with
          | zero =>
            exfalso
            have h1 := HT.out
            rw [HK'.out] at h1
            have h2 := d10_nil_iff.1 (h1.symm.trans (by simp [trimTo]))
            have := HA.out; omega
          | succ k =>
            have hcell := HO0.out.cell k (by rw [chs_length]; omega)
            rw [chs_getD (by omega)] at hcell
            by_cases h0 : zs.getD k 0 = 0
            · rw [h0] at hcell
              have HK2 : Aside (trimTo zs zs.length = trimTo zs k) := ⟨by rw [HK'.out, trimTo, if_pos h0]⟩
              clear h0 HK'
              go_wp2
              go_round
              case rel => exact ⟨k, by omega, rfl, HK2⟩
              case measure => simp
            · have h00 : (((48 + zs.getD k 0 : Nat) : Int) == 48) = false := beq_eq_false_iff_ne.2 (by omega)
              have HK2 : Aside (d10 a = zs.take (k + 1)) := ⟨by rw [← HT.out, HK'.out, trimTo, if_neg h0]⟩
              obtain ⟨y, hy⟩ : ∃ y, 48 + zs.getD k 0 = y := ⟨_, rfl⟩
              rw [hy] at hcell h00
              have HO5 : Aside (OB w.heap.size wr (.slice (some ⟨g, 0, none⟩) (k + 1) c5) (chs (d10 a))) := ⟨by
                have := HO0.out.take (k + 1) (by rw [chs_length]; omega)
                rw [HK2.out]
                simpa [chs, List.map_take] using this⟩
              have HT2 : Aside (dtext a = (chs (d10 a)).reverse.map UInt8.ofNat) := ⟨chs_text (by have := HA.out; omega)⟩
              clear h0 HK' hy
              go_wp2_with (go_at_call 126; refine (reverse_n HO5.out HB.out hbg).mono ?_; rintro e w5 ⟨rfl, hr, he⟩; have hcv := hr.text _ HT2.out; have HE5 := Aside.mk he; clear hr he)
              go_ret2
              exact ⟨rfl, HE5.out⟩
      · have hkp : 0 < gk := by
          rcases Nat.eq_zero_or_pos gk with h | h
          · exfalso
            have := HN2.out
            rw [h, dig_zero] at this; simp at this; omega
          · exact h
        obtain ⟨hj6, hkd⟩ := text_down HK.out hkp
        have HKD := Aside.mk hkd
        have HKP := Aside.mk hkp
        obtain ⟨r0, hr0⟩ : ∃ r, gk % 1000000000 = r := ⟨_, rfl⟩
        have hr9 : r0 ≤ 999999999 := by omega
        have HR0 := Aside.mk hr0
        clear hkd hkp hr0
        go_wp2_with (go_at_call 125; refine (short9 HX.out.rv).mono ?_; rw [HR0.out]; rintro e w2 ⟨r, rfl, hr, he⟩; have HE2 := Aside.mk (HB.out.trans he); have HX2 := Aside.mk (hr.mono HB.out.size); have HO2 := Aside.mk (HO.out.ext he); have HA3 := Aside.mk (Apart.fresh hr HO.out); obtain ⟨A3, c3, rfl, _⟩ := hr.form; clear hr he)
        generalize hlq : (dig (gk / 1000000000)).length = lq at *
        have HLQ := Aside.mk hlq
        clear hlq
        go_loopw [5, 6, 26] (fun out r i wr' => ∃ (t rr : Nat) (zs' : List Nat), t ≤ 9 ∧ i = .int .i64 (t : Int) ∧ r = .int .u32 (rr : Int) ∧ rr ≤ 999999999 ∧ Aside (rr < 10 ^ (9 - t)) ∧ Aside (OB w.heap.size wr' out (chs zs')) ∧ Aside (Ext w wr') ∧ Aside (D10 zs') ∧ Aside (zs'.length = zs.length + t) ∧ Aside (v10 zs' + 10 ^ zs'.length * rr = v10 zs + 10 ^ zs.length * r0) ∧ Aside (OV w.heap.size wr' (.slice A3 lq c3) (dig (gk / 1000000000))) ∧ Aside (Apart (.slice A3 lq c3) out)) (fun _ _ i _ => 9 - (intOf i).toNat)
        case atStart => exact ⟨0, r0, zs, by omega, rfl, rfl, hr9, ⟨by omega⟩, HO2, HE2, HD, ⟨rfl⟩, ⟨rfl⟩, HX2, HA3⟩
        case round =>
          obtain ⟨t, rr, zs', ht, rfl, rfl, hrr, HRR, HO3, HE3, HD3, HL3, HV3, HX3, HA4⟩ := hrel
          by_cases hlt : t < 9
          · have hzl : zs'.length < 1073741824 := by have := HL3.out; have := HJ.out; omega
            have HZL := Aside.mk hzl
            clear hzl
            go_wp2_with (at_builtin; (refine append_u8 w.heap.size rfl _ _ rfl _ (chs zs') (48 + rr % 10) _ ?hz HO3.out rfl rfl (by omega) HE3.out.size ?hl ?_; (case hz => omega); (case hl => rw [chs_length]; exact HZL.out); intro z1 w3 hz1 hg1 hb1; have HE4 := Aside.mk (HO3.out.ext_grown HE3.out (Nat.le_refl _) hg1); have HO4 := Aside.mk hz1; have HX4 := Aside.mk (HX3.out.other hg1 HA4.out); have HA5 := Aside.mk (HA4.out.append HX3.out hb1); clear hz1 hg1 hb1))
            go_roundw
            case rel =>
              refine ⟨t + 1, rr / 10, zs' ++ [rr % 10], by omega, by go_num, by congr 1, by omega, ⟨text_rest HRR.out hlt⟩, ⟨by rw [chs_snoc]; exact HO4.out⟩, HE4, ⟨HD3.out.snoc (Nat.mod_lt _ (by decide))⟩, ⟨by simp [HL3.out]; omega⟩, ⟨text_digit HV3.out⟩, HX4, HA5⟩
            case measure => simp [intOf]; omega
          · have ht9 : t = 9 := by omega
            subst ht9
            have hrz : rr = 0 := by have := HRR.out; simp at this; exact this
            subst hrz
            have HV4 : Aside (a = v10 zs' + 10 ^ zs'.length * (gk / 1000000000)) := ⟨text_chunk HV.out HL3.out (by rw [HV3.out, HR0.out])⟩
            go_wp2
            go_roundg (gk / 1000000000)
            case rel => exact ⟨A3, lq, c3, zs', j + 1, rfl, by rw [← HLQ.out]; exact Nat.le_trans (dig_len_mono (Nat.div_le_self _ _)) (by rw [← HN2.out]; exact hn2), ⟨HLQ.out.symm⟩, HX3, HO3, HE3, HD3, HV4, HA4, ⟨by rw [HL3.out, HJ.out]; omega⟩, HKD⟩
            case measure => have := HKP.out; omega
end Go.Proofs.YtgfkachfbnbikaaGreatDoor
