/- Contract of fluxionref01.Div. -/
import Derived.Test.YtgfkachfbnbikaaGreatDoorRefD
import Derived.Shelf.RegionOpenPlain
namespace Go.Proofs.YtgfkachfbnbikaaGreatDoor
open Go.RowKit

theorem rtwice_n {w : World} {u : Value} {a b0 m : Nat} (hu : RV w u (dig a)) (hb0 : b0 ≤ 1) (hl : (dig a).length < 1073741824) (hm : 2 * a + b0 = m) :
    Calls Tryz.prog 129 #[u, .int .u32 (b0 : Int)] w fun e w' => ∃ r, e = .returned r ∧ OV w.heap.size w' r (dig m) ∧ Ext w w' := by
  have h := rtwice_calls hu hb0 hl
  rw [val_dig, hm] at h
  exact h
theorem rsub_n {w : World} {u v : Value} {a b : Nat} (hu : RV w u (dig a)) (hv : RV w v (dig b)) (hle : b ≤ a) :
    Calls Tryz.prog 128 #[u, v] w fun e w' => ∃ r, e = .returned r ∧ OV w.heap.size w' r (dig (a - b)) ∧ Ext w w' := by
  have h := rsub_calls hu hv (dig_len_mono hle) (by rw [val_dig, val_dig]; exact hle)
  rw [val_dig, val_dig] at h
  exact h
theorem shift_even (q j : Nat) : q * 2 ^ (j + 1) = (2 * q + 0) * 2 ^ j := by rw [Nat.pow_succ, Nat.add_zero, Nat.mul_comm 2 q, Nat.mul_assoc, Nat.mul_comm 2]
theorem cmpN_ge {a b : Nat} : decide ((0 : Int) ≤ cmpN a b) = decide (b ≤ a) := by
  unfold cmpN
  rcases Nat.lt_trichotomy a b with h | h | h
  · rw [if_pos h]; simp; omega
  · rw [if_neg (by omega), if_pos h]; simp; omega
  · rw [if_neg (by omega), if_neg (by omega)]; simp; omega
theorem OV.len {b : Nat} {w : World} {A : Option Addr} {n c : Nat} {xs : List Nat} (h : OV b w (.slice A n c) xs) : n = xs.length := by
  obtain ⟨A', c', e, _⟩ := h.form
  injection e
set_option maxRecDepth 10000 in
set_option maxHeartbeats 2000000 in
theorem rdiv_calls {w : World} {u v : Value} {a b : Nat} (hu : RV w u (dig a)) (hv : RV w v (dig b)) (hb : 0 < b) (hbl : (dig b).length < 1073741824) :
    Calls Tryz.prog 112 #[u, v] w fun e w' => ∃ q r, e = .returned (.tuple #[q, r]) ∧ OV w.heap.size w' q (dig (a / b)) ∧ OV w.heap.size w' r (dig (a % b)) ∧ Ext w w' := by
  have mixed : Tryz.prog.follows Departure.mixedOrders = true := by kernel_rfl
  have HX := Aside.mk hu
  have HY := Aside.mk hv
  obtain ⟨A, c, rfl, hc, hd, hr⟩ := hu
  obtain ⟨B, d, rfl, hc', hd', hr'⟩ := hv
  have hl : (dig a).length ≤ 1073741824 := hd.1
  have HBP := Aside.mk hb
  have HBL := Aside.mk hbl
  obtain ⟨n, hn⟩ : ∃ n, (dig a).length = n := ⟨_, rfl⟩
  have HN := Aside.mk hn
  rw [hn] at hc hl HX ⊢
  have hbb : blen a ≤ 32 * n := by
    apply blen_le.2
    have := lt_of_dig_length (show (dig a).length ≤ n by rw [hn]; exact Nat.le_refl _)
    rwa [B_pow] at this
  obtain ⟨m, hm⟩ : ∃ m, blen a = m := ⟨_, rfl⟩
  rw [hm] at hbb
  have HM := Aside.mk hm
  have HBR : Aside (∀ r, r < b → (dig r).length < 1073741824) := ⟨fun r hr => Nat.lt_of_le_of_lt (dig_len_mono (Nat.le_of_lt hr)) hbl⟩
  generalize (dig b).length = lb at *
  clear hd hr hd' hr' hb hn hm hbl
  go_enter Tryz.func112, Tryz.ntmps112
  go_wp2_with (first | (refine make_u32 _ rfl _ _ rfl n _ _ rfl rfl rfl rfl hl ?_; intro w1 z hz0 hb1 hz1; subst hz1; have HZ0 := Aside.mk hz0; have HB0 := Aside.mk hb1; clear hz0 hb1) | (go_at_call 154; with_reducible refine (rbits_calls (HX.out.ext HB0.out) HM.out).mono ?_; rintro e w' ⟨rfl, rfl⟩))
  go_loopw [7, 8] (fun rest i wr => ∃ (k : Nat) (zs : List Nat), k ≤ m ∧ i = .int .i64 ((k : Int) - 1) ∧ Aside (OV (w.heap.size + 1) wr rest (dig (a / 2 ^ k % b))) ∧ Aside (OV w.heap.size wr (.slice (some ⟨w.heap.size, 0, none⟩) n n) zs) ∧ Aside (Ext w wr) ∧ Aside (zs.length = n) ∧ Aside (val zs = a / 2 ^ k / b * 2 ^ k)) (fun _ i _ => (intOf i + 1).toNat)
  case atStart =>
    have h0 : a / 2 ^ m = 0 := Nat.div_eq_of_lt (blen_le.1 (by rw [HM.out]; exact Nat.le_refl _))
    exact ⟨m, _, Nat.le_refl _, rfl, ⟨by rw [h0, Nat.zero_mod, dig_zero]; exact OV.nil _ _⟩, HZ0, HB0, ⟨by simp⟩, ⟨by rw [h0, val_zeros]; simp⟩⟩
  case round =>
    obtain ⟨k, zs, hk, rfl, HR, HZ, HB, HL, HS⟩ := hrel
    cases k with
    | zero =>
      have HR' : Aside (OV (w.heap.size + 1) wr u7 (dig (a % b))) := ⟨by have := HR.out; rw [Nat.pow_zero, Nat.div_one] at this; exact this⟩
      obtain ⟨A1, c1, rfl, _⟩ := HR'.out.form
      generalize (dig (a % b)).length = l1 at *
      have HV : Aside (val zs = a / b) := ⟨by have := HS.out; rw [Nat.pow_zero, Nat.mul_one, Nat.div_one] at this; exact this⟩
      clear HR
      go_wp2_with (go_at_call 107; with_reducible refine (rshort_calls HZ.out).mono ?_; rintro e w' ⟨r, rfl, hr, rfl⟩; have HQ := Aside.mk hr; clear hr)
      go_ret2
      exact ⟨r, _, rfl, by rw [← HV.out]; exact HQ.out, HR'.out.mono (Nat.le_succ _), HB.out⟩
    | succ j =>
      have HJB : Aside (j < blen a) := ⟨by rw [HM.out]; omega⟩
      have HJL : Aside (j / 32 < zs.length) := ⟨by rw [HL.out, ← HN.out]; exact bit_lt HJB.out⟩
      have hjn : j / 32 < n := by have := HJL.out; rw [HL.out] at this; exact this
      obtain ⟨t, ht⟩ : ∃ t, a / 2 ^ j % 2 = t := ⟨_, rfl⟩
      have HT1 : Aside (t ≤ 1) := ⟨by omega⟩
      obtain ⟨r, hr⟩ : ∃ r, a / 2 ^ (j + 1) % b = r := ⟨_, rfl⟩
      obtain ⟨q, hq⟩ : ∃ q, a / 2 ^ (j + 1) / b = q := ⟨_, rfl⟩
      have hst := div_step HBP.out hr.symm
      rw [ht, hq] at hst
      have hrb : r < b := by rw [← hr]; exact Nat.mod_lt _ HBP.out
      rw [hr] at HR
      rw [hq] at HS
      have HRL : Aside ((dig r).length < 1073741824) := ⟨HBR.out r hrb⟩
      have HT := Aside.mk ht
      obtain ⟨R, hRR⟩ : ∃ R, 2 * r + t = R := ⟨_, rfl⟩
      have HRR := Aside.mk hRR
      rw [hRR] at hst
      have HST := Aside.mk hst
      have HSZ : Aside (w.heap.size + 1 ≤ wr.heap.size) := ⟨by
        obtain ⟨g, c', e, _, h2, _⟩ := HZ.out.row (by have := HJL.out; omega)
        injection e with e
        injection e with e
        injection e with e
        omega⟩
      obtain ⟨A1, c1, rfl, _⟩ := HR.out.form
      have hcg := @cmpN_ge R b
      clear ht hr hq hst hrb hRR
      rcases Nat.lt_or_ge R b with hlt | hge
      · have hcf : decide ((0 : Int) ≤ cmpN R b) = false := by rw [hcg]; simp; omega
        have HRB := Aside.mk hlt
        clear hcg hlt hjn
        go_wp2_with (first | (go_at_call 155; with_reducible refine (rbit_calls (HX.out.ext HB.out) HJB.out HT.out).mono ?_; rintro e w2 ⟨rfl, rfl⟩) | (go_at_call 129; with_reducible refine (rtwice_n HR.out.rv HT1.out HRL.out HRR.out).mono ?_; rintro e w3 ⟨r3, rfl, hr, he⟩; have HB3 := Aside.mk (HB.out.trans he); have HZ3 := Aside.mk (HZ.out.ext he); have HR3 := Aside.mk (hr.mono HSZ.out); have HSZ3 := Aside.mk (Nat.le_trans HSZ.out he.size); obtain ⟨A3, c3, rfl, _⟩ := HR3.out.form; clear hr he) | (go_at_call 120; with_reducible refine (rcompare_calls HR3.out.rv (HY.out.ext HB3.out)).mono ?_; rintro e w4 ⟨rfl, he⟩; have HE4 := Aside.mk (Ext.of_drewN he); have HB4 := Aside.mk (HB3.out.trans HE4.out); have HZ4 := Aside.mk (HZ3.out.ext HE4.out); have HR4 := Aside.mk (HR3.out.ext HE4.out); have HS4 := Aside.mk (Nat.le_trans HSZ3.out HE4.out.size); clear he))
        go_roundw
        case rel => exact ⟨j, zs, by omega, rfl, ⟨by rw [HST.out.1, if_neg (by have := HRB.out; omega)]; exact HR4.out⟩, HZ4, HB4, HL, ⟨by rw [HS.out, HST.out.2, if_neg (by have := HRB.out; omega)]; exact shift_even q j⟩⟩
        case measure => simp [intOf]
      · have hcf : decide ((0 : Int) ≤ cmpN R b) = true := by rw [hcg]; simp; omega
        have HLE := Aside.mk hge
        obtain ⟨dd, hdd⟩ : ∃ d, zs.getD (j / 32) 0 = d := ⟨_, rfl⟩
        have HD := Aside.mk hdd
        obtain ⟨hs1, hs2, hs3⟩ := set_bit HZ.out.1.2 HS.out HJL.out
        rw [hdd] at hs1 hs2 hs3
        have hor := or_bit hs2
        have HSB := Aside.mk hs1
        have HS3 := Aside.mk hs3
        have h1 := tdiv_32 (i := j) rfl
        have h2 := tmod_32 (i := j) rfl
        have hr32 : j % 32 < 32 := Nat.mod_lt _ (by decide)
        obtain ⟨jq, hjq⟩ : ∃ x, j / 32 = x := ⟨_, rfl⟩
        obtain ⟨jr, hjr⟩ : ∃ x, j % 32 = x := ⟨_, rfl⟩
        rw [hjq] at h1 hjn
        rw [hjr] at h2 hr32 hor
        have HJQ := Aside.mk hjq
        have HJR := Aside.mk hjr
        have hw1 : wrap64 (jq : Int) = (jq : Int) := wrap64_small (by omega)
        have hw2 : wrap64 (jr : Int) = (jr : Int) := wrap64_small (by omega)
        obtain ⟨P, hP⟩ : ∃ P, 2 ^ jr = P := ⟨_, rfl⟩
        have hP2 : ((2 : Int) ^ jr) = (P : Int) := by rw [← hP]; simp
        rw [hjr, hP] at HS3
        rw [hP] at hor
        have hP4 : P < 4294967296 := by have := HS3.out; omega
        have hP5 : (P : Int) % 4294967296 = (P : Int) := by omega
        obtain ⟨o, ho⟩ : ∃ o, dd + P = o := ⟨_, rfl⟩
        have hor2 : bits .or .u32 (dd : Int) (P : Int) = (o : Int) := by
          rw [u32_or_nat _ _ (by have := HS3.out; omega) hP4, hor, ho]
        rw [hjq, hjr, hP, ho] at HSB
        have HO : Aside (o < 4294967296) := ⟨by rw [← ho]; exact HS3.out⟩
        have H1 := Aside.mk h1
        have H2 := Aside.mk h2
        have H3 := Aside.mk hw1
        have H4 := Aside.mk hw2
        have H5 := Aside.mk hor2
        have H6 := Aside.mk hP2
        clear h1 h2 hw1 hw2 hor2 hP2
        have h1 : ∀ [Inhabited Nat], (j : Int).tdiv 32 = (jq : Int) := H1.out
        have h2 : ∀ [Inhabited Nat], (j : Int).tmod 32 = (jr : Int) := H2.out
        have hw1 : ∀ [Inhabited Nat], wrap64 (jq : Int) = (jq : Int) := H3.out
        have hw2 : ∀ [Inhabited Nat], wrap64 (jr : Int) = (jr : Int) := H4.out
        have hor2 : ∀ [Inhabited Nat], bits .or .u32 (dd : Int) (P : Int) = (o : Int) := H5.out
        have hP2 : ∀ [Inhabited Nat], ((2 : Int) ^ jr) = (P : Int) := H6.out
        clear hcg hge hs1 hs2 hs3 hdd hjq hjr hP hor HS3 ho
        go_wp2_with (first | (go_at_call 155; with_reducible refine (rbit_calls (HX.out.ext HB.out) HJB.out HT.out).mono ?_; rintro e w2 ⟨rfl, rfl⟩) | (go_at_call 129; with_reducible refine (rtwice_n HR.out.rv HT1.out HRL.out HRR.out).mono ?_; rintro e w3 ⟨r3, rfl, hr, he⟩; have HB3 := Aside.mk (HB.out.trans he); have HZ3 := Aside.mk (HZ.out.ext he); have HR3 := Aside.mk (hr.mono HSZ.out); have HSZ3 := Aside.mk (Nat.le_trans HSZ.out he.size); obtain ⟨A3, c3, rfl, _⟩ := HR3.out.form; clear hr he) | (go_at_call 120; with_reducible refine (rcompare_calls HR3.out.rv (HY.out.ext HB3.out)).mono ?_; rintro e w4 ⟨rfl, he⟩; have HE4 := Aside.mk (Ext.of_drewN he); have HB4 := Aside.mk (HB3.out.trans HE4.out); have HZ4 := Aside.mk (HZ3.out.ext HE4.out); have HR4 := Aside.mk (HR3.out.ext HE4.out); have HS4 := Aside.mk (Nat.le_trans HSZ3.out HE4.out.size); clear he) | (go_at_call 128; with_reducible refine (rsub_n HR4.out.rv (HY.out.ext HB4.out) HLE.out).mono ?_; rintro e w5 ⟨r5, rfl, hr, he⟩; have HB5 := Aside.mk (HB4.out.trans he); have HZ5 := Aside.mk (HZ4.out.ext he); have HR5 := Aside.mk (hr.mono HS4.out); have hcell := HZ5.out.cell (j / 32) HJL.out; have hfree := HZ5.out.free (j / 32); rw [HD.out, HJQ.out] at hcell; rw [HJQ.out] at hfree; clear hr he))
        go_region_o
        go_wp2
        go_roundw
        case rel => exact ⟨j, zs.set jq o, by omega, rfl, ⟨by rw [HST.out.1, if_pos HLE.out]; exact (HR5.out.set (show w.heap.size < w.heap.size + 1 from Nat.lt_succ_self _) _).ext (Ext.refl _).drew⟩, ⟨(HZ5.out.store jq HO.out).ext (Ext.refl _).drew⟩, ⟨(HB5.out.set (Nat.le_refl _) _).drew⟩, ⟨by simp [HL.out]⟩, ⟨by rw [HSB.out, HST.out.2, if_pos HLE.out]⟩⟩
        case measure => simp [intOf]
end Go.Proofs.YtgfkachfbnbikaaGreatDoor
