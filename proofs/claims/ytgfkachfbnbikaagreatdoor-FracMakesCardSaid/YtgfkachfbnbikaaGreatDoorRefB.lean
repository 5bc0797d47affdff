/- Contracts of package fluxionref01: Bits, bit, Sub, twice, half. -/
import Derived.Test.YtgfkachfbnbikaaGreatDoorRefA
import Derived.Test.YtgfkachfbnbikaaGreatDoorNatH
import Derived.Test.YtgfkachfbnbikaaGreatDoorNatD
import Derived.Test.YtgfkachfbnbikaaGreatDoorBin
namespace Go.Proofs.YtgfkachfbnbikaaGreatDoor
open Go.RowKit

theorem blen_half {d : Nat} (h : 0 < d) : blen d = blen (d / 2) + 1 := by
  unfold blen
  rw [if_neg (by omega)]
  by_cases h2 : d / 2 = 0
  · rw [if_pos h2]
    obtain rfl : d = 1 := by omega
    rfl
  · rw [if_neg h2, Nat.log2_def d, if_pos (by omega)]
set_option maxRecDepth 10000 in
theorem rbits_calls {w : World} {u : Value} {a m : Nat} (h : RV w u (dig a)) (hm : blen a = m) :
    Calls Tryz.prog 154 #[u] w fun e w' => e = .returned (.int .i64 (m : Int)) ∧ w = w' := by
  subst hm
  obtain ⟨A, c, rfl, hc, hd, hr⟩ := h
  have hl : (dig a).length ≤ 1073741824 := hd.1
  rcases Nat.eq_zero_or_pos a with rfl | ha
  · have h0 : (dig 0).length = 0 := by rw [dig_zero]; rfl
    clear hr hd
    rw [h0]
    go_enter Tryz.func154, Tryz.ntmps154
    go_wp2
    go_ret
    exact ⟨rfl, rfl⟩
  · obtain ⟨k, hk⟩ : ∃ k, (dig a).length = k + 1 := ⟨(dig a).length - 1, by
      have : (dig a).length ≠ 0 := fun h => by have := dig_nil_iff.1 (List.eq_nil_of_length_eq_zero h); omega
      omega⟩
    obtain ⟨t, ht⟩ : ∃ t, (dig a).getD k 0 = t := ⟨_, rfl⟩
    obtain ⟨ht0, ht4, hb⟩ := blen_dig hk ht
    obtain ⟨bd, rfl, hcell⟩ := Rd.at32 hr k (by omega)
    rw [ht] at hcell
    obtain ⟨z, hz⟩ : ∃ z, (dig a).length = z := ⟨_, rfl⟩
    rw [hz] at hc hl hk
    rw [hz]
    have hz1 : (z : Int) - 1 = (k : Int) := by omega
    have hzne : ((z : Int) == 0) = false := by simp; omega
    have hkz : k < z := by omega
    have hb32 : blen t ≤ 32 := blen_le.2 (by omega)
    have HB : Aside ((blen a : Int) = 32 * (k : Int) + (blen t : Int)) := ⟨by rw [hb]; simp⟩
    have HT4 := Aside.mk ht4
    have HT0 := Aside.mk ht0
    clear hr hd hk ht hz hb ht4 ht0
    go_enter Tryz.func154, Tryz.ntmps154
    go_wp2
    go_loop [3, 4] (fun n d => ∃ (i m : Nat), n = .int .i64 (32 * (k : Int) + (i : Int)) ∧ d = .int .u32 (m : Int) ∧ i ≤ 32 ∧ Aside (m < 4294967296) ∧ Aside (blen t = i + blen m)) (fun _ d => (intOf d).toNat)
    case atStart => exact ⟨0, t, by simp, rfl, by omega, HT4, ⟨by omega⟩⟩
    case round =>
      obtain ⟨i, m, rfl, rfl, hi, HM, HS⟩ := hrel
      rcases Nat.eq_zero_or_pos m with rfl | hm
      · have HE : Aside (blen t = i) := ⟨by have := HS.out; rw [show blen 0 = 0 from rfl] at this; omega⟩
        go_wp2
        go_ret
        exact ⟨by rw [HB.out, HE.out]; rfl, rfl⟩
      · have hbm := blen_half hm
        have hi1 : i + 1 ≤ 32 := by have := HS.out; omega
        have HS' : Aside (blen t = (i + 1) + blen (m / 2)) := ⟨by have := HS.out; omega⟩
        obtain ⟨q, hq⟩ : ∃ q, m / 2 = q := ⟨_, rfl⟩
        have hm2 : (m : Int) / 2 = (q : Int) := by omega
        have hqm : q < m := by omega
        rw [hq] at HS'
        clear hbm hq
        go_wp2
        go_round
        case rel => exact ⟨i + 1, q, by go_num, by first | rfl | (congr 1; have := HM.out; omega), hi1, ⟨by have := HM.out; omega⟩, HS'⟩
        case measure => simp [intOf]; omega

theorem bit_lt {a i : Nat} (hi : i < blen a) : i / 32 < (dig a).length := by
  rcases Nat.lt_or_ge (i / 32) (dig a).length with h | h
  · exact h
  · exfalso
    have h1 := lt_of_dig_length h
    rw [B_pow] at h1
    have h2 := blen_le.2 h1
    clear h1
    omega
theorem tdiv_32 {i j : Nat} (h : i / 32 = j) : (i : Int).tdiv 32 = (j : Int) := by
  rw [Int.tdiv_eq_ediv_of_nonneg (by omega)]; omega
theorem tmod_32 {i j : Nat} (h : i % 32 = j) : (i : Int).tmod 32 = (j : Int) := by
  rw [Int.tmod_eq_emod_of_nonneg (by omega)]; omega
theorem wrap64_small {j : Nat} (h : j ≤ 1073741824) : wrap64 (j : Int) = (j : Int) := by unfold wrap64; omega
set_option maxRecDepth 10000 in
theorem rbit_calls {w : World} {u : Value} {a i m : Nat} (h : RV w u (dig a)) (hi : i < blen a) (hm : a / 2 ^ i % 2 = m) :
    Calls Tryz.prog 155 #[u, .int .i64 (i : Int)] w fun e w' => e = .returned (.int .u32 (m : Int)) ∧ w = w' := by
  obtain ⟨A, c, rfl, hc, hd, hr⟩ := h
  have hl : (dig a).length ≤ 1073741824 := hd.1
  have hlt : i / 32 < (dig a).length := bit_lt hi
  obtain ⟨x, hx⟩ : ∃ x, (dig a).getD (i / 32) 0 = x := ⟨_, rfl⟩
  have hb := bit_dig a i
  rw [hx, hm] at hb
  clear hm
  obtain ⟨ad, rfl, hcell⟩ := hr.at32 (i / 32) hlt
  rw [hx] at hcell
  clear hx hr hd hi
  obtain ⟨j, hj⟩ : ∃ j, i / 32 = j := ⟨_, rfl⟩
  obtain ⟨r, hr2⟩ : ∃ r, i % 32 = r := ⟨_, rfl⟩
  rw [hj] at hcell hlt
  rw [hr2] at hb
  have h1 := tdiv_32 hj
  have h2 := tmod_32 hr2
  have hr32 : r < 32 := by rw [← hr2]; exact Nat.mod_lt _ (by decide)
  have hw1 : wrap64 (j : Int) = (j : Int) := wrap64_small (Nat.le_trans (Nat.le_of_lt hlt) hl)
  have hw2 : wrap64 (r : Int) = (r : Int) := wrap64_small (Nat.le_trans (Nat.le_of_lt hr32) (by decide))
  obtain ⟨y, hy⟩ : ∃ y, x / 2 ^ r = y := ⟨_, rfl⟩
  have h3 : (x : Int) / 2 ^ r = (y : Int) := by rw [← hy]; simp
  have HB : Aside (((y % 2 : Nat) : Int) = (m : Int)) := ⟨by rw [← hb, hy]⟩
  clear hb hj hr2 hl hy
  go_enter Tryz.func155, Tryz.ntmps155
  go_wp2
  go_ret
  exact ⟨by rw [← HB.out]; rfl, rfl⟩
end Go.Proofs.YtgfkachfbnbikaaGreatDoor
