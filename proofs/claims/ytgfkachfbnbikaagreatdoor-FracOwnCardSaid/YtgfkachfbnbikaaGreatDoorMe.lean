/- Contracts of package fluxionref01: Valid, Both, short, Of, digit, Compare. Contracts of package fluxionref01: Bits, bit, Sub, twice, half. Contracts of package fluxionref01: Sub, twice, half. Contracts of package fluxionref01: twice, half. -/
import Derived.Test.YtgfkachfbnbikaaGreatDoorMd
import Derived.Test.YtgfkachfbnbikaaGreatDoorMb
import Derived.Test.YtgfkachfbnbikaaGreatDoorMf
import Derived.Deep.RegionHeld
namespace Go.Proofs.YtgfkachfbnbikaaGreatDoor
open Go.RowKit

theorem rdigit_calls {w : World} {v : Value} {xs : List Nat} {i : Int} {k x : Nat} (h : RV w v xs) (hi : i = (k : Int)) (hx : xs.getD k 0 = x) :
    Calls Tryz.prog 106 #[v, .int .i64 i] w fun e w' => e = .returned (.int .u64 (x : Int)) ∧ w = w' := by
  subst hi
  obtain ⟨A, c, rfl, hc, hd, hr⟩ := h
  have hl : xs.length ≤ 1073741824 := hd.1
  rcases Nat.lt_or_ge k xs.length with hk | hk
  · obtain ⟨ad, rfl, hcell⟩ := hr.at32 k hk
    rw [hx] at hcell
    have hx4 : x < 4294967296 := hx ▸ Ds.get hd.2 k
    clear hr hx hd
    go_enter Tryz.func106, Tryz.ntmps106
    go_wp2
    go_ret
    exact ⟨rfl, rfl⟩
  · obtain rfl : x = 0 := by rw [← hx, getD_ge hk]
    clear hr hx hd
    go_enter Tryz.func106, Tryz.ntmps106
    go_wp2
    go_ret
    exact ⟨rfl, rfl⟩

set_option maxRecDepth 10000 in
theorem valid_calls {w : World} {v : Value} {xs : List Nat} {m : Nat} (h : RV w v xs) (hm : natErr xs = m) :
    Calls Tryz.prog 71 #[v] w fun e w' => e = .returned (.int .i64 (m : Int)) ∧ w = w' := by
  subst hm
  obtain ⟨A, c, rfl, hc, hd, hr⟩ := h
  have hl : xs.length ≤ 1073741824 := hd.1
  unfold natErr
  by_cases h5 : 512 < xs.length
  · rw [if_pos h5]
    clear hr hd
    go_enter Tryz.func71, Tryz.ntmps71
    go_wp2
    go_ret
    exact ⟨rfl, rfl⟩
  · rw [if_neg h5]
    rcases Nat.eq_zero_or_pos xs.length with h0 | h0
    · rw [if_neg (by omega), h0]
      rw [h0] at hc
      clear hr hd hl h5
      go_enter Tryz.func71, Tryz.ntmps71
      go_wp2
      go_ret
      exact ⟨rfl, rfl⟩
    · obtain ⟨k, hk⟩ : ∃ k, xs.length = k + 1 := ⟨xs.length - 1, by omega⟩
      obtain ⟨ad, rfl, hcell⟩ := hr.at32 k (by omega)
      obtain ⟨x, hx⟩ : ∃ x, xs.getD k 0 = x := ⟨_, rfl⟩
      rw [hx] at hcell
      rw [hk, show k + 1 - 1 = k from rfl, hx]
      rw [hk] at h5 hc hl
      have h5' : k < 512 := by omega
      by_cases hz : x = 0
      · subst hz
        rw [if_pos ⟨by omega, rfl⟩]
        clear hr hd hx hk h5 h0 hl
        go_enter Tryz.func71, Tryz.ntmps71
        go_wp2
        go_ret
        exact ⟨rfl, rfl⟩
      · rw [if_neg (by omega)]
        have hxz : ((x : Int) == 0) = false := by simp; omega
        clear hr hd hx hk h5 h0 hz hl
        go_enter Tryz.func71, Tryz.ntmps71
        go_wp2
        go_ret
        exact ⟨rfl, rfl⟩

/-- The first error of two lists. -/
def bothErr (xs ys : List Nat) : Nat := if natErr xs = 0 then natErr ys else natErr xs
set_option maxRecDepth 10000 in
theorem both_calls {w : World} {u v : Value} {xs ys : List Nat} (h : RV w u xs) (k : RV w v ys) :
    Calls Tryz.prog 21 #[u, v] w fun e w' => e = .returned (.int .i64 (bothErr xs ys : Int)) ∧ w = w' := by
  have H := Aside.mk h
  have K := Aside.mk k
  obtain ⟨A, c, rfl, hc, hd, _⟩ := h
  obtain ⟨B, d, rfl, hc', hd', _⟩ := k
  unfold bothErr
  obtain ⟨m, hm⟩ : ∃ m, natErr xs = m := ⟨_, rfl⟩
  obtain ⟨n, hn⟩ : ∃ n, natErr ys = n := ⟨_, rfl⟩
  have HM := Aside.mk hm
  have HN := Aside.mk hn
  rw [hm, hn]
  clear hd hd' hm hn
  by_cases h0 : m = 0
  · subst h0
    rw [if_pos rfl]
    go_enter Tryz.func21, Tryz.ntmps21
    go_wp2_with (first | (go_at_call 71; with_reducible refine (valid_calls H.out HM.out).mono ?_; rintro e w' ⟨rfl, rfl⟩) | (go_at_call 71; with_reducible refine (valid_calls K.out HN.out).mono ?_; rintro e w' ⟨rfl, rfl⟩))
    go_ret
    exact ⟨rfl, rfl⟩
  · rw [if_neg h0]
    have hm0 : ((m : Int) == 0) = false := by simp; omega
    have hm1 : ((m : Int) != 0) = true := by simp; omega
    clear h0
    go_enter Tryz.func21, Tryz.ntmps21
    go_wp2_with (go_at_call 71; with_reducible refine (valid_calls H.out HM.out).mono ?_; rintro e w' ⟨rfl, rfl⟩)
    go_ret
    exact ⟨rfl, rfl⟩

/-- short leaves zeros at the end out. -/
theorem rshort_calls {w : World} {b : Nat} {v : Value} {xs : List Nat} (h : OV b w v xs) :
    Calls Tryz.prog 107 #[v] w fun e w' => ∃ u, e = .returned u ∧ OV b w' u (dig (val xs)) ∧ w = w' := by
  obtain ⟨A, c, rfl, hc⟩ := h.form
  have hl : xs.length ≤ 1073741824 := h.1.1
  have H := Aside.mk h
  have hd : Ds xs := h.1.2
  have E : Aside (trimTo xs xs.length = dig (val xs)) := ⟨by rw [trimTo_dig hd _ (Nat.le_refl _), val_take_all]⟩
  clear h hd
  go_enter Tryz.func107, Tryz.ntmps107
  go_wp2
  go_loop [3] (fun n => ∃ k : Nat, k ≤ xs.length ∧ n = .int .i64 (k : Int) ∧ Aside (trimTo xs xs.length = trimTo xs k)) (fun n => (intOf n).toNat)
  case atStart => exact ⟨_, Nat.le_refl _, rfl, ⟨rfl⟩⟩
  case round =>
    obtain ⟨k, hk, rfl, HK⟩ := hrel
    cases k with
    | zero =>
      go_wp2
      go_ret
      exact ⟨.slice A 0 c, rfl, by rw [← E.out, HK.out]; exact H.out.take 0 (by omega), rfl⟩
    | succ k =>
      obtain ⟨ad, rfl, hx⟩ := (H.out.rv).at' k (by omega)
      have hkc : k ≤ c := by omega
      by_cases h0 : xs.getD k 0 = 0
      · have h00 : (((xs[k]?.getD 0 : Nat) : Int) == 0) = true := by rw [List.getD_eq_getElem?_getD] at h0; simp [h0]
        have HK' : Aside (trimTo xs xs.length = trimTo xs k) := ⟨by rw [HK.out, trimTo, if_pos h0]⟩
        clear h0 HK
        go_wp2
        go_round
        case rel => exact ⟨k, by omega, by first | rfl | (congr 1; omega), HK'⟩
        case measure => first | (simp [intOf]; done) | (simp [intOf]; omega)
      · have h00 : (((xs[k]?.getD 0 : Nat) : Int) == 0) = false := by rw [List.getD_eq_getElem?_getD] at h0; simp; omega
        have HK' : Aside (dig (val xs) = xs.take (k + 1)) := ⟨by rw [← E.out, HK.out, trimTo, if_neg h0]⟩
        clear h0 HK
        go_wp2
        go_ret
        exact ⟨.slice (some ad) (k + 1) c, rfl, by rw [HK'.out]; exact H.out.take (k + 1) hk, rfl⟩

/-- Of returns the digits of a number. -/
theorem rof_calls {w : World} {x : Nat} (hx : x < 18446744073709551616) :
    Calls Tryz.prog 68 #[.int .u64 (x : Int)] w fun e w' => ∃ r, e = .returned r ∧ OV w.heap.size w' r (dig x) ∧ Ext w w' := by
  obtain ⟨lo, hlo⟩ : ∃ lo, x % 4294967296 = lo := ⟨_, rfl⟩
  obtain ⟨hi, hhi⟩ : ∃ hi, x / 4294967296 = hi := ⟨_, rfl⟩
  have hl4 : lo < 4294967296 := by omega
  have hh4 : hi < 4294967296 := by omega
  have h1 : IntKind.u32.wrap (x : Int) = (lo : Int) := by rw [wrap_u32]; omega
  have h2 : (x : Int) / 4294967296 = (hi : Int) := by omega
  have h3 : IntKind.u32.wrap (hi : Int) = (hi : Int) := by rw [wrap_u32]; omega
  have hol := OV.lit w [lo, hi] (by simp) (Ds.cons hl4 (Ds.cons hh4 Ds.nil))
  simp only [u32s, List.map_cons, List.map_nil, List.length_cons, List.length_nil] at hol
  have HO := Aside.mk hol
  have HX : Aside (val [lo, hi] = x) := ⟨by simp [val]; omega⟩
  clear hol hl4 hh4 hlo hhi hx
  go_enter Tryz.func68, Tryz.ntmps68
  go_wp2_with (go_at_call 107; refine (rshort_calls HO.out).mono ?_; rintro e w' ⟨r, rfl, hr, rfl⟩; have HR := Aside.mk hr; clear hr)
  go_ret
  exact ⟨r, rfl, (by have h := HR.out; rw [HX.out] at h; exact h), (Ext.refl w).alloc _⟩

set_option maxHeartbeats 400000 in
/-- Compare compares numbers. -/
theorem rcompare_calls {w : World} {u v : Value} {a b : Nat} (hu : RV w u (dig a)) (hv : RV w v (dig b)) :
    Calls Tryz.prog 120 #[u, v] w fun e w' => e = .returned (.int .i64 (cmpN a b)) ∧ ∃ n, w' = w.drewN n := by
  have HC : (dig a).length = (dig b).length → Aside (cmpTo (dig a) (dig b) (dig a).length = cmpN a b) := fun e => ⟨by
    rw [cmpTo_val (ds_dig a) (ds_dig b) _ (Nat.le_refl _) (by omega), val_take_all, e, val_take_all, val_dig, val_dig]⟩
  have HL1 : (dig a).length < (dig b).length → Aside (cmpN a b = -1) := fun h => ⟨by have := cmp_len h; simp [cmpN, this]⟩
  have HL2 : (dig b).length < (dig a).length → Aside (cmpN a b = 1) := fun h => ⟨by have := cmp_len h; simp only [cmpN]; rw [if_neg (by omega), if_neg (by omega)]⟩
  generalize dig a = xs at *
  generalize dig b = ys at *
  generalize cmpN a b = cc at *
  obtain ⟨A, c, rfl, hc, hd, hr⟩ := id hu
  obtain ⟨B, d, rfl, hc', hd', hr'⟩ := id hv
  have HU := Aside.mk hu
  have HV := Aside.mk hv
  have hl : xs.length ≤ 1073741824 := hd.1
  have hl' : ys.length ≤ 1073741824 := hd'.1
  clear hu hv hd hd' hr hr'
  rcases Nat.lt_or_ge xs.length ys.length with h1 | h1
  · have HC := HL1 h1
    have hne : (((xs.length : Nat) : Int) != ((ys.length : Nat) : Int)) = true := by simp; omega
    clear HL1 HL2
    go_enter Tryz.func120, Tryz.ntmps120
    go_wp2
    go_ret
    exact ⟨by rw [HC.out]; rfl, 0, rfl⟩
  rcases Nat.lt_or_ge ys.length xs.length with h2 | h2
  · have HC := HL2 h2
    have hne : (((xs.length : Nat) : Int) != ((ys.length : Nat) : Int)) = true := by simp; omega
    clear HL1 HL2
    go_enter Tryz.func120, Tryz.ntmps120
    go_wp2
    go_ret
    exact ⟨by rw [HC.out]; rfl, 0, rfl⟩
  have HC := HC (by omega)
  have hll : xs.length = ys.length := by omega
  clear HL1 HL2
  have HLL := Aside.mk hll
  rw [← hll]
  clear hll h1 h2 hl'
  go_enter Tryz.func120, Tryz.ntmps120
  go_wp2
  go_loopw [5] (fun i wr => ∃ k : Nat, k ≤ xs.length ∧ i = .int .i64 ((k : Int) - 1) ∧ Aside (cc = cmpTo xs ys k) ∧ Aside (∃ n, wr = w.drewN n)) (fun i _ => (intOf i + 1).toNat)
  case atStart => exact ⟨xs.length, Nat.le_refl _, rfl, ⟨HC.out.symm⟩, ⟨0, rfl⟩⟩
  case round =>
    obtain ⟨k, hk, rfl, HK, HW⟩ := hrel
    cases k with
    | zero =>
      go_wp2
      go_ret
      exact ⟨by rw [HK.out]; rfl, HW.out⟩
    | succ k =>
      obtain ⟨ad, rfl, hx⟩ := HU.out.at' k (by omega)
      obtain ⟨bd, rfl, hy⟩ := HV.out.at' k (by have := HLL.out; omega)
      obtain ⟨n, rfl⟩ := HW.out
      have hK := HK.out
      simp only [cmpTo] at hK
      clear HK
      generalize xs.getD k 0 = x at hx hK
      generalize ys.getD k 0 = y at hy hK
      rcases Nat.lt_or_ge x y with hxy | hxy
      · rw [if_neg (by omega), if_pos hxy] at hK
        have HK := Aside.mk hK
        have hb : decide (x < y) = true := by simp; omega
        clear hK hxy
        go_wp2
        go_quiet (fail)
        go_wp2
        go_ret
        exact ⟨by rw [HK.out]; rfl, _, World.drewN_drewN _ _ _⟩
      · have hb : decide (x < y) = false := by simp; omega
        rcases Nat.lt_or_ge y x with hyx | hyx
        · rw [if_neg (by omega), if_neg (by omega)] at hK
          have HK := Aside.mk hK
          have hb2 : decide (y < x) = true := by simp; omega
          clear hK hxy hyx
          go_wp2
          go_quiet (fail)
          go_wp2
          go_quiet (fail)
          go_wp2
          go_ret
          exact ⟨by rw [HK.out]; rfl, drewN3 _ _ _ _⟩
        · rw [if_pos (by omega)] at hK
          have HK := Aside.mk hK
          have hb2 : decide (y < x) = false := by simp; omega
          clear hK hxy hyx
          go_wp2
          go_quiet (fail)
          go_wp2
          go_quiet (fail)
          go_wp2
          go_roundw
          case rel => exact ⟨k, by omega, rfl, HK, ⟨_, rfl⟩⟩
          case measure => simp [intOf]
end Go.Proofs.YtgfkachfbnbikaaGreatDoor

namespace Go.Proofs.YtgfkachfbnbikaaGreatDoor
open Go.RowKit

theorem blen_half {d : Nat} (h : 0 < d) : blen d = blen (d / 2) + 1 := by
  unfold blen
  rw [if_neg (by omega)]
  by_cases h2 : d / 2 = 0
  · rw [if_pos h2]
    obtain rfl : d = 1 := by omega
    rfl
  · rw [if_neg h2, Nat.log2_def d, if_pos (by omega)]
set_option maxRecDepth 10000 in
theorem rbits_calls {w : World} {u : Value} {a m : Nat} (h : RV w u (dig a)) (hm : blen a = m) :
    Calls Tryz.prog 154 #[u] w fun e w' => e = .returned (.int .i64 (m : Int)) ∧ w = w' := by
  subst hm
  obtain ⟨A, c, rfl, hc, hd, hr⟩ := h
  have hl : (dig a).length ≤ 1073741824 := hd.1
  rcases Nat.eq_zero_or_pos a with rfl | ha
  · have h0 : (dig 0).length = 0 := by rw [dig_zero]; rfl
    clear hr hd
    rw [h0]
    go_enter Tryz.func154, Tryz.ntmps154
    go_wp2
    go_ret
    exact ⟨rfl, rfl⟩
  · obtain ⟨k, hk⟩ : ∃ k, (dig a).length = k + 1 := ⟨(dig a).length - 1, by
      have : (dig a).length ≠ 0 := fun h => by have := dig_nil_iff.1 (List.eq_nil_of_length_eq_zero h); omega
      omega⟩
    obtain ⟨t, ht⟩ : ∃ t, (dig a).getD k 0 = t := ⟨_, rfl⟩
    obtain ⟨ht0, ht4, hb⟩ := blen_dig hk ht
    obtain ⟨bd, rfl, hcell⟩ := Rd.at32 hr k (by omega)
    rw [ht] at hcell
    obtain ⟨z, hz⟩ : ∃ z, (dig a).length = z := ⟨_, rfl⟩
    rw [hz] at hc hl hk
    rw [hz]
    have hz1 : (z : Int) - 1 = (k : Int) := by omega
    have hzne : ((z : Int) == 0) = false := by simp; omega
    have hkz : k < z := by omega
    have hb32 : blen t ≤ 32 := blen_le.2 (by omega)
    have HB : Aside ((blen a : Int) = 32 * (k : Int) + (blen t : Int)) := ⟨by rw [hb]; simp⟩
    have HT4 := Aside.mk ht4
    have HT0 := Aside.mk ht0
    clear hr hd hk ht hz hb ht4 ht0
    go_enter Tryz.func154, Tryz.ntmps154
    go_wp2
    go_loop [3, 4] (fun n d => ∃ (i m : Nat), n = .int .i64 (32 * (k : Int) + (i : Int)) ∧ d = .int .u32 (m : Int) ∧ i ≤ 32 ∧ Aside (m < 4294967296) ∧ Aside (blen t = i + blen m)) (fun _ d => (intOf d).toNat)
    case atStart => exact ⟨0, t, by simp, rfl, by omega, HT4, ⟨by omega⟩⟩
    case round =>
      obtain ⟨i, m, rfl, rfl, hi, HM, HS⟩ := hrel
      rcases Nat.eq_zero_or_pos m with rfl | hm
      · have HE : Aside (blen t = i) := ⟨by have := HS.out; rw [show blen 0 = 0 from rfl] at this; omega⟩
        go_wp2
        go_ret
        exact ⟨by rw [HB.out, HE.out]; rfl, rfl⟩
      · have hbm := blen_half hm
        have hi1 : i + 1 ≤ 32 := by have := HS.out; omega
        have HS' : Aside (blen t = (i + 1) + blen (m / 2)) := ⟨by have := HS.out; omega⟩
        obtain ⟨q, hq⟩ : ∃ q, m / 2 = q := ⟨_, rfl⟩
        have hm2 : (m : Int) / 2 = (q : Int) := by omega
        have hqm : q < m := by omega
        rw [hq] at HS'
        clear hbm hq
        go_wp2
        go_round
        case rel => exact ⟨i + 1, q, by go_num, by first | rfl | (congr 1; have := HM.out; omega), hi1, ⟨by have := HM.out; omega⟩, HS'⟩
        case measure => simp [intOf]; omega

theorem bit_lt {a i : Nat} (hi : i < blen a) : i / 32 < (dig a).length := by
  rcases Nat.lt_or_ge (i / 32) (dig a).length with h | h
  · exact h
  · exfalso
    have h1 := lt_of_dig_length h
    rw [B_pow] at h1
    have h2 := blen_le.2 h1
    clear h1
    omega
theorem tdiv_32 {i j : Nat} (h : i / 32 = j) : (i : Int).tdiv 32 = (j : Int) := by
  rw [Int.tdiv_eq_ediv_of_nonneg (by omega)]; omega
theorem tmod_32 {i j : Nat} (h : i % 32 = j) : (i : Int).tmod 32 = (j : Int) := by
  rw [Int.tmod_eq_emod_of_nonneg (by omega)]; omega
theorem wrap64_small {j : Nat} (h : j ≤ 1073741824) : wrap64 (j : Int) = (j : Int) := by unfold wrap64; omega
set_option maxRecDepth 10000 in
theorem rbit_calls {w : World} {u : Value} {a i m : Nat} (h : RV w u (dig a)) (hi : i < blen a) (hm : a / 2 ^ i % 2 = m) :
    Calls Tryz.prog 155 #[u, .int .i64 (i : Int)] w fun e w' => e = .returned (.int .u32 (m : Int)) ∧ w = w' := by
  obtain ⟨A, c, rfl, hc, hd, hr⟩ := h
  have hl : (dig a).length ≤ 1073741824 := hd.1
  have hlt : i / 32 < (dig a).length := bit_lt hi
  obtain ⟨x, hx⟩ : ∃ x, (dig a).getD (i / 32) 0 = x := ⟨_, rfl⟩
  have hb := bit_dig a i
  rw [hx, hm] at hb
  clear hm
  obtain ⟨ad, rfl, hcell⟩ := hr.at32 (i / 32) hlt
  rw [hx] at hcell
  clear hx hr hd hi
  obtain ⟨j, hj⟩ : ∃ j, i / 32 = j := ⟨_, rfl⟩
  obtain ⟨r, hr2⟩ : ∃ r, i % 32 = r := ⟨_, rfl⟩
  rw [hj] at hcell hlt
  rw [hr2] at hb
  have h1 := tdiv_32 hj
  have h2 := tmod_32 hr2
  have hr32 : r < 32 := by rw [← hr2]; exact Nat.mod_lt _ (by decide)
  have hw1 : wrap64 (j : Int) = (j : Int) := wrap64_small (Nat.le_trans (Nat.le_of_lt hlt) hl)
  have hw2 : wrap64 (r : Int) = (r : Int) := wrap64_small (Nat.le_trans (Nat.le_of_lt hr32) (by decide))
  obtain ⟨y, hy⟩ : ∃ y, x / 2 ^ r = y := ⟨_, rfl⟩
  have h3 : (x : Int) / 2 ^ r = (y : Int) := by rw [← hy]; simp
  have HB : Aside (((y % 2 : Nat) : Int) = (m : Int)) := ⟨by rw [← hb, hy]⟩
  clear hb hj hr2 hl hy
  go_enter Tryz.func155, Tryz.ntmps155
  go_wp2
  go_ret
  exact ⟨by rw [← HB.out]; rfl, rfl⟩
end Go.Proofs.YtgfkachfbnbikaaGreatDoor

namespace Go.Proofs.YtgfkachfbnbikaaGreatDoor
open Go.RowKit

theorem set_zero {zs : List Nat} {k v : Nat} (h : val zs < 4294967296 ^ k) (hk : k < zs.length) (hv : v < 4294967296) : val (zs.set k v) = val zs + 4294967296 ^ k * v ∧ val (zs.set k v) < 4294967296 ^ (k + 1) := by
  have h1 := val_set v hk
  rw [getD_zero_of_val h, Nat.mul_zero, Nat.add_zero] at h1
  refine ⟨h1, ?_⟩
  rw [h1, Nat.pow_succ]
  have : 4294967296 ^ k * v + 4294967296 ^ k ≤ 4294967296 ^ k * 4294967296 := by rw [← Nat.mul_succ]; exact Nat.mul_le_mul_left _ hv
  omega

set_option maxHeartbeats 1000000 in
theorem rsub_calls {w : World} {u v : Value} {xs ys : List Nat} (hu : RV w u xs) (hv : RV w v ys) (hlen : ys.length ≤ xs.length) (hle : val ys ≤ val xs) :
    Calls Tryz.prog 128 #[u, v] w fun e w' => ∃ r, e = .returned r ∧ OV w.heap.size w' r (dig (val xs - val ys)) ∧ Ext w w' := by
  obtain ⟨A, c, rfl, hc, hd, hr⟩ := id hu
  obtain ⟨B, d, rfl, hc', hd', hr'⟩ := id hv
  have HU := Aside.mk hu
  have HV := Aside.mk hv
  have hl : xs.length ≤ 1073741824 := hd.1
  have HLE := Aside.mk hle
  have HLEN := Aside.mk hlen
  clear hu hv hd hd' hr hr' hle hlen
  go_enter Tryz.func128, Tryz.ntmps128
  go_wp2_with (refine make_u32 _ rfl _ _ rfl xs.length _ _ rfl rfl (by omega) (by omega) hl ?_; intro w1 z hz0 hb1 hz1; subst hz1; have HZ0 := Aside.mk hz0; have HB0 := Aside.mk hb1; clear hz0 hb1)
  go_loopw [6, 7] (fun cr i wr => ∃ (k c : Nat) (zs : List Nat), k ≤ xs.length ∧ i = .int .i64 (k : Int) ∧ cr = .int .u64 (c : Int) ∧ c ≤ 1 ∧ Aside (OV w.heap.size wr (.slice (some ⟨w.heap.size, 0, none⟩) xs.length xs.length) zs) ∧ Aside (Ext w wr) ∧ Aside (zs.length = xs.length) ∧
    Aside (val (xs.take k) + 4294967296 ^ k * c = val zs + val (ys.take k)) ∧ Aside (val zs < 4294967296 ^ k)) (fun _ i _ => xs.length - (intOf i).toNat)
  case atStart => exact ⟨0, 0, _, Nat.zero_le _, rfl, rfl, by omega, HZ0, HB0, ⟨by simp⟩, ⟨by simp [val, val_zeros]⟩, ⟨by rw [val_zeros]; decide⟩⟩
  case round =>
    obtain ⟨k, cr, zs, hk, rfl, rfl, hcr, HZ, HB, HL, HS, HT⟩ := hrel
    by_cases hlt : k < xs.length
    · obtain ⟨x, hx⟩ : ∃ x, xs.getD k 0 = x := ⟨_, rfl⟩
      obtain ⟨y, hy⟩ : ∃ y, ys.getD k 0 = y := ⟨_, rfl⟩
      have hx4 : x < 4294967296 := hx ▸ HU.out.dg.get k
      have hy4 : y < 4294967296 := hy ▸ HV.out.dg.get k
      obtain ⟨ad, rfl, hcell⟩ := (HU.out.ext HB.out).at' k hlt
      rw [hx] at hcell
      have HX := Aside.mk hx
      have HY := Aside.mk hy
      clear hx hy
      have hzc := HZ.out.cell k (by rw [HL.out]; exact hlt)
      have hzf := HZ.out.free k
      go_wp2
      go_region_with (go_at_call 106; with_reducible refine (rdigit_calls (HV.out.ext (HB.out.drew)) rfl HY.out).mono ?_; rintro e w' ⟨rfl, rfl⟩)
      all_goals
        obtain ⟨D, hD⟩ : ∃ D, x + 4294967296 - y - cr = D := ⟨_, rfl⟩
        have e1 : (IntKind.u64.wrap (IntKind.u64.wrap (IntKind.u64.wrap (IntKind.u64.wrap (x : Int) + 4294967296) - (y : Int)) - (cr : Int))) = (D : Int) := by simp only [wrap_u64]; omega
        obtain ⟨o, ho⟩ : ∃ o, D % 4294967296 = o := ⟨_, rfl⟩
        have e2 : IntKind.u32.wrap (D : Int) = (o : Int) := by rw [wrap_u32]; omega
        rcases Nat.lt_or_ge x (y + cr) with hb | hb
        · have e3 : (D : Int) / 4294967296 = 0 := by omega
          have HO4 : Aside (o < 4294967296) := ⟨by omega⟩
          have HO : Aside (x + 4294967296 * 1 = o + y + cr) := ⟨by omega⟩
          clear hD ho hb
          go_wp2
          go_roundw
          case rel =>
            have hsz := set_zero HT.out (show k < zs.length by rw [HL.out]; exact hlt) HO4.out
            refine ⟨k + 1, 1, zs.set k o, by omega, by go_num, by first | rfl | congr 1, by omega, ⟨(HZ.out.ext (Ext.refl _).drew).store k HO4.out⟩, ⟨HB.out.drew.set (Nat.le_refl _) _⟩, ⟨by simp [HL.out]⟩, ⟨?_⟩, ⟨hsz.2⟩⟩
            rw [val_take_step xs, val_take_step ys, HX.out, HY.out, hsz.1, Nat.pow_succ]
            exact dif_step HS.out HO.out
          case measure => simp [intOf]; omega
        · have e3 : (D : Int) / 4294967296 = 1 := by omega
          have HO4 : Aside (o < 4294967296) := ⟨by omega⟩
          have HO : Aside (x + 4294967296 * 0 = o + y + cr) := ⟨by omega⟩
          clear hD ho hb
          go_wp2
          go_roundw
          case rel =>
            have hsz := set_zero HT.out (show k < zs.length by rw [HL.out]; exact hlt) HO4.out
            refine ⟨k + 1, 0, zs.set k o, by omega, by go_num, by first | rfl | congr 1, by omega, ⟨(HZ.out.ext (Ext.refl _).drew).store k HO4.out⟩, ⟨HB.out.drew.set (Nat.le_refl _) _⟩, ⟨by simp [HL.out]⟩, ⟨?_⟩, ⟨hsz.2⟩⟩
            rw [val_take_step xs, val_take_step ys, HX.out, HY.out, hsz.1, Nat.pow_succ]
            exact dif_step HS.out HO.out
          case measure => simp [intOf]; omega
    · have hkm : k = xs.length := by omega
      subst hkm
      have HE : Aside (val zs = val xs - val ys) := ⟨by
        have h1 := HS.out
        rw [val_take_all, val_take_ge HLEN.out] at h1
        have h2 := HT.out
        have h3 := HLE.out
        rcases Nat.lt_or_ge 0 cr with h4 | h4
        · have : cr = 1 := by omega
          subst this
          omega
        · have : cr = 0 := by omega
          subst this
          omega⟩
      go_wp2_with (go_at_call 107; with_reducible refine (rshort_calls HZ.out).mono ?_; rintro e w' ⟨r, rfl, hr, rfl⟩; have HR := Aside.mk hr; clear hr)
      go_ret
      exact ⟨r, rfl, by rw [← HE.out]; exact HR.out, HB.out⟩
end Go.Proofs.YtgfkachfbnbikaaGreatDoor

namespace Go.Proofs.YtgfkachfbnbikaaGreatDoor
open Go.RowKit

theorem twice_step {Z P b X b0 o b' x : Nat} (h : Z + P * b = 2 * X + b0) (ho : o + 4294967296 * b' = 2 * x + b) : Z + P * o + P * 4294967296 * b' = 2 * (X + P * x) + b0 := by
  have h1 : P * (o + 4294967296 * b') = P * (2 * x + b) := by rw [ho]
  rw [Nat.mul_add, Nat.mul_add, ← Nat.mul_assoc, Nat.mul_left_comm] at h1
  omega
set_option maxHeartbeats 1000000 in
theorem rtwice_calls {w : World} {u : Value} {xs : List Nat} {b0 : Nat} (hu : RV w u xs) (hb0 : b0 ≤ 1) (hl : xs.length < 1073741824) :
    Calls Tryz.prog 129 #[u, .int .u32 (b0 : Int)] w fun e w' => ∃ r, e = .returned r ∧ OV w.heap.size w' r (dig (2 * val xs + b0)) ∧ Ext w w' := by
  obtain ⟨A, c, rfl, hc, hd, hr⟩ := id hu
  have HU := Aside.mk hu
  clear hu hd hr
  go_enter Tryz.func129, Tryz.ntmps129
  go_wp2_with (refine make_u32 _ rfl _ _ rfl (xs.length + 1) _ _ rfl rfl (by omega) (by omega) (by omega) ?_; intro w1 z hz0 hb1 hz1; subst hz1; have HZ0 := Aside.mk hz0; have HB0 := Aside.mk hb1; clear hz0 hb1)
  go_loopw [1, 6] (fun b i wr => ∃ (k c : Nat) (zs : List Nat), k ≤ xs.length ∧ i = .int .i64 (k : Int) ∧ b = .int .u32 (c : Int) ∧ c ≤ 1 ∧ Aside (OV w.heap.size wr (.slice (some ⟨w.heap.size, 0, none⟩) (xs.length + 1) (xs.length + 1)) zs) ∧ Aside (Ext w wr) ∧ Aside (zs.length = xs.length + 1) ∧
    Aside (val zs + 4294967296 ^ k * c = 2 * val (xs.take k) + b0) ∧ Aside (val zs < 4294967296 ^ k)) (fun _ i _ => xs.length - (intOf i).toNat)
  case atStart => exact ⟨0, b0, _, Nat.zero_le _, rfl, rfl, hb0, HZ0, HB0, ⟨by simp⟩, ⟨by simp [val, val_zeros]⟩, ⟨by rw [val_zeros]; decide⟩⟩
  case round =>
    obtain ⟨k, b, zs, hk, rfl, rfl, hb, HZ, HB, HL, HS, HT⟩ := hrel
    by_cases hlt : k < xs.length
    · obtain ⟨x, hx⟩ : ∃ x, xs.getD k 0 = x := ⟨_, rfl⟩
      have hx4 : x < 4294967296 := hx ▸ HU.out.dg.get k
      obtain ⟨ad, rfl, hcell⟩ := (HU.out.ext HB.out).at' k hlt
      rw [hx] at hcell
      have HX := Aside.mk hx
      clear hx
      have hzc := HZ.out.cell k (by rw [HL.out]; omega)
      have hzf := HZ.out.free k
      obtain ⟨m, hm⟩ : ∃ m, x % 2147483648 = m := ⟨_, rfl⟩
      obtain ⟨b', hb'⟩ : ∃ b', x / 2147483648 = b' := ⟨_, rfl⟩
      obtain ⟨o, ho⟩ : ∃ o, m * 2 ^ 1 + b = o := ⟨_, rfl⟩
      have hsh : IntKind.u32.wrap ((x : Int) * 2) = ((m * 2 ^ 1 : Nat) : Int) := by rw [wrap_u32]; omega
      have hor : bits .or .u32 ((m : Int) * 2) (b : Int) = (o : Int) := by
        have h := or_low b m 1 (by omega) (by omega)
        rw [ho] at h
        simpa using h
      have hb2 : (x : Int) / 2147483648 = (b' : Int) := by omega
      have HO : Aside (o < 4294967296) := ⟨by omega⟩
      have HXB : Aside (o + 4294967296 * b' = 2 * x + b) := ⟨by omega⟩
      have HB' : Aside (b' ≤ 1) := ⟨by omega⟩
      obtain ⟨ad', e', hcell2⟩ := (HU.out.ext (HB.out.set (p := ⟨w.heap.size, k, none⟩) (Nat.le_refl _) (.int .u32 (o : Int)))).at' k hlt
      injection e' with e'
      subst e'
      rw [HX.out] at hcell2
      clear hm hb' ho
      go_wp2
      go_roundw
      case rel =>
        have hsz := set_zero HT.out (show k < zs.length by rw [HL.out]; omega) HO.out
        refine ⟨k + 1, b', zs.set k o, by omega, by go_num, rfl, HB'.out, ⟨HZ.out.store k HO.out⟩, ⟨HB.out.set (Nat.le_refl _) _⟩, ⟨by simp [HL.out]⟩, ⟨?_⟩, ⟨hsz.2⟩⟩
        rw [val_take_step xs, HX.out, hsz.1, Nat.pow_succ]
        exact twice_step HS.out HXB.out
      case measure => simp [intOf]; omega
    · have hkm : k = xs.length := by omega
      subst hkm
      have hzc := HZ.out.cell xs.length (by rw [HL.out]; omega)
      have hzf := HZ.out.free xs.length
      have HBB := Aside.mk hb
      have hsz := set_zero HT.out (show xs.length < zs.length by rw [HL.out]; omega) (show b < 4294967296 by omega)
      have HE : Aside (val (zs.set xs.length b) = 2 * val xs + b0) := ⟨by rw [hsz.1, HS.out, val_take_all]⟩
      clear hsz
      go_wp2_with (go_at_call 107; with_reducible refine (rshort_calls (HZ.out.store xs.length (x := b) (by have := HBB.out; omega))).mono ?_; rintro e w' ⟨r, rfl, hr, rfl⟩; have HR := Aside.mk hr; clear hr)
      go_ret
      exact ⟨r, rfl, by rw [← HE.out]; exact HR.out, HB.out.set (Nat.le_refl _) _⟩

/-- half halves a number, rounded down. -/
theorem half_step {X P x m o c c' : Nat} (hX : X = 2 * P + c) (h1 : x / 2 = m) (h2 : x % 2 = c') (h3 : m + 2147483648 * c = o) : x + 4294967296 * X = 2 * (o + 4294967296 * P) + c' := by omega
set_option maxHeartbeats 1000000 in
theorem rhalf_calls {w : World} {u : Value} {xs : List Nat} (hu : RV w u xs) :
    Calls Tryz.prog 127 #[u] w fun e w' => ∃ r, e = .returned r ∧ OV w.heap.size w' r (dig (val xs / 2)) ∧ Ext w w' := by
  obtain ⟨A, c, rfl, hc, hd, hr⟩ := id hu
  have HU := Aside.mk hu
  have hl : xs.length ≤ 1073741824 := hd.1
  clear hu hd hr
  go_enter Tryz.func127, Tryz.ntmps127
  go_wp2_with (refine make_u32 _ rfl _ _ rfl xs.length _ _ rfl rfl rfl rfl hl ?_; intro w1 z hz0 hb1 hz1; subst hz1; have HZ0 := Aside.mk hz0; have HB0 := Aside.mk hb1; clear hz0 hb1)
  go_loopw [4, 5] (fun b i wr => ∃ (k c : Nat) (zs : List Nat), k ≤ xs.length ∧ i = .int .i64 ((k : Int) - 1) ∧ b = .int .u32 (c : Int) ∧ c ≤ 1 ∧ Aside (OV w.heap.size wr (.slice (some ⟨w.heap.size, 0, none⟩) xs.length xs.length) zs) ∧ Aside (Ext w wr) ∧ Aside (zs.length = xs.length) ∧
    Aside (val (xs.drop k) = 2 * val (zs.drop k) + c)) (fun _ i _ => (intOf i + 1).toNat)
  case atStart => exact ⟨xs.length, 0, _, Nat.le_refl _, rfl, rfl, by omega, HZ0, HB0, ⟨by simp⟩, ⟨by rw [List.drop_length]; simp [val]⟩⟩
  case round =>
    obtain ⟨k, b, zs, hk, rfl, rfl, hb, HZ, HB, HL, HS⟩ := hrel
    cases k with
    | succ k =>
      have hlt : k < xs.length := by omega
      obtain ⟨x, hx⟩ : ∃ x, xs.getD k 0 = x := ⟨_, rfl⟩
      have hx4 : x < 4294967296 := hx ▸ HU.out.dg.get k
      obtain ⟨ad, rfl, hcell⟩ := (HU.out.ext HB.out).at' k hlt
      rw [hx] at hcell
      have HX := Aside.mk hx
      clear hx
      have hzc := HZ.out.cell k (by rw [HL.out]; omega)
      have hzf := HZ.out.free k
      obtain ⟨m, hm⟩ : ∃ m, x / 2 = m := ⟨_, rfl⟩
      obtain ⟨b', hb'⟩ : ∃ b', x % 2 = b' := ⟨_, rfl⟩
      obtain ⟨o, ho⟩ : ∃ o, m + 2147483648 * b = o := ⟨_, rfl⟩
      have h1 : (x : Int) / 2 = (m : Int) := by omega
      have h2 : IntKind.u32.wrap ((b : Int) * 2147483648) = ((b * 2 ^ 31 : Nat) : Int) := by rw [wrap_u32]; omega
      have hor : bits .or .u32 (m : Int) ((b : Int) * 2147483648) = (o : Int) := by
        have h := or_high m b 31 (by omega) (by omega)
        rw [show ((b * 2 ^ 31 : Nat) : Int) = (b : Int) * 2147483648 from by simp] at h
        rw [h, ← ho]; congr 1; omega
      have h3 : (x : Int) % 2 = (b' : Int) := by omega
      have h4 : (x : Int).tmod 2 = (b' : Int) := by rw [Int.tmod_eq_emod_of_nonneg (by omega)]; exact h3
      have HO : Aside (o < 4294967296) := ⟨by omega⟩
      have HST := Aside.mk (half_step HS.out hm hb' ho)
      have HB' : Aside (b' ≤ 1) := ⟨by omega⟩
      obtain ⟨ad', e', hcell2⟩ := (HU.out.ext (HB.out.set (p := ⟨w.heap.size, k, none⟩) (Nat.le_refl _) (.int .u32 (o : Int)))).at' k hlt
      injection e' with e'
      subst e'
      rw [HX.out] at hcell2
      clear hm hb' ho
      go_wp2
      go_roundw
      case rel =>
        refine ⟨k, b', zs.set k o, by omega, by first | rfl | go_num, by first | rfl | congr 1, HB'.out, ⟨HZ.out.store k HO.out⟩, ⟨HB.out.set (Nat.le_refl _) _⟩, ⟨by simp [HL.out]⟩, ⟨?_⟩⟩
        rw [val_drop xs k hlt, HX.out, val_drop _ k (by simp [HL.out]; exact hlt), drop_set_self, getD_set_at (by rw [HL.out]; exact hlt), if_pos rfl]
        exact HST.out
      case measure => simp [intOf]
    | zero =>
      have HE : Aside (val zs = val xs / 2) := ⟨by have := HS.out; rw [List.drop_zero, List.drop_zero] at this; omega⟩
      go_wp2_with (go_at_call 107; with_reducible refine (rshort_calls HZ.out).mono ?_; rintro e w' ⟨r, rfl, hr, rfl⟩; have HR := Aside.mk hr; clear hr)
      go_ret
      exact ⟨r, rfl, by rw [← HE.out]; exact HR.out, HB.out⟩
end Go.Proofs.YtgfkachfbnbikaaGreatDoor
