/- Contracts of package fluxionref01: Valid, Both, short, Of, digit, Compare. Plain arithmetic of binary digits and of the binary gcd. No program in sight. Contracts of package fluxionref01: Bits, bit, Sub, twice, half. Contracts of package fluxionref01: Sub, twice, half. Plain arithmetic of lists of decimal digits, and of texts made of them. No program in sight. Contracts of package fluxionref01: twice, half. Contract of fluxionref01.Div. append of a row that is read, nil or not. Contract of fluxionref01.Gcd. -/
import Derived.Test.YtcbaipnphepbeaaGreatDoorNc
import Derived.Test.YtcbaipnphepbeaaGreatDoorNa
import Derived.Test.YtcbaipnphepbeaaGreatDoorNb
import Derived.Deep.RegionHeld
import Derived.Shelf.RegionOpenPlain
import Derived.Deep.LoopGhost
namespace Go.Proofs.YtcbaipnphepbeaaGreatDoor
open Go.RowKit

theorem rdigit_calls {w : World} {v : Value} {xs : List Nat} {i : Int} {k x : Nat} (h : RV w v xs) (hi : i = (k : Int)) (hx : xs.getD k 0 = x) :
    Calls Tryz.prog 152 #[v, .int .i64 i] w fun e w' => e = .returned (.int .u64 (x : Int)) ∧ w = w' := by
  subst hi
  obtain ⟨A, c, rfl, hc, hd, hr⟩ := h
  have hl : xs.length ≤ 1073741824 := hd.1
  rcases Nat.lt_or_ge k xs.length with hk | hk
  · obtain ⟨ad, rfl, hcell⟩ := hr.at32 k hk
    rw [hx] at hcell
    have hx4 : x < 4294967296 := hx ▸ Ds.get hd.2 k
    clear hr hx hd
    go_enter Tryz.func152, Tryz.ntmps152
    go_wp2
    go_ret
    exact ⟨rfl, rfl⟩
  · obtain rfl : x = 0 := by rw [← hx, getD_ge hk]
    clear hr hx hd
    go_enter Tryz.func152, Tryz.ntmps152
    go_wp2
    go_ret
    exact ⟨rfl, rfl⟩


/-- short leaves zeros at the end out. -/
theorem rshort_calls {w : World} {b : Nat} {v : Value} {xs : List Nat} (h : OV b w v xs) :
    Calls Tryz.prog 127 #[v] w fun e w' => ∃ u, e = .returned u ∧ OV b w' u (dig (val xs)) ∧ w = w' := by
  obtain ⟨A, c, rfl, hc⟩ := h.form
  have hl : xs.length ≤ 1073741824 := h.1.1
  have H := Aside.mk h
  have hd : Ds xs := h.1.2
  have E : Aside (trimTo xs xs.length = dig (val xs)) := ⟨by rw [trimTo_dig hd _ (Nat.le_refl _), val_take_all]⟩
  clear h hd
  go_enter Tryz.func127, Tryz.ntmps127
  go_wp2
  go_loop [3] (fun n => ∃ k : Nat, k ≤ xs.length ∧ n = .int .i64 (k : Int) ∧ Aside (trimTo xs xs.length = trimTo xs k)) (fun n => (intOf n).toNat)
  case atStart => exact ⟨_, Nat.le_refl _, rfl, ⟨rfl⟩⟩
  case round =>
    obtain ⟨k, hk, rfl, HK⟩ := hrel
    cases k with
    | zero =>
      go_wp2
      go_ret
      exact ⟨.slice A 0 c, rfl, by rw [← E.out, HK.out]; exact H.out.take 0 (by omega), rfl⟩
    | succ k =>
      obtain ⟨ad, rfl, hx⟩ := (H.out.rv).at' k (by omega)
      have hkc : k ≤ c := by omega
      by_cases h0 : xs.getD k 0 = 0
      · have h00 : (((xs[k]?.getD 0 : Nat) : Int) == 0) = true := by rw [List.getD_eq_getElem?_getD] at h0; simp [h0]
        have HK' : Aside (trimTo xs xs.length = trimTo xs k) := ⟨by rw [HK.out, trimTo, if_pos h0]⟩
        clear h0 HK
        go_wp2
        go_round
        case rel => exact ⟨k, by omega, by first | rfl | (congr 1; omega), HK'⟩
        case measure => first | (simp [intOf]; done) | (simp [intOf]; omega)
      · have h00 : (((xs[k]?.getD 0 : Nat) : Int) == 0) = false := by rw [List.getD_eq_getElem?_getD] at h0; simp; omega
        have HK' : Aside (dig (val xs) = xs.take (k + 1)) := ⟨by rw [← E.out, HK.out, trimTo, if_neg h0]⟩
        clear h0 HK
        go_wp2
        go_ret
        exact ⟨.slice (some ad) (k + 1) c, rfl, by rw [HK'.out]; exact H.out.take (k + 1) hk, rfl⟩

/-- Of returns the digits of a number. -/
theorem rof_calls {w : World} {x : Nat} (hx : x < 18446744073709551616) :
    Calls Tryz.prog 89 #[.int .u64 (x : Int)] w fun e w' => ∃ r, e = .returned r ∧ OV w.heap.size w' r (dig x) ∧ Ext w w' := by
  obtain ⟨lo, hlo⟩ : ∃ lo, x % 4294967296 = lo := ⟨_, rfl⟩
  obtain ⟨hi, hhi⟩ : ∃ hi, x / 4294967296 = hi := ⟨_, rfl⟩
  have hl4 : lo < 4294967296 := by omega
  have hh4 : hi < 4294967296 := by omega
  have h1 : IntKind.u32.wrap (x : Int) = (lo : Int) := by rw [wrap_u32]; omega
  have h2 : (x : Int) / 4294967296 = (hi : Int) := by omega
  have h3 : IntKind.u32.wrap (hi : Int) = (hi : Int) := by rw [wrap_u32]; omega
  have hol := OV.lit w [lo, hi] (by simp) (Ds.cons hl4 (Ds.cons hh4 Ds.nil))
  simp only [u32s, List.map_cons, List.map_nil, List.length_cons, List.length_nil] at hol
  have HO := Aside.mk hol
  have HX : Aside (val [lo, hi] = x) := ⟨by simp [val]; omega⟩
  clear hol hl4 hh4 hlo hhi hx
  go_enter Tryz.func89, Tryz.ntmps89
  go_wp2_with (go_at_call 127; refine (rshort_calls HO.out).mono ?_; rintro e w' ⟨r, rfl, hr, rfl⟩; have HR := Aside.mk hr; clear hr)
  go_ret
  exact ⟨r, rfl, (by have h := HR.out; rw [HX.out] at h; exact h), (Ext.refl w).alloc _⟩

set_option maxHeartbeats 400000 in
/-- Compare compares numbers. -/
theorem rcompare_calls {w : World} {u v : Value} {a b : Nat} (hu : RV w u (dig a)) (hv : RV w v (dig b)) :
    Calls Tryz.prog 131 #[u, v] w fun e w' => e = .returned (.int .i64 (cmpN a b)) ∧ ∃ n, w' = w.drewN n := by
  have HC : (dig a).length = (dig b).length → Aside (cmpTo (dig a) (dig b) (dig a).length = cmpN a b) := fun e => ⟨by
    rw [cmpTo_val (ds_dig a) (ds_dig b) _ (Nat.le_refl _) (by omega), val_take_all, e, val_take_all, val_dig, val_dig]⟩
  have HL1 : (dig a).length < (dig b).length → Aside (cmpN a b = -1) := fun h => ⟨by have := cmp_len h; simp [cmpN, this]⟩
  have HL2 : (dig b).length < (dig a).length → Aside (cmpN a b = 1) := fun h => ⟨by have := cmp_len h; simp only [cmpN]; rw [if_neg (by omega), if_neg (by omega)]⟩
  generalize dig a = xs at *
  generalize dig b = ys at *
  generalize cmpN a b = cc at *
  obtain ⟨A, c, rfl, hc, hd, hr⟩ := id hu
  obtain ⟨B, d, rfl, hc', hd', hr'⟩ := id hv
  have HU := Aside.mk hu
  have HV := Aside.mk hv
  have hl : xs.length ≤ 1073741824 := hd.1
  have hl' : ys.length ≤ 1073741824 := hd'.1
  clear hu hv hd hd' hr hr'
  rcases Nat.lt_or_ge xs.length ys.length with h1 | h1
  · have HC := HL1 h1
    have hne : (((xs.length : Nat) : Int) != ((ys.length : Nat) : Int)) = true := by simp; omega
    clear HL1 HL2
    go_enter Tryz.func131, Tryz.ntmps131
    go_wp2
    go_ret
    exact ⟨by rw [HC.out]; rfl, 0, rfl⟩
  rcases Nat.lt_or_ge ys.length xs.length with h2 | h2
  · have HC := HL2 h2
    have hne : (((xs.length : Nat) : Int) != ((ys.length : Nat) : Int)) = true := by simp; omega
    clear HL1 HL2
    go_enter Tryz.func131, Tryz.ntmps131
    go_wp2
    go_ret
    exact ⟨by rw [HC.out]; rfl, 0, rfl⟩
  have HC := HC (by omega)
  have hll : xs.length = ys.length := by omega
  clear HL1 HL2
  have HLL := Aside.mk hll
  rw [← hll]
  clear hll h1 h2 hl'
  go_enter Tryz.func131, Tryz.ntmps131
  go_wp2
  go_loopw [5] (fun i wr => ∃ k : Nat, k ≤ xs.length ∧ i = .int .i64 ((k : Int) - 1) ∧ Aside (cc = cmpTo xs ys k) ∧ Aside (∃ n, wr = w.drewN n)) (fun i _ => (intOf i + 1).toNat)
  case atStart => exact ⟨xs.length, Nat.le_refl _, rfl, ⟨HC.out.symm⟩, ⟨0, rfl⟩⟩
  case round =>
    obtain ⟨k, hk, rfl, HK, HW⟩ := hrel
    cases k with
    | zero =>
      go_wp2
      go_ret
      exact ⟨by rw [HK.out]; rfl, HW.out⟩
    | succ k =>
      obtain ⟨ad, rfl, hx⟩ := HU.out.at' k (by omega)
      obtain ⟨bd, rfl, hy⟩ := HV.out.at' k (by have := HLL.out; omega)
      obtain ⟨n, rfl⟩ := HW.out
      have hK := HK.out
      simp only [cmpTo] at hK
      clear HK
      generalize xs.getD k 0 = x at hx hK
      generalize ys.getD k 0 = y at hy hK
      rcases Nat.lt_or_ge x y with hxy | hxy
      · rw [if_neg (by omega), if_pos hxy] at hK
        have HK := Aside.mk hK
        have hb : decide (x < y) = true := by simp; omega
        clear hK hxy
        go_wp2
        go_quiet (fail)
        go_wp2
        go_ret
        exact ⟨by rw [HK.out]; rfl, _, World.drewN_drewN _ _ _⟩
      · have hb : decide (x < y) = false := by simp; omega
        rcases Nat.lt_or_ge y x with hyx | hyx
        · rw [if_neg (by omega), if_neg (by omega)] at hK
          have HK := Aside.mk hK
          have hb2 : decide (y < x) = true := by simp; omega
          clear hK hxy hyx
          go_wp2
          go_quiet (fail)
          go_wp2
          go_quiet (fail)
          go_wp2
          go_ret
          exact ⟨by rw [HK.out]; rfl, drewN3 _ _ _ _⟩
        · rw [if_pos (by omega)] at hK
          have HK := Aside.mk hK
          have hb2 : decide (y < x) = false := by simp; omega
          clear hK hxy hyx
          go_wp2
          go_quiet (fail)
          go_wp2
          go_quiet (fail)
          go_wp2
          go_roundw
          case rel => exact ⟨k, by omega, rfl, HK, ⟨_, rfl⟩⟩
          case measure => simp [intOf]
end Go.Proofs.YtcbaipnphepbeaaGreatDoor

namespace Go.Proofs.YtcbaipnphepbeaaGreatDoor

theorem getD_dig (a k : Nat) : (dig a).getD k 0 = a / 4294967296 ^ k % 4294967296 := by
  induction k generalizing a with
  | zero =>
    by_cases h : a = 0
    · subst h; rw [dig_zero]; rfl
    · rw [dig_pos h]; simp
  | succ k ih =>
    by_cases h : a = 0
    · subst h; rw [dig_zero]; simp
    · rw [dig_pos h, List.getD_cons_succ, ih, Nat.div_div_eq_div_mul, Nat.pow_succ', ]
theorem B_pow (k : Nat) : (4294967296 : Nat) ^ k = 2 ^ (32 * k) := by rw [Nat.pow_mul]
/-- A binary digit of a number. -/
theorem bit_dig (a i : Nat) : (dig a).getD (i / 32) 0 / 2 ^ (i % 32) % 2 = a / 2 ^ i % 2 := by
  rw [getD_dig, B_pow, show (4294967296 : Nat) = 2 ^ 32 from rfl]
  have h : (a / 2 ^ (32 * (i / 32)) % 2 ^ 32).testBit (i % 32) = a.testBit i := by
    rw [Nat.testBit_mod_two_pow, Nat.testBit_div_two_pow, show i % 32 + 32 * (i / 32) = i from by omega]
    have : i % 32 < 32 := Nat.mod_lt _ (by decide)
    simp [this]
  rw [Nat.testBit_eq_decide_div_mod_eq, Nat.testBit_eq_decide_div_mod_eq] at h
  have h1 := Nat.mod_two_eq_zero_or_one (a / 2 ^ (32 * (i / 32)) % 2 ^ 32 / 2 ^ (i % 32))
  have h2 := Nat.mod_two_eq_zero_or_one (a / 2 ^ i)
  rw [decide_eq_decide] at h
  omega
theorem div_two_step (a j : Nat) : a / 2 ^ j = 2 * (a / 2 ^ (j + 1)) + a / 2 ^ j % 2 := by
  rw [Nat.pow_succ, ← Nat.div_div_eq_div_mul]; omega
/-- One step of the long division by binary digits. -/
theorem div_step {a b j r : Nat} (hb : 0 < b) (hr : r = a / 2 ^ (j + 1) % b) :
    a / 2 ^ j % b = (if b ≤ 2 * r + a / 2 ^ j % 2 then 2 * r + a / 2 ^ j % 2 - b else 2 * r + a / 2 ^ j % 2) ∧
    a / 2 ^ j / b = 2 * (a / 2 ^ (j + 1) / b) + (if b ≤ 2 * r + a / 2 ^ j % 2 then 1 else 0) := by
  have h := div_two_step a j
  generalize a / 2 ^ (j + 1) = m at *
  generalize ht : a / 2 ^ j % 2 = t at *
  have ht2 : t ≤ 1 := by omega
  rw [h]
  have hm := Nat.div_add_mod m b
  rw [← hr] at hm
  have hrb : r < b := hr ▸ Nat.mod_lt _ hb
  have e : 2 * m + t = b * (2 * (m / b)) + (2 * r + t) := by
    generalize m / b = q at *
    rw [← hm, Nat.mul_add, Nat.mul_left_comm]; omega
  rw [e, Nat.mul_add_mod, Nat.mul_add_div hb]
  split
  · rename_i hle
    have h1 : (2 * r + t) / b = 1 := by
      apply Nat.div_eq_of_lt_le <;> omega
    have h2 : (2 * r + t) % b = 2 * r + t - b := by
      rw [Nat.mod_eq_sub_mod hle, Nat.mod_eq_of_lt (by omega)]
    exact ⟨h2, by rw [h1]⟩
  · rename_i hle
    exact ⟨Nat.mod_eq_of_lt (by omega), by rw [Nat.div_eq_of_lt (show 2 * r + t < b by omega)]⟩
/-- A binary digit is set in a list of digits that has zeros from there on down. -/
theorem set_bit {zs : List Nat} (hd : Ds zs) {q j : Nat} (hv : val zs = q * 2 ^ (j + 1)) (hj : j / 32 < zs.length) :
    val (zs.set (j / 32) (zs.getD (j / 32) 0 + 2 ^ (j % 32))) = (2 * q + 1) * 2 ^ j ∧ zs.getD (j / 32) 0 % 2 ^ (j % 32 + 1) = 0 ∧ zs.getD (j / 32) 0 + 2 ^ (j % 32) < 4294967296 := by
  have h1 := val_set (zs.getD (j / 32) 0 + 2 ^ (j % 32)) hj
  have hg : zs.getD (j / 32) 0 < 4294967296 := Ds.get hd _
  have hs := val_split zs (j / 32) (by omega)
  have hdr : val (zs.drop (j / 32)) = zs.getD (j / 32) 0 + 4294967296 * val (zs.drop (j / 32 + 1)) := by
    rw [List.drop_eq_getElem_cons hj]; simp [val, List.getD_eq_getElem?_getD, List.getElem?_eq_getElem hj]
  have hlt := val_lt (hd.take (j / 32))
  rw [List.length_take, Nat.min_eq_left (by omega)] at hlt
  have hm : zs.getD (j / 32) 0 % 2 ^ (j % 32 + 1) = 0 := by
    have e1 : val zs / 4294967296 ^ (j / 32) = val (zs.drop (j / 32)) := by
      rw [hs, Nat.add_comm, Nat.mul_add_div (Nat.pow_pos (by decide)), Nat.div_eq_of_lt hlt, Nat.add_zero]
    have e2 : val zs / 4294967296 ^ (j / 32) = q * 2 ^ (j % 32 + 1) := by
      rw [hv, B_pow, show j + 1 = (j % 32 + 1) + 32 * (j / 32) from by omega, Nat.pow_add, ← Nat.mul_assoc, Nat.mul_div_cancel _ (Nat.two_pow_pos _)]
    have e3 : zs.getD (j / 32) 0 = val (zs.drop (j / 32)) % 4294967296 := by rw [hdr]; omega
    rw [e3, ← e1, e2, show (4294967296 : Nat) = 2 ^ (j % 32 + 1) * 2 ^ (31 - j % 32) from by rw [← Nat.pow_add, show j % 32 + 1 + (31 - j % 32) = 32 from by omega], Nat.mod_mul_right_mod, Nat.mul_mod_left]
  have hlt2 : zs.getD (j / 32) 0 + 2 ^ (j % 32) < 4294967296 := by
    generalize zs.getD (j / 32) 0 = x at *
    have e : (4294967296 : Nat) = 2 ^ (j % 32 + 1) * 2 ^ (31 - j % 32) := by rw [← Nat.pow_add, show j % 32 + 1 + (31 - j % 32) = 32 from by omega]
    have hx : x = 2 ^ (j % 32 + 1) * (x / 2 ^ (j % 32 + 1)) := by have := Nat.div_add_mod x (2 ^ (j % 32 + 1)); omega
    have hq : x / 2 ^ (j % 32 + 1) < 2 ^ (31 - j % 32) := by
      apply Nat.div_lt_of_lt_mul; rw [← e]; exact hg
    have h2 : 2 ^ (j % 32 + 1) * (x / 2 ^ (j % 32 + 1) + 1) ≤ 4294967296 := by rw [e]; exact Nat.mul_le_mul_left _ hq
    rw [Nat.mul_add, ← hx, Nat.mul_one, Nat.pow_succ] at h2
    have := Nat.two_pow_pos (j % 32)
    omega
  refine ⟨?_, hm, hlt2⟩
  rw [Nat.mul_add] at h1
  have e4 : 4294967296 ^ (j / 32) * 2 ^ (j % 32) = 2 ^ j := by rw [B_pow, ← Nat.pow_add, show 32 * (j / 32) + j % 32 = j from by omega]
  rw [e4, hv] at h1
  have e5 : (2 * q + 1) * 2 ^ j = q * 2 ^ (j + 1) + 2 ^ j := by
    rw [Nat.add_mul, Nat.one_mul, Nat.pow_succ, Nat.mul_comm 2 q, Nat.mul_assoc, Nat.mul_comm 2]
  rw [e5]
  omega
theorem or_bit {d r : Nat} (h : d % 2 ^ (r + 1) = 0) : d ||| 2 ^ r = d + 2 ^ r := by
  have hd : d = 2 ^ (r + 1) * (d / 2 ^ (r + 1)) := by have := Nat.div_add_mod d (2 ^ (r + 1)); omega
  have := Nat.two_pow_add_eq_or_of_lt (i := r + 1) (b := 2 ^ r) (by rw [Nat.pow_succ]; have := Nat.two_pow_pos r; omega) (d / 2 ^ (r + 1))
  rw [← hd] at this
  exact this.symm

/-! The binary gcd -/
theorem gcd_half_left {x y h : Nat} (hg : Nat.gcd x y = h) (ho : h % 2 = 1) (hx : x % 2 = 0) : Nat.gcd (x / 2) y = h := by
  have hy : y % 2 = 1 := by
    rcases Nat.mod_two_eq_zero_or_one y with h0 | h0
    · have := Nat.dvd_gcd (Nat.dvd_of_mod_eq_zero hx) (Nat.dvd_of_mod_eq_zero h0)
      rw [hg] at this; have := Nat.mod_eq_zero_of_dvd this; omega
    · exact h0
  have hc : Nat.Coprime 2 y := by
    have hd := Nat.gcd_dvd_left 2 y
    have h2 := Nat.gcd_dvd_right 2 y
    have hle := Nat.le_of_dvd (by decide) hd
    have : Nat.gcd 2 y ≠ 2 := by intro h; rw [h] at h2; have := Nat.mod_eq_zero_of_dvd h2; omega
    have h0 : 0 < Nat.gcd 2 y := Nat.gcd_pos_of_pos_left _ (by decide)
    show Nat.gcd 2 y = 1
    omega
  have := Nat.Coprime.gcd_mul_left_cancel (x / 2) hc
  rw [show 2 * (x / 2) = x from by omega, hg] at this
  exact this.symm
theorem gcd_half_right {x y h : Nat} (hg : Nat.gcd x y = h) (ho : h % 2 = 1) (hy : y % 2 = 0) : Nat.gcd x (y / 2) = h := by
  rw [Nat.gcd_comm]; rw [Nat.gcd_comm] at hg; exact gcd_half_left hg ho hy
theorem gcd_sub {x y h : Nat} (hg : Nat.gcd x y = h) (hle : x ≤ y) : Nat.gcd x (y - x) = h := by
  rw [← hg]; exact Nat.gcd_sub_self_right hle
theorem gcd_odd {x y : Nat} (h : ¬ (x % 2 = 0 ∧ y % 2 = 0)) : Nat.gcd x y % 2 = 1 := by
  rcases Nat.mod_two_eq_zero_or_one (Nat.gcd x y) with h0 | h0
  · exfalso; apply h
    have hd := Nat.dvd_of_mod_eq_zero h0
    exact ⟨Nat.mod_eq_zero_of_dvd (Nat.dvd_trans hd (Nat.gcd_dvd_left x y)), Nat.mod_eq_zero_of_dvd (Nat.dvd_trans hd (Nat.gcd_dvd_right x y))⟩
  · exact h0
theorem gcd_halves {x y : Nat} (hx : x % 2 = 0) (hy : y % 2 = 0) : Nat.gcd x y = 2 * Nat.gcd (x / 2) (y / 2) := by
  have := Nat.gcd_mul_left 2 (x / 2) (y / 2)
  rw [show 2 * (x / 2) = x from by omega, show 2 * (y / 2) = y from by omega] at this
  exact this
theorem val_mod2 (a : Nat) : (dig a).getD 0 0 % 2 = a % 2 := by rw [getD_dig]; simp
theorem dig_length_pos {a : Nat} (h : 0 < a) : 0 < (dig a).length := by
  have : dig a ≠ [] := fun e => by have := dig_nil_iff.1 e; omega
  exact List.length_pos_iff.2 this
end Go.Proofs.YtcbaipnphepbeaaGreatDoor

namespace Go.Proofs.YtcbaipnphepbeaaGreatDoor
open Go.RowKit

theorem blen_half {d : Nat} (h : 0 < d) : blen d = blen (d / 2) + 1 := by
  unfold blen
  rw [if_neg (by omega)]
  by_cases h2 : d / 2 = 0
  · rw [if_pos h2]
    obtain rfl : d = 1 := by omega
    rfl
  · rw [if_neg h2, Nat.log2_def d, if_pos (by omega)]
set_option maxRecDepth 10000 in
theorem rbits_calls {w : World} {u : Value} {a m : Nat} (h : RV w u (dig a)) (hm : blen a = m) :
    Calls Tryz.prog 170 #[u] w fun e w' => e = .returned (.int .i64 (m : Int)) ∧ w = w' := by
  subst hm
  obtain ⟨A, c, rfl, hc, hd, hr⟩ := h
  have hl : (dig a).length ≤ 1073741824 := hd.1
  rcases Nat.eq_zero_or_pos a with rfl | ha
  · have h0 : (dig 0).length = 0 := by rw [dig_zero]; rfl
    clear hr hd
    rw [h0]
    go_enter Tryz.func170, Tryz.ntmps170
    go_wp2
    go_ret
    exact ⟨rfl, rfl⟩
  · obtain ⟨k, hk⟩ : ∃ k, (dig a).length = k + 1 := ⟨(dig a).length - 1, by
      have : (dig a).length ≠ 0 := fun h => by have := dig_nil_iff.1 (List.eq_nil_of_length_eq_zero h); omega
      omega⟩
    obtain ⟨t, ht⟩ : ∃ t, (dig a).getD k 0 = t := ⟨_, rfl⟩
    obtain ⟨ht0, ht4, hb⟩ := blen_dig hk ht
    obtain ⟨bd, rfl, hcell⟩ := Rd.at32 hr k (by omega)
    rw [ht] at hcell
    obtain ⟨z, hz⟩ : ∃ z, (dig a).length = z := ⟨_, rfl⟩
    rw [hz] at hc hl hk
    rw [hz]
    have hz1 : (z : Int) - 1 = (k : Int) := by omega
    have hzne : ((z : Int) == 0) = false := by simp; omega
    have hkz : k < z := by omega
    have hb32 : blen t ≤ 32 := blen_le.2 (by omega)
    have HB : Aside ((blen a : Int) = 32 * (k : Int) + (blen t : Int)) := ⟨by rw [hb]; simp⟩
    have HT4 := Aside.mk ht4
    have HT0 := Aside.mk ht0
    clear hr hd hk ht hz hb ht4 ht0
    go_enter Tryz.func170, Tryz.ntmps170
    go_wp2
    go_loop [3, 4] (fun n d => ∃ (i m : Nat), n = .int .i64 (32 * (k : Int) + (i : Int)) ∧ d = .int .u32 (m : Int) ∧ i ≤ 32 ∧ Aside (m < 4294967296) ∧ Aside (blen t = i + blen m)) (fun _ d => (intOf d).toNat)
    case atStart => exact ⟨0, t, by simp, rfl, by omega, HT4, ⟨by omega⟩⟩
    case round =>
      obtain ⟨i, m, rfl, rfl, hi, HM, HS⟩ := hrel
      rcases Nat.eq_zero_or_pos m with rfl | hm
      · have HE : Aside (blen t = i) := ⟨by have := HS.out; rw [show blen 0 = 0 from rfl] at this; omega⟩
        go_wp2
        go_ret
        exact ⟨by rw [HB.out, HE.out]; rfl, rfl⟩
      · have hbm := blen_half hm
        have hi1 : i + 1 ≤ 32 := by have := HS.out; omega
        have HS' : Aside (blen t = (i + 1) + blen (m / 2)) := ⟨by have := HS.out; omega⟩
        obtain ⟨q, hq⟩ : ∃ q, m / 2 = q := ⟨_, rfl⟩
        have hm2 : (m : Int) / 2 = (q : Int) := by omega
        have hqm : q < m := by omega
        rw [hq] at HS'
        clear hbm hq
        go_wp2
        go_round
        case rel => exact ⟨i + 1, q, by go_num, by first | rfl | (congr 1; have := HM.out; omega), hi1, ⟨by have := HM.out; omega⟩, HS'⟩
        case measure => simp [intOf]; omega

theorem bit_lt {a i : Nat} (hi : i < blen a) : i / 32 < (dig a).length := by
  rcases Nat.lt_or_ge (i / 32) (dig a).length with h | h
  · exact h
  · exfalso
    have h1 := lt_of_dig_length h
    rw [B_pow] at h1
    have h2 := blen_le.2 h1
    clear h1
    omega
theorem tdiv_32 {i j : Nat} (h : i / 32 = j) : (i : Int).tdiv 32 = (j : Int) := by
  rw [Int.tdiv_eq_ediv_of_nonneg (by omega)]; omega
theorem tmod_32 {i j : Nat} (h : i % 32 = j) : (i : Int).tmod 32 = (j : Int) := by
  rw [Int.tmod_eq_emod_of_nonneg (by omega)]; omega
theorem wrap64_small {j : Nat} (h : j ≤ 1073741824) : wrap64 (j : Int) = (j : Int) := by unfold wrap64; omega
set_option maxRecDepth 10000 in
theorem rbit_calls {w : World} {u : Value} {a i m : Nat} (h : RV w u (dig a)) (hi : i < blen a) (hm : a / 2 ^ i % 2 = m) :
    Calls Tryz.prog 171 #[u, .int .i64 (i : Int)] w fun e w' => e = .returned (.int .u32 (m : Int)) ∧ w = w' := by
  obtain ⟨A, c, rfl, hc, hd, hr⟩ := h
  have hl : (dig a).length ≤ 1073741824 := hd.1
  have hlt : i / 32 < (dig a).length := bit_lt hi
  obtain ⟨x, hx⟩ : ∃ x, (dig a).getD (i / 32) 0 = x := ⟨_, rfl⟩
  have hb := bit_dig a i
  rw [hx, hm] at hb
  clear hm
  obtain ⟨ad, rfl, hcell⟩ := hr.at32 (i / 32) hlt
  rw [hx] at hcell
  clear hx hr hd hi
  obtain ⟨j, hj⟩ : ∃ j, i / 32 = j := ⟨_, rfl⟩
  obtain ⟨r, hr2⟩ : ∃ r, i % 32 = r := ⟨_, rfl⟩
  rw [hj] at hcell hlt
  rw [hr2] at hb
  have h1 := tdiv_32 hj
  have h2 := tmod_32 hr2
  have hr32 : r < 32 := by rw [← hr2]; exact Nat.mod_lt _ (by decide)
  have hw1 : wrap64 (j : Int) = (j : Int) := wrap64_small (Nat.le_trans (Nat.le_of_lt hlt) hl)
  have hw2 : wrap64 (r : Int) = (r : Int) := wrap64_small (Nat.le_trans (Nat.le_of_lt hr32) (by decide))
  obtain ⟨y, hy⟩ : ∃ y, x / 2 ^ r = y := ⟨_, rfl⟩
  have h3 : (x : Int) / 2 ^ r = (y : Int) := by rw [← hy]; simp
  have HB : Aside (((y % 2 : Nat) : Int) = (m : Int)) := ⟨by rw [← hb, hy]⟩
  clear hb hj hr2 hl hy
  go_enter Tryz.func171, Tryz.ntmps171
  go_wp2
  go_ret
  exact ⟨by rw [← HB.out]; rfl, rfl⟩
end Go.Proofs.YtcbaipnphepbeaaGreatDoor

namespace Go.Proofs.YtcbaipnphepbeaaGreatDoor
open Go.RowKit

theorem set_zero {zs : List Nat} {k v : Nat} (h : val zs < 4294967296 ^ k) (hk : k < zs.length) (hv : v < 4294967296) : val (zs.set k v) = val zs + 4294967296 ^ k * v ∧ val (zs.set k v) < 4294967296 ^ (k + 1) := by
  have h1 := val_set v hk
  rw [getD_zero_of_val h, Nat.mul_zero, Nat.add_zero] at h1
  refine ⟨h1, ?_⟩
  rw [h1, Nat.pow_succ]
  have : 4294967296 ^ k * v + 4294967296 ^ k ≤ 4294967296 ^ k * 4294967296 := by rw [← Nat.mul_succ]; exact Nat.mul_le_mul_left _ hv
  omega

set_option maxHeartbeats 1000000 in
theorem rsub_calls {w : World} {u v : Value} {xs ys : List Nat} (hu : RV w u xs) (hv : RV w v ys) (hlen : ys.length ≤ xs.length) (hle : val ys ≤ val xs) :
    Calls Tryz.prog 132 #[u, v] w fun e w' => ∃ r, e = .returned r ∧ OV w.heap.size w' r (dig (val xs - val ys)) ∧ Ext w w' := by
  obtain ⟨A, c, rfl, hc, hd, hr⟩ := id hu
  obtain ⟨B, d, rfl, hc', hd', hr'⟩ := id hv
  have HU := Aside.mk hu
  have HV := Aside.mk hv
  have hl : xs.length ≤ 1073741824 := hd.1
  have HLE := Aside.mk hle
  have HLEN := Aside.mk hlen
  clear hu hv hd hd' hr hr' hle hlen
  go_enter Tryz.func132, Tryz.ntmps132
  go_wp2_with (refine make_u32 _ rfl _ _ rfl xs.length _ _ rfl rfl (by omega) (by omega) hl ?_; intro w1 z hz0 hb1 hz1; subst hz1; have HZ0 := Aside.mk hz0; have HB0 := Aside.mk hb1; clear hz0 hb1)
  go_loopw [6, 7] (fun cr i wr => ∃ (k c : Nat) (zs : List Nat), k ≤ xs.length ∧ i = .int .i64 (k : Int) ∧ cr = .int .u64 (c : Int) ∧ c ≤ 1 ∧ Aside (OV w.heap.size wr (.slice (some ⟨w.heap.size, 0, none⟩) xs.length xs.length) zs) ∧ Aside (Ext w wr) ∧ Aside (zs.length = xs.length) ∧
    Aside (val (xs.take k) + 4294967296 ^ k * c = val zs + val (ys.take k)) ∧ Aside (val zs < 4294967296 ^ k)) (fun _ i _ => xs.length - (intOf i).toNat)
  case atStart => exact ⟨0, 0, _, Nat.zero_le _, rfl, rfl, by omega, HZ0, HB0, ⟨by simp⟩, ⟨by simp [val, val_zeros]⟩, ⟨by rw [val_zeros]; decide⟩⟩
  case round =>
    obtain ⟨k, cr, zs, hk, rfl, rfl, hcr, HZ, HB, HL, HS, HT⟩ := hrel
    by_cases hlt : k < xs.length
    · obtain ⟨x, hx⟩ : ∃ x, xs.getD k 0 = x := ⟨_, rfl⟩
      obtain ⟨y, hy⟩ : ∃ y, ys.getD k 0 = y := ⟨_, rfl⟩
      have hx4 : x < 4294967296 := hx ▸ HU.out.dg.get k
      have hy4 : y < 4294967296 := hy ▸ HV.out.dg.get k
      obtain ⟨ad, rfl, hcell⟩ := (HU.out.ext HB.out).at' k hlt
      rw [hx] at hcell
      have HX := Aside.mk hx
      have HY := Aside.mk hy
      clear hx hy
      have hzc := HZ.out.cell k (by rw [HL.out]; exact hlt)
      have hzf := HZ.out.free k
      go_wp2
      go_region_with (go_at_call 152; with_reducible refine (rdigit_calls (HV.out.ext (HB.out.drew)) rfl HY.out).mono ?_; rintro e w' ⟨rfl, rfl⟩)
      all_goals
        obtain ⟨D, hD⟩ : ∃ D, x + 4294967296 - y - cr = D := ⟨_, rfl⟩
        have e1 : (IntKind.u64.wrap (IntKind.u64.wrap (IntKind.u64.wrap (IntKind.u64.wrap (x : Int) + 4294967296) - (y : Int)) - (cr : Int))) = (D : Int) := by simp only [wrap_u64]; omega
        obtain ⟨o, ho⟩ : ∃ o, D % 4294967296 = o := ⟨_, rfl⟩
        have e2 : IntKind.u32.wrap (D : Int) = (o : Int) := by rw [wrap_u32]; omega
        rcases Nat.lt_or_ge x (y + cr) with hb | hb
        · have e3 : (D : Int) / 4294967296 = 0 := by omega
          have HO4 : Aside (o < 4294967296) := ⟨by omega⟩
          have HO : Aside (x + 4294967296 * 1 = o + y + cr) := ⟨by omega⟩
          clear hD ho hb
          go_wp2
          go_roundw
          case rel =>
            have hsz := set_zero HT.out (show k < zs.length by rw [HL.out]; exact hlt) HO4.out
            refine ⟨k + 1, 1, zs.set k o, by omega, by go_num, by first | rfl | congr 1, by omega, ⟨(HZ.out.ext (Ext.refl _).drew).store k HO4.out⟩, ⟨HB.out.drew.set (Nat.le_refl _) _⟩, ⟨by simp [HL.out]⟩, ⟨?_⟩, ⟨hsz.2⟩⟩
            rw [val_take_step xs, val_take_step ys, HX.out, HY.out, hsz.1, Nat.pow_succ]
            exact dif_step HS.out HO.out
          case measure => simp [intOf]; omega
        · have e3 : (D : Int) / 4294967296 = 1 := by omega
          have HO4 : Aside (o < 4294967296) := ⟨by omega⟩
          have HO : Aside (x + 4294967296 * 0 = o + y + cr) := ⟨by omega⟩
          clear hD ho hb
          go_wp2
          go_roundw
          case rel =>
            have hsz := set_zero HT.out (show k < zs.length by rw [HL.out]; exact hlt) HO4.out
            refine ⟨k + 1, 0, zs.set k o, by omega, by go_num, by first | rfl | congr 1, by omega, ⟨(HZ.out.ext (Ext.refl _).drew).store k HO4.out⟩, ⟨HB.out.drew.set (Nat.le_refl _) _⟩, ⟨by simp [HL.out]⟩, ⟨?_⟩, ⟨hsz.2⟩⟩
            rw [val_take_step xs, val_take_step ys, HX.out, HY.out, hsz.1, Nat.pow_succ]
            exact dif_step HS.out HO.out
          case measure => simp [intOf]; omega
    · have hkm : k = xs.length := by omega
      subst hkm
      have HE : Aside (val zs = val xs - val ys) := ⟨by
        have h1 := HS.out
        rw [val_take_all, val_take_ge HLEN.out] at h1
        have h2 := HT.out
        have h3 := HLE.out
        rcases Nat.lt_or_ge 0 cr with h4 | h4
        · have : cr = 1 := by omega
          subst this
          omega
        · have : cr = 0 := by omega
          subst this
          omega⟩
      go_wp2_with (go_at_call 127; with_reducible refine (rshort_calls HZ.out).mono ?_; rintro e w' ⟨r, rfl, hr, rfl⟩; have HR := Aside.mk hr; clear hr)
      go_ret
      exact ⟨r, rfl, by rw [← HE.out]; exact HR.out, HB.out⟩
end Go.Proofs.YtcbaipnphepbeaaGreatDoor

namespace Go.Proofs.YtcbaipnphepbeaaGreatDoor

/-- The number of a list of decimal digits, the least first. -/
def v10 : List Nat → Nat
  | [] => 0
  | x :: xs => x + 10 * v10 xs
/-- The decimal digits of a number, the least first. -/
def d10 (n : Nat) : List Nat := if h : n = 0 then [] else (n % 10) :: d10 (n / 10)
termination_by n
decreasing_by omega
theorem d10_zero : d10 0 = [] := by rw [d10]; simp
theorem d10_pos {n : Nat} (h : n ≠ 0) : d10 n = (n % 10) :: d10 (n / 10) := by rw [d10]; simp [h]
theorem v10_d10 (n : Nat) : v10 (d10 n) = n := by
  induction n using Nat.strongRecOn with
  | _ n ih =>
    by_cases h : n = 0
    · subst h; rw [d10_zero]; rfl
    · rw [d10_pos h, v10, ih (n / 10) (by omega)]; omega
def D10 (xs : List Nat) : Prop := ∀ x ∈ xs, x < 10
theorem D10.nil : D10 [] := by intro x h; cases h
theorem D10.cons {x : Nat} {xs : List Nat} (hx : x < 10) (h : D10 xs) : D10 (x :: xs) := by
  intro y hy; rcases List.mem_cons.1 hy with rfl | hy
  · exact hx
  · exact h y hy
theorem D10.tail {x : Nat} {xs : List Nat} (h : D10 (x :: xs)) : D10 xs := fun y hy => h y (List.mem_cons_of_mem _ hy)
theorem D10.head {x : Nat} {xs : List Nat} (h : D10 (x :: xs)) : x < 10 := h x List.mem_cons_self
theorem D10.append {xs ys : List Nat} (h : D10 xs) (k : D10 ys) : D10 (xs ++ ys) := fun x hx => (List.mem_append.1 hx).elim (h x) (k x)
theorem D10.snoc {xs : List Nat} {x : Nat} (h : D10 xs) (k : x < 10) : D10 (xs ++ [x]) := h.append (D10.cons k D10.nil)
theorem D10.take {xs : List Nat} (h : D10 xs) (n : Nat) : D10 (xs.take n) := fun x hx => h x (List.mem_of_mem_take hx)
theorem d10_lt (n : Nat) : D10 (d10 n) := by
  induction n using Nat.strongRecOn with
  | _ n ih =>
    by_cases h : n = 0
    · subst h; rw [d10_zero]; exact D10.nil
    · rw [d10_pos h]; exact D10.cons (by omega) (ih _ (by omega))
theorem v10_append (xs ys : List Nat) : v10 (xs ++ ys) = v10 xs + 10 ^ xs.length * v10 ys := by
  induction xs with
  | nil => simp [v10]
  | cons x xs ih => simp only [List.cons_append, v10, ih, List.length_cons, Nat.pow_succ, Nat.mul_add]; rw [← Nat.mul_assoc, Nat.mul_comm 10 (10 ^ xs.length)]; omega
theorem v10_snoc (xs : List Nat) (x : Nat) : v10 (xs ++ [x]) = v10 xs + 10 ^ xs.length * x := by rw [v10_append]; simp [v10]
theorem v10_lt {xs : List Nat} (h : D10 xs) : v10 xs < 10 ^ xs.length := by
  induction xs with
  | nil => decide
  | cons x xs ih =>
    have h1 := ih h.tail
    have h2 := h.head
    simp only [v10, List.length_cons, Nat.pow_succ]
    omega
theorem v10_pos_of_nz {xs : List Nat} (h : Nz xs) (hx : xs ≠ []) : 0 < v10 xs := by
  induction xs with
  | nil => exact absurd rfl hx
  | cons x xs ih =>
    cases xs with
    | nil => have := h (by simp); simp at this; simp [v10]; omega
    | cons y ys => have := ih h.tail (by simp); simp only [v10] at this ⊢; omega
theorem d10_v10 {xs : List Nat} (hd : D10 xs) (hn : Nz xs) : d10 (v10 xs) = xs := by
  induction xs with
  | nil => simp [v10, d10_zero]
  | cons x xs ih =>
    have hp := v10_pos_of_nz hn (by simp)
    have hx := hd.head
    rw [d10_pos (by omega)]
    simp only [v10]
    rw [show (x + 10 * v10 xs) % 10 = x from by omega, show (x + 10 * v10 xs) / 10 = v10 xs from by omega, ih hd.tail hn.tail]
theorem nz_d10 (n : Nat) : Nz (d10 n) := by
  induction n using Nat.strongRecOn with
  | _ n ih =>
    by_cases h : n = 0
    · subst h; rw [d10_zero]; exact Nz.nil
    · rw [d10_pos h]
      intro _
      by_cases h2 : n / 10 = 0
      · rw [h2, d10_zero]; simp; omega
      · have := ih (n / 10) (by omega) (by rw [d10_pos h2]; simp)
        rw [d10_pos h2] at this ⊢
        simpa using this
theorem d10_length_le {n k : Nat} (h : n < 10 ^ k) : (d10 n).length ≤ k := by
  induction k generalizing n with
  | zero => have : n = 0 := by simpa using h
            subst this; simp [d10_zero]
  | succ k ih =>
    by_cases h0 : n = 0
    · subst h0; simp [d10_zero]
    · rw [d10_pos h0, List.length_cons]
      have : n / 10 < 10 ^ k := by rw [Nat.pow_succ] at h; omega
      have := ih this
      omega
theorem d10_nil_iff {n : Nat} : d10 n = [] ↔ n = 0 := ⟨fun h => by have := v10_d10 n; rw [h] at this; exact this.symm, fun h => by subst h; exact d10_zero⟩
theorem v10_take_succ (xs : List Nat) (i : Nat) (h : i < xs.length) : v10 (xs.take (i + 1)) = v10 (xs.take i) + 10 ^ i * xs.getD i 0 := by
  rw [take_succ_get xs i h, v10_snoc]; simp [Nat.min_eq_left (Nat.le_of_lt h)]
/-- Zeros at the end left out. -/
theorem trimTo_d10 {xs : List Nat} (hd : D10 xs) : ∀ n, n ≤ xs.length → trimTo xs n = d10 (v10 (xs.take n))
  | 0, _ => by simp [trimTo, v10, d10_zero]
  | n + 1, h => by
    simp only [trimTo]
    split
    · rename_i h0
      rw [trimTo_d10 hd n (by omega), v10_take_succ xs n (by omega), h0]; simp
    · rename_i h0
      rw [d10_v10 (hd.take _)]
      intro _
      rw [List.length_take, Nat.min_eq_left h, Nat.add_sub_cancel, take_succ_get xs n (by omega)]
      have : (xs.take n).length = n := by rw [List.length_take, Nat.min_eq_left (by omega)]
      conv => lhs; arg 2; rw [← this]
      rw [getD_append_last]
      exact h0

/-! Texts -/
/-- The sign of a decimal digit. -/
def chr (x : Nat) : UInt8 := UInt8.ofNat (48 + x)
theorem chr_nat {x : Nat} (h : x < 10) : (chr x).toNat = 48 + x := by
  unfold chr; rw [UInt8.toNat_ofNat']; omega
/-- The decimal digits of a number, as a text. -/
def dtext (a : Nat) : List UInt8 := if a = 0 then [48] else ((d10 a).map chr).reverse
/-- Is a byte the sign of a decimal digit? -/
def isd (c : UInt8) : Bool := decide (48 ≤ c.toNat) && decide (c.toNat ≤ 57)
/-- The number of a text of decimal digits. -/
def dval (l : List UInt8) : Nat := l.foldl (fun v c => 10 * v + (c.toNat - 48)) 0
theorem dval_snoc (l : List UInt8) (c : UInt8) : dval (l ++ [c]) = 10 * dval l + (c.toNat - 48) := by simp [dval]
/-- The error of a text that is to be a natural number. -/
def perr (l : List UInt8) : Nat := if 4900 < l.length then 3 else if l = [] ∨ (l.head? = some 48 ∧ 1 < l.length) then 5 else if l.all isd then 0 else 5

theorem dval_map_chr {xs : List Nat} (h : D10 xs) : dval ((xs.map chr).reverse) = v10 xs := by
  induction xs with
  | nil => rfl
  | cons x xs ih =>
    rw [List.map_cons, List.reverse_cons, dval_snoc, ih h.tail, chr_nat h.head, v10]; omega
theorem dval_dtext (a : Nat) : dval (dtext a) = a := by
  unfold dtext
  split
  · rename_i h; subst h; rfl
  · rw [dval_map_chr (d10_lt a), v10_d10]
theorem isd_chr {x : Nat} (h : x < 10) : isd (chr x) = true := by
  unfold isd; rw [chr_nat h]; simp; omega
theorem chr_of_isd {c : UInt8} (h : isd c = true) : chr (c.toNat - 48) = c ∧ c.toNat - 48 < 10 := by
  unfold isd at h
  simp only [Bool.and_eq_true, decide_eq_true_eq] at h
  refine ⟨?_, by omega⟩
  apply UInt8.toNat_inj.1
  rw [chr_nat (by omega)]; omega
theorem all_isd_chr {xs : List Nat} (h : D10 xs) : ((xs.map chr).reverse).all isd = true := by
  rw [List.all_eq_true]
  intro c hc
  rw [List.mem_reverse, List.mem_map] at hc
  obtain ⟨x, hx, rfl⟩ := hc
  exact isd_chr (h x hx)
theorem chars_of_all {l : List UInt8} (h : l.all isd = true) : ∃ xs, D10 xs ∧ l = (xs.map chr).reverse ∧ xs.length = l.length := by
  refine ⟨(l.map fun c => c.toNat - 48).reverse, ?_, ?_, by simp⟩
  · intro x hx
    rw [List.mem_reverse, List.mem_map] at hx
    obtain ⟨c, hc, rfl⟩ := hx
    exact (chr_of_isd (List.all_eq_true.1 h c hc)).2
  · rw [List.map_reverse, List.reverse_reverse, List.map_map]
    conv => lhs; rw [← List.map_id l]
    apply List.map_congr_left
    intro c hc
    exact ((chr_of_isd (List.all_eq_true.1 h c hc)).1).symm
theorem dtext_ne (a : Nat) : dtext a ≠ [] := by
  unfold dtext
  split
  · simp
  · rename_i h
    simp [d10_nil_iff, h]
theorem dtext_all (a : Nat) : (dtext a).all isd = true := by
  unfold dtext
  split
  · rfl
  · exact all_isd_chr (d10_lt a)
/-- A text that Parse takes is the text of its number. -/
theorem dtext_dval {l : List UInt8} (h : perr l = 0) : dtext (dval l) = l := by
  unfold perr at h
  split at h
  · omega
  · split at h
    · omega
    · split at h
      · rename_i h1 h2 h3
        obtain ⟨xs, hd, hl, hn⟩ := chars_of_all h3
        rw [not_or] at h2
        by_cases hz : v10 xs = 0
        · -- all digits are zeros: then there is one
          have h0 : dval l = 0 := by rw [hl, dval_map_chr hd, hz]
          rw [h0]
          cases l with
          | nil => exact absurd rfl h2.1
          | cons c l =>
            have hc : c = 48 := by
              cases hx : xs.reverse with
              | nil => rw [List.reverse_eq_nil_iff] at hx; subst hx; simp at hl
              | cons y ys =>
                have hxs : xs = ys.reverse ++ [y] := by rw [← List.reverse_reverse xs, hx, List.reverse_cons]
                rw [hxs, v10_snoc] at hz
                have hy : y = 0 := by
                  rcases Nat.eq_zero_or_pos y with h | h
                  · exact h
                  · have := Nat.mul_pos (Nat.pow_pos (n := ys.reverse.length) (show 0 < 10 by decide)) h; omega
                rw [← List.map_reverse, hx, hy] at hl
                simp at hl
                rw [hl.1]; rfl
            subst hc
            have : l = [] := by
              have h4 := h2.2
              simp at h4
              exact h4
            subst this
            rfl
        · unfold dtext
          rw [hl, dval_map_chr hd, if_neg hz, d10_v10 hd]
          intro hne hlast
          apply h2.2
          have hnl : 0 < xs.length := List.length_pos_iff.2 hne
          have hlast' : xs.getLast? = some 0 := by
            rw [List.getD_eq_getElem?_getD, List.getElem?_eq_getElem (show xs.length - 1 < xs.length by omega)] at hlast
            rw [List.getLast?_eq_getElem?, List.getElem?_eq_getElem (show xs.length - 1 < xs.length by omega)]
            simpa using hlast
          constructor
          · rw [hl, List.head?_reverse, List.getLast?_map, hlast']; rfl
          · rw [← hn]
            rcases Nat.lt_or_ge 1 xs.length with h | h
            · exact h
            · exfalso; apply hz
              have h1 : xs.length = 1 := by omega
              obtain ⟨z, hz'⟩ := List.length_eq_one_iff.1 h1
              subst hz'
              simp at hlast
              subst hlast; rfl
      · omega
theorem perr_dtext {a : Nat} (h : (dtext a).length ≤ 4900) : perr (dtext a) = 0 := by
  unfold perr
  rw [if_neg (by omega), if_neg, if_pos (dtext_all a)]
  rintro (h1 | ⟨h1, h2⟩)
  · exact dtext_ne a h1
  · unfold dtext at h1 h2
    split at h1
    · rename_i h0; rw [if_pos h0] at h2; simp at h2
    · rename_i h0
      have hn := nz_d10 a
      rw [List.head?_reverse, List.getLast?_map] at h1
      have hne : d10 a ≠ [] := fun h => h0 (d10_nil_iff.1 h)
      have hg : (d10 a).getLast? = some ((d10 a).getD ((d10 a).length - 1) 0) := by
        have := List.length_pos_iff.2 hne
        rw [List.getLast?_eq_getElem?, List.getD_eq_getElem?_getD, List.getElem?_eq_getElem (show (d10 a).length - 1 < (d10 a).length by omega)]; rfl
      rw [hg] at h1
      simp only [Option.map_some, Option.some.injEq] at h1
      have hlt : (d10 a).getD ((d10 a).length - 1) 0 < 10 := by
        have := List.length_pos_iff.2 hne
        rw [List.getD_eq_getElem?_getD, List.getElem?_eq_getElem (show (d10 a).length - 1 < (d10 a).length by omega)]
        exact d10_lt a _ (List.getElem_mem _)
      have h3 := chr_nat hlt
      rw [h1] at h3
      exact hn hne (by have : (48 : UInt8).toNat = 48 := rfl; omega)
theorem dtext_length {a k : Nat} (h : a < 10 ^ k) (hk : 0 < k) : (dtext a).length ≤ k := by
  unfold dtext
  split
  · simp; omega
  · simp; exact d10_length_le h
/-- A list that is being turned round in place: `i` places at each end are done. -/
structure RevAt (xs zs : List Nat) (i : Nat) : Prop where
  len : zs.length = xs.length
  get : ∀ j, j < xs.length → zs.getD j 0 = if j < i ∨ xs.length - i ≤ j then xs.getD (xs.length - 1 - j) 0 else xs.getD j 0
theorem RevAt.init (xs : List Nat) : RevAt xs xs 0 := ⟨rfl, fun j hj => by rw [if_neg]; omega⟩
theorem getD_set_at {xs : List Nat} {i j v : Nat} (hi : i < xs.length) : (xs.set i v).getD j 0 = if i = j then v else xs.getD j 0 := by
  simp only [List.getD_eq_getElem?_getD, List.getElem?_set]
  split
  · rename_i h; subst h; simp
  · rfl
theorem RevAt.step {xs zs : List Nat} {i k : Nat} (h : RevAt xs zs i) (hi : i < k) (hk : k + i + 1 = xs.length) :
    RevAt xs ((zs.set i (zs.getD k 0)).set k (zs.getD i 0)) (i + 1) := by
  refine ⟨by simp [h.len], fun j hj => ?_⟩
  rw [getD_set_at (by simp [h.len]; omega), getD_set_at (by rw [h.len]; omega)]
  have hl := h.len
  split
  · rename_i e; subst e
    rw [h.get i (by omega), if_neg (by omega), if_pos (by omega)]
    congr 1; omega
  · split
    · rename_i e; subst e
      rw [h.get k (by omega), if_neg (by omega), if_pos (by omega)]
      congr 1; omega
    · rw [h.get j hj]
      by_cases hc : j < i ∨ xs.length - i ≤ j
      · rw [if_pos hc, if_pos (by omega)]
      · rw [if_neg hc, if_neg (by omega)]
theorem RevAt.done {xs zs : List Nat} {i : Nat} (h : RevAt xs zs i) (hi : xs.length ≤ 2 * i + 1) : zs = xs.reverse := by
  apply List.ext_getElem
  · rw [h.len, List.length_reverse]
  · intro j h1 h2
    have hj : j < xs.length := by rw [← h.len]; exact h1
    have hg := h.get j hj
    rw [List.getD_eq_getElem?_getD, List.getElem?_eq_getElem h1, Option.getD_some] at hg
    rw [hg, List.getElem_reverse]
    split
    · rw [List.getD_eq_getElem?_getD, List.getElem?_eq_getElem (by omega), Option.getD_some]
    · have e : j = xs.length - 1 - j := by omega
      rw [List.getD_eq_getElem?_getD, List.getElem?_eq_getElem hj, Option.getD_some]
      congr 1
end Go.Proofs.YtcbaipnphepbeaaGreatDoor

namespace Go.Proofs.YtcbaipnphepbeaaGreatDoor
open Go.RowKit

theorem twice_step {Z P b X b0 o b' x : Nat} (h : Z + P * b = 2 * X + b0) (ho : o + 4294967296 * b' = 2 * x + b) : Z + P * o + P * 4294967296 * b' = 2 * (X + P * x) + b0 := by
  have h1 : P * (o + 4294967296 * b') = P * (2 * x + b) := by rw [ho]
  rw [Nat.mul_add, Nat.mul_add, ← Nat.mul_assoc, Nat.mul_left_comm] at h1
  omega
set_option maxHeartbeats 1000000 in
theorem rtwice_calls {w : World} {u : Value} {xs : List Nat} {b0 : Nat} (hu : RV w u xs) (hb0 : b0 ≤ 1) (hl : xs.length < 1073741824) :
    Calls Tryz.prog 133 #[u, .int .u32 (b0 : Int)] w fun e w' => ∃ r, e = .returned r ∧ OV w.heap.size w' r (dig (2 * val xs + b0)) ∧ Ext w w' := by
  obtain ⟨A, c, rfl, hc, hd, hr⟩ := id hu
  have HU := Aside.mk hu
  clear hu hd hr
  go_enter Tryz.func133, Tryz.ntmps133
  go_wp2_with (refine make_u32 _ rfl _ _ rfl (xs.length + 1) _ _ rfl rfl (by omega) (by omega) (by omega) ?_; intro w1 z hz0 hb1 hz1; subst hz1; have HZ0 := Aside.mk hz0; have HB0 := Aside.mk hb1; clear hz0 hb1)
  go_loopw [1, 6] (fun b i wr => ∃ (k c : Nat) (zs : List Nat), k ≤ xs.length ∧ i = .int .i64 (k : Int) ∧ b = .int .u32 (c : Int) ∧ c ≤ 1 ∧ Aside (OV w.heap.size wr (.slice (some ⟨w.heap.size, 0, none⟩) (xs.length + 1) (xs.length + 1)) zs) ∧ Aside (Ext w wr) ∧ Aside (zs.length = xs.length + 1) ∧
    Aside (val zs + 4294967296 ^ k * c = 2 * val (xs.take k) + b0) ∧ Aside (val zs < 4294967296 ^ k)) (fun _ i _ => xs.length - (intOf i).toNat)
  case atStart => exact ⟨0, b0, _, Nat.zero_le _, rfl, rfl, hb0, HZ0, HB0, ⟨by simp⟩, ⟨by simp [val, val_zeros]⟩, ⟨by rw [val_zeros]; decide⟩⟩
  case round =>
    obtain ⟨k, b, zs, hk, rfl, rfl, hb, HZ, HB, HL, HS, HT⟩ := hrel
    by_cases hlt : k < xs.length
    · obtain ⟨x, hx⟩ : ∃ x, xs.getD k 0 = x := ⟨_, rfl⟩
      have hx4 : x < 4294967296 := hx ▸ HU.out.dg.get k
      obtain ⟨ad, rfl, hcell⟩ := (HU.out.ext HB.out).at' k hlt
      rw [hx] at hcell
      have HX := Aside.mk hx
      clear hx
      have hzc := HZ.out.cell k (by rw [HL.out]; omega)
      have hzf := HZ.out.free k
      obtain ⟨m, hm⟩ : ∃ m, x % 2147483648 = m := ⟨_, rfl⟩
      obtain ⟨b', hb'⟩ : ∃ b', x / 2147483648 = b' := ⟨_, rfl⟩
      obtain ⟨o, ho⟩ : ∃ o, m * 2 ^ 1 + b = o := ⟨_, rfl⟩
      have hsh : IntKind.u32.wrap ((x : Int) * 2) = ((m * 2 ^ 1 : Nat) : Int) := by rw [wrap_u32]; omega
      have hor : bits .or .u32 ((m : Int) * 2) (b : Int) = (o : Int) := by
        have h := or_low b m 1 (by omega) (by omega)
        rw [ho] at h
        simpa using h
      have hb2 : (x : Int) / 2147483648 = (b' : Int) := by omega
      have HO : Aside (o < 4294967296) := ⟨by omega⟩
      have HXB : Aside (o + 4294967296 * b' = 2 * x + b) := ⟨by omega⟩
      have HB' : Aside (b' ≤ 1) := ⟨by omega⟩
      obtain ⟨ad', e', hcell2⟩ := (HU.out.ext (HB.out.set (p := ⟨w.heap.size, k, none⟩) (Nat.le_refl _) (.int .u32 (o : Int)))).at' k hlt
      injection e' with e'
      subst e'
      rw [HX.out] at hcell2
      clear hm hb' ho
      go_wp2
      go_roundw
      case rel =>
        have hsz := set_zero HT.out (show k < zs.length by rw [HL.out]; omega) HO.out
        refine ⟨k + 1, b', zs.set k o, by omega, by go_num, rfl, HB'.out, ⟨HZ.out.store k HO.out⟩, ⟨HB.out.set (Nat.le_refl _) _⟩, ⟨by simp [HL.out]⟩, ⟨?_⟩, ⟨hsz.2⟩⟩
        rw [val_take_step xs, HX.out, hsz.1, Nat.pow_succ]
        exact twice_step HS.out HXB.out
      case measure => simp [intOf]; omega
    · have hkm : k = xs.length := by omega
      subst hkm
      have hzc := HZ.out.cell xs.length (by rw [HL.out]; omega)
      have hzf := HZ.out.free xs.length
      have HBB := Aside.mk hb
      have hsz := set_zero HT.out (show xs.length < zs.length by rw [HL.out]; omega) (show b < 4294967296 by omega)
      have HE : Aside (val (zs.set xs.length b) = 2 * val xs + b0) := ⟨by rw [hsz.1, HS.out, val_take_all]⟩
      clear hsz
      go_wp2_with (go_at_call 127; with_reducible refine (rshort_calls (HZ.out.store xs.length (x := b) (by have := HBB.out; omega))).mono ?_; rintro e w' ⟨r, rfl, hr, rfl⟩; have HR := Aside.mk hr; clear hr)
      go_ret
      exact ⟨r, rfl, by rw [← HE.out]; exact HR.out, HB.out.set (Nat.le_refl _) _⟩

/-- half halves a number, rounded down. -/
theorem half_step {X P x m o c c' : Nat} (hX : X = 2 * P + c) (h1 : x / 2 = m) (h2 : x % 2 = c') (h3 : m + 2147483648 * c = o) : x + 4294967296 * X = 2 * (o + 4294967296 * P) + c' := by omega
set_option maxHeartbeats 1000000 in
theorem rhalf_calls {w : World} {u : Value} {xs : List Nat} (hu : RV w u xs) :
    Calls Tryz.prog 130 #[u] w fun e w' => ∃ r, e = .returned r ∧ OV w.heap.size w' r (dig (val xs / 2)) ∧ Ext w w' := by
  obtain ⟨A, c, rfl, hc, hd, hr⟩ := id hu
  have HU := Aside.mk hu
  have hl : xs.length ≤ 1073741824 := hd.1
  clear hu hd hr
  go_enter Tryz.func130, Tryz.ntmps130
  go_wp2_with (refine make_u32 _ rfl _ _ rfl xs.length _ _ rfl rfl rfl rfl hl ?_; intro w1 z hz0 hb1 hz1; subst hz1; have HZ0 := Aside.mk hz0; have HB0 := Aside.mk hb1; clear hz0 hb1)
  go_loopw [4, 5] (fun b i wr => ∃ (k c : Nat) (zs : List Nat), k ≤ xs.length ∧ i = .int .i64 ((k : Int) - 1) ∧ b = .int .u32 (c : Int) ∧ c ≤ 1 ∧ Aside (OV w.heap.size wr (.slice (some ⟨w.heap.size, 0, none⟩) xs.length xs.length) zs) ∧ Aside (Ext w wr) ∧ Aside (zs.length = xs.length) ∧
    Aside (val (xs.drop k) = 2 * val (zs.drop k) + c)) (fun _ i _ => (intOf i + 1).toNat)
  case atStart => exact ⟨xs.length, 0, _, Nat.le_refl _, rfl, rfl, by omega, HZ0, HB0, ⟨by simp⟩, ⟨by rw [List.drop_length]; simp [val]⟩⟩
  case round =>
    obtain ⟨k, b, zs, hk, rfl, rfl, hb, HZ, HB, HL, HS⟩ := hrel
    cases k with
    | succ k =>
      have hlt : k < xs.length := by omega
      obtain ⟨x, hx⟩ : ∃ x, xs.getD k 0 = x := ⟨_, rfl⟩
      have hx4 : x < 4294967296 := hx ▸ HU.out.dg.get k
      obtain ⟨ad, rfl, hcell⟩ := (HU.out.ext HB.out).at' k hlt
      rw [hx] at hcell
      have HX := Aside.mk hx
      clear hx
      have hzc := HZ.out.cell k (by rw [HL.out]; omega)
      have hzf := HZ.out.free k
      obtain ⟨m, hm⟩ : ∃ m, x / 2 = m := ⟨_, rfl⟩
      obtain ⟨b', hb'⟩ : ∃ b', x % 2 = b' := ⟨_, rfl⟩
      obtain ⟨o, ho⟩ : ∃ o, m + 2147483648 * b = o := ⟨_, rfl⟩
      have h1 : (x : Int) / 2 = (m : Int) := by omega
      have h2 : IntKind.u32.wrap ((b : Int) * 2147483648) = ((b * 2 ^ 31 : Nat) : Int) := by rw [wrap_u32]; omega
      have hor : bits .or .u32 (m : Int) ((b : Int) * 2147483648) = (o : Int) := by
        have h := or_high m b 31 (by omega) (by omega)
        rw [show ((b * 2 ^ 31 : Nat) : Int) = (b : Int) * 2147483648 from by simp] at h
        rw [h, ← ho]; congr 1; omega
      have h3 : (x : Int) % 2 = (b' : Int) := by omega
      have h4 : (x : Int).tmod 2 = (b' : Int) := by rw [Int.tmod_eq_emod_of_nonneg (by omega)]; exact h3
      have HO : Aside (o < 4294967296) := ⟨by omega⟩
      have HST := Aside.mk (half_step HS.out hm hb' ho)
      have HB' : Aside (b' ≤ 1) := ⟨by omega⟩
      obtain ⟨ad', e', hcell2⟩ := (HU.out.ext (HB.out.set (p := ⟨w.heap.size, k, none⟩) (Nat.le_refl _) (.int .u32 (o : Int)))).at' k hlt
      injection e' with e'
      subst e'
      rw [HX.out] at hcell2
      clear hm hb' ho
      go_wp2
      go_roundw
      case rel =>
        refine ⟨k, b', zs.set k o, by omega, by first | rfl | go_num, by first | rfl | congr 1, HB'.out, ⟨HZ.out.store k HO.out⟩, ⟨HB.out.set (Nat.le_refl _) _⟩, ⟨by simp [HL.out]⟩, ⟨?_⟩⟩
        rw [val_drop xs k hlt, HX.out, val_drop _ k (by simp [HL.out]; exact hlt), drop_set_self, getD_set_at (by rw [HL.out]; exact hlt), if_pos rfl]
        exact HST.out
      case measure => simp [intOf]
    | zero =>
      have HE : Aside (val zs = val xs / 2) := ⟨by have := HS.out; rw [List.drop_zero, List.drop_zero] at this; omega⟩
      go_wp2_with (go_at_call 127; with_reducible refine (rshort_calls HZ.out).mono ?_; rintro e w' ⟨r, rfl, hr, rfl⟩; have HR := Aside.mk hr; clear hr)
      go_ret
      exact ⟨r, rfl, by rw [← HE.out]; exact HR.out, HB.out⟩
end Go.Proofs.YtcbaipnphepbeaaGreatDoor

namespace Go.Proofs.YtcbaipnphepbeaaGreatDoor
open Go.RowKit

theorem rtwice_n {w : World} {u : Value} {a b0 m : Nat} (hu : RV w u (dig a)) (hb0 : b0 ≤ 1) (hl : (dig a).length < 1073741824) (hm : 2 * a + b0 = m) :
    Calls Tryz.prog 133 #[u, .int .u32 (b0 : Int)] w fun e w' => ∃ r, e = .returned r ∧ OV w.heap.size w' r (dig m) ∧ Ext w w' := by
  have h := rtwice_calls hu hb0 hl
  rw [val_dig, hm] at h
  exact h
theorem rsub_n {w : World} {u v : Value} {a b : Nat} (hu : RV w u (dig a)) (hv : RV w v (dig b)) (hle : b ≤ a) :
    Calls Tryz.prog 132 #[u, v] w fun e w' => ∃ r, e = .returned r ∧ OV w.heap.size w' r (dig (a - b)) ∧ Ext w w' := by
  have h := rsub_calls hu hv (dig_len_mono hle) (by rw [val_dig, val_dig]; exact hle)
  rw [val_dig, val_dig] at h
  exact h
theorem shift_even (q j : Nat) : q * 2 ^ (j + 1) = (2 * q + 0) * 2 ^ j := by rw [Nat.pow_succ, Nat.add_zero, Nat.mul_comm 2 q, Nat.mul_assoc, Nat.mul_comm 2]
theorem cmpN_ge {a b : Nat} : decide ((0 : Int) ≤ cmpN a b) = decide (b ≤ a) := by
  unfold cmpN
  rcases Nat.lt_trichotomy a b with h | h | h
  · rw [if_pos h]; simp; omega
  · rw [if_neg (by omega), if_pos h]; simp; omega
  · rw [if_neg (by omega), if_neg (by omega)]; simp; omega
set_option maxRecDepth 10000 in
set_option maxHeartbeats 2000000 in
theorem rdiv_calls {w : World} {u v : Value} {a b : Nat} (hu : RV w u (dig a)) (hv : RV w v (dig b)) (hb : 0 < b) (hbl : (dig b).length < 1073741824) :
    Calls Tryz.prog 154 #[u, v] w fun e w' => ∃ q r, e = .returned (.tuple #[q, r]) ∧ OV w.heap.size w' q (dig (a / b)) ∧ OV w.heap.size w' r (dig (a % b)) ∧ Ext w w' := by
  have mixed : Tryz.prog.follows Departure.mixedOrders = true := by kernel_rfl
  have HX := Aside.mk hu
  have HY := Aside.mk hv
  obtain ⟨A, c, rfl, hc, hd, hr⟩ := hu
  obtain ⟨B, d, rfl, hc', hd', hr'⟩ := hv
  have hl : (dig a).length ≤ 1073741824 := hd.1
  have HBP := Aside.mk hb
  have HBL := Aside.mk hbl
  obtain ⟨n, hn⟩ : ∃ n, (dig a).length = n := ⟨_, rfl⟩
  have HN := Aside.mk hn
  rw [hn] at hc hl HX ⊢
  have hbb : blen a ≤ 32 * n := by
    apply blen_le.2
    have := lt_of_dig_length (show (dig a).length ≤ n by rw [hn]; exact Nat.le_refl _)
    rwa [B_pow] at this
  obtain ⟨m, hm⟩ : ∃ m, blen a = m := ⟨_, rfl⟩
  rw [hm] at hbb
  have HM := Aside.mk hm
  have HBR : Aside (∀ r, r < b → (dig r).length < 1073741824) := ⟨fun r hr => Nat.lt_of_le_of_lt (dig_len_mono (Nat.le_of_lt hr)) hbl⟩
  generalize (dig b).length = lb at *
  clear hd hr hd' hr' hb hn hm hbl
  go_enter Tryz.func154, Tryz.ntmps154
  go_wp2_with (first | (refine make_u32 _ rfl _ _ rfl n _ _ rfl rfl rfl rfl hl ?_; intro w1 z hz0 hb1 hz1; subst hz1; have HZ0 := Aside.mk hz0; have HB0 := Aside.mk hb1; clear hz0 hb1) | (go_at_call 170; with_reducible refine (rbits_calls (HX.out.ext HB0.out) HM.out).mono ?_; rintro e w' ⟨rfl, rfl⟩))
  go_loopw [7, 8] (fun rest i wr => ∃ (k : Nat) (zs : List Nat), k ≤ m ∧ i = .int .i64 ((k : Int) - 1) ∧ Aside (OV (w.heap.size + 1) wr rest (dig (a / 2 ^ k % b))) ∧ Aside (OV w.heap.size wr (.slice (some ⟨w.heap.size, 0, none⟩) n n) zs) ∧ Aside (Ext w wr) ∧ Aside (zs.length = n) ∧ Aside (val zs = a / 2 ^ k / b * 2 ^ k)) (fun _ i _ => (intOf i + 1).toNat)
  case atStart =>
    have h0 : a / 2 ^ m = 0 := Nat.div_eq_of_lt (blen_le.1 (by rw [HM.out]; exact Nat.le_refl _))
    exact ⟨m, _, Nat.le_refl _, rfl, ⟨by rw [h0, Nat.zero_mod, dig_zero]; exact OV.nil _ _⟩, HZ0, HB0, ⟨by simp⟩, ⟨by rw [h0, val_zeros]; simp⟩⟩
  case round =>
    obtain ⟨k, zs, hk, rfl, HR, HZ, HB, HL, HS⟩ := hrel
    cases k with
    | zero =>
      have HR' : Aside (OV (w.heap.size + 1) wr u7 (dig (a % b))) := ⟨by have := HR.out; rw [Nat.pow_zero, Nat.div_one] at this; exact this⟩
      obtain ⟨A1, c1, rfl, _⟩ := HR'.out.form
      generalize (dig (a % b)).length = l1 at *
      have HV : Aside (val zs = a / b) := ⟨by have := HS.out; rw [Nat.pow_zero, Nat.mul_one, Nat.div_one] at this; exact this⟩
      clear HR
      go_wp2_with (go_at_call 127; with_reducible refine (rshort_calls HZ.out).mono ?_; rintro e w' ⟨r, rfl, hr, rfl⟩; have HQ := Aside.mk hr; clear hr)
      go_ret2
      exact ⟨r, _, rfl, by rw [← HV.out]; exact HQ.out, HR'.out.mono (Nat.le_succ _), HB.out⟩
    | succ j =>
      have HJB : Aside (j < blen a) := ⟨by rw [HM.out]; omega⟩
      have HJL : Aside (j / 32 < zs.length) := ⟨by rw [HL.out, ← HN.out]; exact bit_lt HJB.out⟩
      have hjn : j / 32 < n := by have := HJL.out; rw [HL.out] at this; exact this
      obtain ⟨t, ht⟩ : ∃ t, a / 2 ^ j % 2 = t := ⟨_, rfl⟩
      have HT1 : Aside (t ≤ 1) := ⟨by omega⟩
      obtain ⟨r, hr⟩ : ∃ r, a / 2 ^ (j + 1) % b = r := ⟨_, rfl⟩
      obtain ⟨q, hq⟩ : ∃ q, a / 2 ^ (j + 1) / b = q := ⟨_, rfl⟩
      have hst := div_step HBP.out hr.symm
      rw [ht, hq] at hst
      have hrb : r < b := by rw [← hr]; exact Nat.mod_lt _ HBP.out
      rw [hr] at HR
      rw [hq] at HS
      have HRL : Aside ((dig r).length < 1073741824) := ⟨HBR.out r hrb⟩
      have HT := Aside.mk ht
      obtain ⟨R, hRR⟩ : ∃ R, 2 * r + t = R := ⟨_, rfl⟩
      have HRR := Aside.mk hRR
      rw [hRR] at hst
      have HST := Aside.mk hst
      have HSZ : Aside (w.heap.size + 1 ≤ wr.heap.size) := ⟨by
        obtain ⟨g, c', e, _, h2, _⟩ := HZ.out.row (by have := HJL.out; omega)
        injection e with e
        injection e with e
        injection e with e
        omega⟩
      obtain ⟨A1, c1, rfl, _⟩ := HR.out.form
      have hcg := @cmpN_ge R b
      clear ht hr hq hst hrb hRR
      rcases Nat.lt_or_ge R b with hlt | hge
      · have hcf : decide ((0 : Int) ≤ cmpN R b) = false := by rw [hcg]; simp; omega
        have HRB := Aside.mk hlt
        clear hcg hlt hjn
        go_wp2_with (first | (go_at_call 171; with_reducible refine (rbit_calls (HX.out.ext HB.out) HJB.out HT.out).mono ?_; rintro e w2 ⟨rfl, rfl⟩) | (go_at_call 133; with_reducible refine (rtwice_n HR.out.rv HT1.out HRL.out HRR.out).mono ?_; rintro e w3 ⟨r3, rfl, hr, he⟩; have HB3 := Aside.mk (HB.out.trans he); have HZ3 := Aside.mk (HZ.out.ext he); have HR3 := Aside.mk (hr.mono HSZ.out); have HSZ3 := Aside.mk (Nat.le_trans HSZ.out he.size); obtain ⟨A3, c3, rfl, _⟩ := HR3.out.form; clear hr he) | (go_at_call 131; with_reducible refine (rcompare_calls HR3.out.rv (HY.out.ext HB3.out)).mono ?_; rintro e w4 ⟨rfl, he⟩; have HE4 := Aside.mk (Ext.of_drewN he); have HB4 := Aside.mk (HB3.out.trans HE4.out); have HZ4 := Aside.mk (HZ3.out.ext HE4.out); have HR4 := Aside.mk (HR3.out.ext HE4.out); have HS4 := Aside.mk (Nat.le_trans HSZ3.out HE4.out.size); clear he))
        go_roundw
        case rel => exact ⟨j, zs, by omega, rfl, ⟨by rw [HST.out.1, if_neg (by have := HRB.out; omega)]; exact HR4.out⟩, HZ4, HB4, HL, ⟨by rw [HS.out, HST.out.2, if_neg (by have := HRB.out; omega)]; exact shift_even q j⟩⟩
        case measure => simp [intOf]
      · have hcf : decide ((0 : Int) ≤ cmpN R b) = true := by rw [hcg]; simp; omega
        have HLE := Aside.mk hge
        obtain ⟨dd, hdd⟩ : ∃ d, zs.getD (j / 32) 0 = d := ⟨_, rfl⟩
        have HD := Aside.mk hdd
        obtain ⟨hs1, hs2, hs3⟩ := set_bit HZ.out.1.2 HS.out HJL.out
        rw [hdd] at hs1 hs2 hs3
        have hor := or_bit hs2
        have HSB := Aside.mk hs1
        have HS3 := Aside.mk hs3
        have h1 := tdiv_32 (i := j) rfl
        have h2 := tmod_32 (i := j) rfl
        have hr32 : j % 32 < 32 := Nat.mod_lt _ (by decide)
        obtain ⟨jq, hjq⟩ : ∃ x, j / 32 = x := ⟨_, rfl⟩
        obtain ⟨jr, hjr⟩ : ∃ x, j % 32 = x := ⟨_, rfl⟩
        rw [hjq] at h1 hjn
        rw [hjr] at h2 hr32 hor
        have HJQ := Aside.mk hjq
        have HJR := Aside.mk hjr
        have hw1 : wrap64 (jq : Int) = (jq : Int) := wrap64_small (by omega)
        have hw2 : wrap64 (jr : Int) = (jr : Int) := wrap64_small (by omega)
        obtain ⟨P, hP⟩ : ∃ P, 2 ^ jr = P := ⟨_, rfl⟩
        have hP2 : ((2 : Int) ^ jr) = (P : Int) := by rw [← hP]; simp
        rw [hjr, hP] at HS3
        rw [hP] at hor
        have hP4 : P < 4294967296 := by have := HS3.out; omega
        have hP5 : (P : Int) % 4294967296 = (P : Int) := by omega
        obtain ⟨o, ho⟩ : ∃ o, dd + P = o := ⟨_, rfl⟩
        have hor2 : bits .or .u32 (dd : Int) (P : Int) = (o : Int) := by
          rw [u32_or_nat _ _ (by have := HS3.out; omega) hP4, hor, ho]
        rw [hjq, hjr, hP, ho] at HSB
        have HO : Aside (o < 4294967296) := ⟨by rw [← ho]; exact HS3.out⟩
        have H1 := Aside.mk h1
        have H2 := Aside.mk h2
        have H3 := Aside.mk hw1
        have H4 := Aside.mk hw2
        have H5 := Aside.mk hor2
        have H6 := Aside.mk hP2
        clear h1 h2 hw1 hw2 hor2 hP2
        have h1 : ∀ [Inhabited Nat], (j : Int).tdiv 32 = (jq : Int) := H1.out
        have h2 : ∀ [Inhabited Nat], (j : Int).tmod 32 = (jr : Int) := H2.out
        have hw1 : ∀ [Inhabited Nat], wrap64 (jq : Int) = (jq : Int) := H3.out
        have hw2 : ∀ [Inhabited Nat], wrap64 (jr : Int) = (jr : Int) := H4.out
        have hor2 : ∀ [Inhabited Nat], bits .or .u32 (dd : Int) (P : Int) = (o : Int) := H5.out
        have hP2 : ∀ [Inhabited Nat], ((2 : Int) ^ jr) = (P : Int) := H6.out
        clear hcg hge hs1 hs2 hs3 hdd hjq hjr hP hor HS3 ho
        go_wp2_with (first | (go_at_call 171; with_reducible refine (rbit_calls (HX.out.ext HB.out) HJB.out HT.out).mono ?_; rintro e w2 ⟨rfl, rfl⟩) | (go_at_call 133; with_reducible refine (rtwice_n HR.out.rv HT1.out HRL.out HRR.out).mono ?_; rintro e w3 ⟨r3, rfl, hr, he⟩; have HB3 := Aside.mk (HB.out.trans he); have HZ3 := Aside.mk (HZ.out.ext he); have HR3 := Aside.mk (hr.mono HSZ.out); have HSZ3 := Aside.mk (Nat.le_trans HSZ.out he.size); obtain ⟨A3, c3, rfl, _⟩ := HR3.out.form; clear hr he) | (go_at_call 131; with_reducible refine (rcompare_calls HR3.out.rv (HY.out.ext HB3.out)).mono ?_; rintro e w4 ⟨rfl, he⟩; have HE4 := Aside.mk (Ext.of_drewN he); have HB4 := Aside.mk (HB3.out.trans HE4.out); have HZ4 := Aside.mk (HZ3.out.ext HE4.out); have HR4 := Aside.mk (HR3.out.ext HE4.out); have HS4 := Aside.mk (Nat.le_trans HSZ3.out HE4.out.size); clear he) | (go_at_call 132; with_reducible refine (rsub_n HR4.out.rv (HY.out.ext HB4.out) HLE.out).mono ?_; rintro e w5 ⟨r5, rfl, hr, he⟩; have HB5 := Aside.mk (HB4.out.trans he); have HZ5 := Aside.mk (HZ4.out.ext he); have HR5 := Aside.mk (hr.mono HS4.out); have hcell := HZ5.out.cell (j / 32) HJL.out; have hfree := HZ5.out.free (j / 32); rw [HD.out, HJQ.out] at hcell; rw [HJQ.out] at hfree; clear hr he))
        go_region_o
        go_wp2
        go_roundw
        case rel => exact ⟨j, zs.set jq o, by omega, rfl, ⟨by rw [HST.out.1, if_pos HLE.out]; exact (HR5.out.set (show w.heap.size < w.heap.size + 1 from Nat.lt_succ_self _) _).ext (Ext.refl _).drew⟩, ⟨(HZ5.out.store jq HO.out).ext (Ext.refl _).drew⟩, ⟨(HB5.out.set (Nat.le_refl _) _).drew⟩, ⟨by simp [HL.out]⟩, ⟨by rw [HSB.out, HST.out.2, if_pos HLE.out]⟩⟩
        case measure => simp [intOf]
end Go.Proofs.YtcbaipnphepbeaaGreatDoor

namespace Go.Proofs.YtcbaipnphepbeaaGreatDoor
open Go.RowKit

theorem run_append_none {w : World} (base : Nat) (t ty e : TypeId) (i : TypeInfo) (size : Nat) (ht : Tryz.prog.underlying t = some (.slice e)) (hi : Tryz.prog.info? e = some i)
    (v : Value) (n c : Nat) (xs : List Value) (hown : w.ownsRow base e size v n xs) :
    (Builtin.append_ #[t, t] ty #[v, .slice none 0 c]).run Tryz.prog w = .ok v w := by
  rcases hown.2 with ⟨rfl, rfl⟩ | ⟨g, cap, cur, rfl, _, _, hnc, _⟩
  · simp [Builtin.append_, run_underlying ht, sizeOf, typeInfo, hi, Builtin.lenOf, Builtin.firstCells]
  · simp [Builtin.append_, run_underlying ht, sizeOf, typeInfo, hi, Builtin.lenOf, Builtin.firstCells, hnc, storeCells]

section
variable {ops : Array Oper} {rest : List Oper} {o : Oper} {a : Act} {Q : Exit → Act → World → Prop}
/-- `append(v, ys...)` -/
theorem append_rv {W : World} (base : Nat) (hgd : o.guard = none) (s x : Operand)
    (ho : o.op = .call { callee := .builtin .append, args := #[s, x], argTypes := #[81, 81] })
    (v y : Value) (xs ys : List Nat) (HO : OV base W v xs) (HR : RV W y ys) (hs : a.eval s = v) (hx : a.eval x = y)
    (hbase : base ≤ W.heap.size) (hl : xs.length + ys.length ≤ 1073741824)
    (h : ∀ v1 w1, OV base w1 v1 (xs ++ ys) → W.grownBy w1 v.ownBlock → wpList Tryz.prog ops Q rest (a.put o.dst v1) w1) :
    wpList Tryz.prog ops Q (o :: rest) a W := by
  obtain ⟨A, c, rfl, hc, hd, hr⟩ := id HR
  cases A with
  | some ad => exact append_row_u32 base hgd s x ho v xs ys ad ys.length c HO HR hs hx hbase hl h
  | none =>
    have hy : ys = [] := by
      cases ys with
      | nil => rfl
      | cons z zs => obtain ⟨ad, e, _⟩ := hr 0 _ (u32s_get (z :: zs) 0 (by simp)); cases e
    subst hy
    obtain ⟨i0, hi, hz0, hz1, hz2⟩ := info_parts Tryz.info_u32
    have hrun := run_append_none base 81 o.type 89 i0 1 Tryz.underlying81 hi v xs.length c (u32s xs) HO.2
    refine wpList_plain hgd fun K hK => ?_
    unfold Oper.wp execOp
    simp only [ho, resolve, invoke, builtin, Sem.run_bind, Sem.run_pure, Result.andThen_ok, List.map_toArray, List.map_cons, List.map_nil, hs, hx]
    have e0 : ([] : List Nat).length = 0 := rfl
    rw [e0, hrun]
    exact hK _ _ (h v W (by rw [List.append_nil]; exact HO) ⟨rfl, rfl, rfl, Nat.le_refl _, fun _ _ _ => rfl⟩)
/-- `append([]uint32{}, ys...)`, behind the empty literal. -/
theorem copy_rv {w : World} (hgd : o.guard = none) (s x : Operand)
    (ho : o.op = .call { callee := .builtin .append, args := #[s, x], argTypes := #[81, 81] })
    (y : Value) (ys : List Nat) (HR : RV w y ys) (hs : a.eval s = .slice (some ⟨w.heap.size, 0, none⟩) 0 0) (hx : a.eval x = y)
    (h : ∀ v1 w1, OV w.heap.size w1 v1 ys → Ext w w1 → wpList Tryz.prog ops Q rest (a.put o.dst v1) w1) :
    wpList Tryz.prog ops Q (o :: rest) a (w.alloc (.cells #[] 89)) := by
  have h0 : OV w.heap.size (w.alloc (.cells #[] 89)) (.slice (some ⟨w.heap.size, 0, none⟩) 0 0) [] := OV.lit w [] (by simp) Ds.nil
  refine append_rv w.heap.size hgd s x ho _ y [] ys h0 (HR.ext ((Ext.refl w).alloc _)) hs hx (by simp) (by simpa using HR.dg.1) ?_
  intro v1 w1 h1 h2
  exact h v1 w1 h1 (h0.ext_grown ((Ext.refl w).alloc _) (Nat.le_refl _) h2)
end
end Go.Proofs.YtcbaipnphepbeaaGreatDoor

namespace Go.Proofs.YtcbaipnphepbeaaGreatDoor
open Go.RowKit

theorem rhalf_n {w : World} {u : Value} {a : Nat} (hu : RV w u (dig a)) :
    Calls Tryz.prog 130 #[u] w fun e w' => ∃ r, e = .returned r ∧ OV w.heap.size w' r (dig (a / 2)) ∧ Ext w w' := by
  have h := rhalf_calls hu
  rw [val_dig] at h
  exact h
theorem rtwice_0 {w : World} {u : Value} {a m : Nat} (hu : RV w u (dig a)) (hl : (dig a).length < 1073741824) (hm : 2 * a + 0 = m) :
    Calls Tryz.prog 133 #[u, .int .u32 0] w fun e w' => ∃ r, e = .returned r ∧ OV w.heap.size w' r (dig m) ∧ Ext w w' := rtwice_n (b0 := 0) hu (Nat.zero_le _) hl hm
theorem cmpN_gt {a b : Nat} : decide ((0 : Int) < cmpN a b) = decide (b < a) := by
  unfold cmpN
  rcases Nat.lt_trichotomy a b with h | h | h
  · rw [if_pos h]; simp; omega
  · rw [if_neg (by omega), if_pos h]; simp; omega
  · rw [if_neg (by omega), if_neg (by omega)]; simp; omega
/-- The first digit of a number that is not 0. -/
theorem RV.first {w : World} {v : Value} {X : Nat} (h : RV w v (dig X)) (h0 : 0 < X) : ∃ ad n c x, v = .slice (some ad) (n + 1) c ∧ w.cell? ad = some (.int .u32 ((x : Nat) : Int)) ∧ x % 2 = X % 2 ∧ x < 4294967296 ∧ n + 1 ≤ c ∧ (dig X).length = n + 1 := by
  obtain ⟨A, c, rfl, hc, hd, hr⟩ := h
  have hl := dig_length_pos h0
  obtain ⟨ad, rfl, hcell⟩ := hr.at32 0 hl
  have e : ad.add 0 = ad := by simp [Addr.add]
  rw [e] at hcell
  exact ⟨ad, (dig X).length - 1, c, _, by congr 1; omega, hcell, val_mod2 X, Ds.get (ds_dig X) 0, by omega, by omega⟩
set_option maxRecDepth 10000 in
set_option maxHeartbeats 4000000 in
theorem rgcd_calls {w : World} {u v : Value} {a b g : Nat} (hu : RV w u (dig a)) (hv : RV w v (dig b)) (hbl : (dig b).length < 1073741824) (hg : Nat.gcd a b = g) :
    Calls Tryz.prog 99 #[u, v] w fun e w' => ∃ r, e = .returned r ∧ OV w.heap.size w' r (dig g) ∧ Ext w w' := by
  have HU := Aside.mk hu
  have HV := Aside.mk hv
  have HG := Aside.mk hg
  rcases Nat.eq_zero_or_pos a with rfl | ha
  · obtain ⟨A, c, rfl, hc, _⟩ := hu
    obtain ⟨B, d, rfl, hc', _⟩ := hv
    have h0 : (dig 0).length = 0 := by rw [dig_zero]; rfl
    rw [h0] at hc HU ⊢
    have HG' : Aside (b = g) := ⟨by have := HG.out; rwa [Nat.gcd_zero_left] at this⟩
    generalize (dig b).length = lb at *
    clear h0 hg hbl
    go_enter Tryz.func99, Tryz.ntmps99
    go_wp2_with (at_builtin; (refine copy_rv rfl _ _ rfl _ _ HV.out rfl rfl ?_; intro v1 w9 h9 e9; have HV9 := Aside.mk h9; have HE9 := Aside.mk e9; clear h9 e9))
    go_ret
    exact ⟨_, rfl, by rw [← HG'.out]; exact HV9.out, HE9.out⟩
  rcases Nat.eq_zero_or_pos b with rfl | hb
  · obtain ⟨ad, n, c, x, rfl, _, _, _, hc, hn⟩ := hu.first ha
    obtain ⟨B, d, rfl, hc', _⟩ := hv
    have h0 : (dig 0).length = 0 := by rw [dig_zero]; rfl
    rw [h0] at hc' HV ⊢
    have HG' : Aside (a = g) := ⟨by have := HG.out; rwa [Nat.gcd_zero_right] at this⟩
    have hne : ((n : Int) + 1 == 0) = false := beq_eq_false_iff_ne.2 (by omega)
    clear h0 hg hbl hn ha
    go_enter Tryz.func99, Tryz.ntmps99
    go_wp2_with (at_builtin; (refine copy_rv rfl _ _ rfl _ _ HU.out rfl rfl ?_; intro v1 w9 h9 e9; have HV9 := Aside.mk h9; have HE9 := Aside.mk e9; clear h9 e9))
    go_ret
    exact ⟨_, rfl, by rw [← HG'.out]; exact HV9.out, HE9.out⟩
  · obtain ⟨ad, n, c, x, rfl, _, _, _, hc, hn⟩ := hu.first ha
    obtain ⟨bd, n', c', x', rfl, _, _, _, hc', hn'⟩ := hv.first hb
    have hne : ((n : Int) + 1 == 0) = false := beq_eq_false_iff_ne.2 (by omega)
    have hne' : ((n' : Int) + 1 == 0) = false := beq_eq_false_iff_ne.2 (by omega)
    have HA := Aside.mk ha
    have HBB := Aside.mk hb
    obtain ⟨m, hm⟩ : ∃ m, blen b = m := ⟨_, rfl⟩
    have hmn : m ≤ 32 * (n' + 1) := by
      rw [← hm]
      apply blen_le.2
      have := lt_of_dig_length (show (dig b).length ≤ n' + 1 by omega)
      rwa [B_pow] at this
    have hn1 : n' + 1 ≤ 1073741823 := by omega
    have HM := Aside.mk hm
    have HBL : Aside (∀ z, z ≤ b → (dig z).length < 1073741824) := ⟨fun z hz => Nat.lt_of_le_of_lt (dig_len_mono hz) hbl⟩
    have HMN := Aside.mk hmn
    have HN1 := Aside.mk hn1
    have hm40 : m ≤ 68719476736 := by omega
    clear hg hbl hn hn' ha hb hm hmn hn1
    go_enter Tryz.func99, Tryz.ntmps99
    go_wp2
    go_loopg [0, 1, 5] a (fun X x y tw wr => ∃ (Y t : Nat), 0 < X ∧ 0 < Y ∧ t ≤ m ∧ tw = .int .i64 (t : Int) ∧ Aside (RV wr x (dig X)) ∧ Aside (RV wr y (dig Y)) ∧ Aside (Ext w wr) ∧ Aside (g = Nat.gcd X Y * 2 ^ t) ∧ Aside (Y * 2 ^ t ≤ b))
    case atStart => exact ⟨b, 0, HA.out, HBB.out, Nat.zero_le _, rfl, HU, HV, ⟨Ext.refl w⟩, ⟨by rw [HG.out]; simp⟩, ⟨by simp⟩⟩
    case round =>
      obtain ⟨Y, t, hX0, hY0, ht, rfl, HX, HY, HB, HS, HT⟩ := hrel
      obtain ⟨ad1, n1, c1, x1, rfl, hcx, hxm, hx4, hcn, _⟩ := HX.out.first hX0
      obtain ⟨bd1, n2, c2, y1, rfl, hcy, hym, hy4, hcn2, _⟩ := HY.out.first hY0
      have HX0 := Aside.mk hX0
      have HY0 := Aside.mk hY0
      have hyy : (((y1 % 2 : Nat) : Int) == 0) = decide (Y % 2 = 0) := by
        rw [hym]; by_cases h : Y % 2 = 0
        · simp [h]
        · rw [decide_eq_false h]; exact beq_eq_false_iff_ne.2 (by omega)
      have hcond : ¬ (gk % 2 = 0 ∧ Y % 2 = 0) ∨ (gk % 2 = 0 ∧ Y % 2 = 0) := (Decidable.em _).symm
      rcases Nat.mod_two_eq_zero_or_one gk with hxe | hxe
      · have hxb : (((x1 : Nat) : Int) % 2 == 0) = true := beq_iff_eq.2 (by omega)
        rcases Nat.mod_two_eq_zero_or_one Y with hye | hye
        · have hyb : (((y1 : Nat) : Int) % 2 == 0) = true := beq_iff_eq.2 (by omega)
          have HE := Aside.mk (gcd_halves hxe hye)
          have HYE : Aside (Y / 2 * 2 = Y ∧ 0 < Y / 2 ∧ 0 < gk / 2 ∧ gk / 2 < gk) := ⟨by omega⟩
          have hcy1 : ∀ w', Ext wr w' → w'.cell? bd1 = some (.int .u32 ((y1 : Nat) : Int)) := fun w' e => e.cell hcy
          clear hxe hye hxm hym hyy hcond hX0 hY0
          go_wp2_with (first | (go_at_call 130; with_reducible refine (rhalf_n HX.out).mono ?_; rintro e w1 ⟨r1, rfl, hr, he⟩; have HX1 := Aside.mk hr.rv; have HB1 := Aside.mk (HB.out.trans he); have HY1 := Aside.mk (HY.out.ext he); clear hr he) | (go_at_call 130; with_reducible refine (rhalf_n HY1.out).mono ?_; rintro e w2 ⟨r2, rfl, hr, he⟩; have HY2 := Aside.mk hr.rv; have HB2 := Aside.mk (HB1.out.trans he); have HX2 := Aside.mk (HX1.out.ext he); clear hr he))
          go_roundg (gk / 2)
          case measure => exact HYE.out.2.2.2
          case rel =>
            have hb2 : Y / 2 * 2 ^ (t + 1) ≤ b := by
              rw [Nat.pow_succ', ← Nat.mul_assoc, HYE.out.1]; exact HT.out
            refine ⟨Y / 2, t + 1, HYE.out.2.2.1, HYE.out.2.1, ?_, by go_num, HX2, HY2, HB2, ⟨by rw [HS.out, HE.out, Nat.pow_succ', ← Nat.mul_assoc, Nat.mul_comm (Nat.gcd (gk / 2) (Y / 2)) 2]⟩, ⟨hb2⟩⟩
            have h1 : 2 ^ (t + 1) ≤ b := Nat.le_trans (Nat.le_mul_of_pos_left _ HYE.out.2.1) hb2
            have h2 : ¬ blen b ≤ t + 1 := fun h => by have := blen_le.1 h; omega
            rw [HM.out] at h2; omega
        · have hyb : (((y1 : Nat) : Int) % 2 == 0) = false := beq_eq_false_iff_ne.2 (by omega)
          have hodd : Nat.gcd gk Y % 2 = 1 := gcd_odd (by omega)
          obtain ⟨h, hh⟩ : ∃ h, Nat.gcd gk Y = h := ⟨_, rfl⟩
          rw [hh] at hodd HS
          have HH := Aside.mk hh
          have HO := Aside.mk hodd
          have HHB : Aside (h * 2 ^ t ≤ b) := ⟨Nat.le_trans (Nat.mul_le_mul_right _ (by rw [← hh]; exact Nat.le_of_dvd hY0 (Nat.gcd_dvd_right _ _))) HT.out⟩
          clear hodd hh hxe hxm hym hyy hcond hX0 hY0
          go_wp2
          go_loopg [0, 1] (gk + Y) (fun k x y wr2 => ∃ (X2 Y2 : Nat), k = X2 + Y2 ∧ 0 < X2 ∧ Aside (RV wr2 x (dig X2)) ∧ Aside (RV wr2 y (dig Y2)) ∧ Aside (Ext w wr2) ∧ Aside (Nat.gcd X2 Y2 = h))
          case atStart => exact ⟨gk, Y, rfl, HX0.out, HX, HY, HB, HH⟩
          case round =>
            obtain ⟨gk2, ek2⟩ : ∃ z, z = gk := ⟨_, rfl⟩
            subst ek2
            obtain ⟨wr2, ew2⟩ : ∃ z, z = wr := ⟨_, rfl⟩
            subst ew2
            obtain ⟨X2, Y2, hk2, hX2, HX2, HY2, HB2, HH2⟩ := hrel
            obtain ⟨K, hK⟩ : ∃ K, K = X2 + Y2 := ⟨_, rfl⟩
            have HK2 := Aside.mk hk2
            have HXP := Aside.mk hX2
            clear hk2 hX2 hK
            rcases Nat.eq_zero_or_pos Y2 with rfl | hY2
            · obtain ⟨A2, c2', rfl, _⟩ := HX2.out
              obtain ⟨B2, d2, rfl, _⟩ := HY2.out
              have h0 : (dig 0).length = 0 := by rw [dig_zero]; rfl
              rw [h0]
              have HXH : Aside (X2 = h) := ⟨by have := HH2.out; rwa [Nat.gcd_zero_right] at this⟩
              rw [HXH.out] at HX2 ⊢
              clear h0
              go_wp2
              go_loopw [0, 7] (fun x i wr3 => ∃ k : Nat, k ≤ t ∧ i = .int .i64 (k : Int) ∧ Aside (RV wr3 x (dig (h * 2 ^ k))) ∧ Aside (Ext w wr3)) (fun _ i _ => t - (intOf i).toNat)
              case atStart => exact ⟨0, Nat.zero_le _, rfl, ⟨by simpa using HX2.out⟩, HB2⟩
              case round =>
                obtain ⟨k, hk, rfl, HX3, HB3⟩ := hrel
                by_cases hkt : k < t
                · have HLEN : Aside ((dig (h * 2 ^ k)).length < 1073741824) := ⟨HBL.out _ (Nat.le_trans (Nat.mul_le_mul_left _ (Nat.pow_le_pow_right (by decide) hk)) HHB.out)⟩
                  have HTW : Aside (2 * (h * 2 ^ k) + 0 = h * 2 ^ (k + 1)) := ⟨by rw [Nat.add_zero, Nat.pow_succ', Nat.mul_left_comm]⟩
                  go_wp2_with (go_at_call 133; with_reducible refine (rtwice_0 HX3.out HLEN.out HTW.out).mono ?_; rintro e w5 ⟨r5, rfl, hr, he⟩; have HX5 := Aside.mk hr.rv; have HB5 := Aside.mk (HB3.out.trans he); clear hr he)
                  go_roundw
                  case rel => exact ⟨k + 1, by omega, by go_num, HX5, HB5⟩
                  case measure => simp [intOf]; omega
                · have hkt' : k = t := by omega
                  subst hkt'
                  rw [← HS.out] at HX3
                  go_wp2_with (at_builtin; (refine copy_rv rfl _ _ rfl _ _ HX3.out rfl rfl ?_; intro v1 w9 h9 e9; have HV9 := Aside.mk h9; have HE9 := Aside.mk e9; clear h9 e9))
                  go_ret
                  exact ⟨_, rfl, HV9.out.mono HB3.out.size, HB3.out.trans HE9.out⟩
            · have HYP := Aside.mk hY2
              obtain ⟨bd2, n3, c3, y2, rfl, hcy2, _, _, hcn3, _⟩ := HY2.out.first hY2
              clear hY2
              go_wp2
              go_loopg [0] X2 (fun k x wr3 => 0 < k ∧ k ≤ X2 ∧ Aside (RV wr3 x (dig k)) ∧ Aside (RV wr3 (.slice (some bd2) (n3 + 1) c3) (dig Y2)) ∧ Aside (Ext w wr3) ∧ Aside (Nat.gcd k Y2 = h))
              case atStart => exact ⟨HXP.out, Nat.le_refl _, HX2, HY2, HB2, HH2⟩
              case round =>
                obtain ⟨gk3, ek3⟩ : ∃ z, z = gk := ⟨_, rfl⟩
                subst ek3
                obtain ⟨wr3, ew3⟩ : ∃ z, z = wr := ⟨_, rfl⟩
                subst ew3
                obtain ⟨hk0, hkX, HX3, HY3, HB3, HH3⟩ := hrel
                obtain ⟨ad3, n4, c4, x3, rfl, hcx3, hxm3, hx43, hcn4, _⟩ := HX3.out.first hk0
                have HKX := Aside.mk hkX
                have HK0 := Aside.mk hk0
                rcases Nat.mod_two_eq_zero_or_one gk3 with hx | hx
                · have hxb3 : (((x3 : Nat) : Int) % 2 == 0) = true := beq_iff_eq.2 (by omega)
                  have HQ : Aside (0 < gk3 / 2 ∧ gk3 / 2 ≤ X2 ∧ gk3 / 2 < gk3) := ⟨by omega⟩
                  have HH4 := Aside.mk (gcd_half_left HH3.out HO.out hx)
                  clear hx hk0 hkX hxm3
                  go_wp2_with (go_at_call 130; with_reducible refine (rhalf_n HX3.out).mono ?_; rintro e w5 ⟨r5, rfl, hr, he⟩; have HX5 := Aside.mk hr.rv; have HB5 := Aside.mk (HB3.out.trans he); have HY5 := Aside.mk (HY3.out.ext he); clear hr he)
                  go_roundg (gk3 / 2)
                  case measure => exact HQ.out.2.2
                  case rel => exact ⟨HQ.out.1, HQ.out.2.1, HX5, HY5, HB5, HH4⟩
                · have hxb3 : (((x3 : Nat) : Int) % 2 == 0) = false := beq_eq_false_iff_ne.2 (by omega)
                  clear hx hk0 hkX hxm3
                  go_wp2
                  go_loopg [1] Y2 (fun k y wr4 => 0 < k ∧ k ≤ Y2 ∧ Aside (RV wr4 y (dig k)) ∧ Aside (RV wr4 (.slice (some ad3) (n4 + 1) c4) (dig gk3)) ∧ Aside (Ext w wr4) ∧ Aside (Nat.gcd gk3 k = h))
                  case atStart => exact ⟨HYP.out, Nat.le_refl _, HY3, HX3, HB3, HH3⟩
                  case round =>
                    obtain ⟨gk4, ek4⟩ : ∃ z, z = gk := ⟨_, rfl⟩
                    subst ek4
                    obtain ⟨wr4, ew4⟩ : ∃ z, z = wr := ⟨_, rfl⟩
                    subst ew4
                    obtain ⟨hk04, hkY, HY4, HX4, HB4, HH4⟩ := hrel
                    obtain ⟨bd4, n5, c5, y4, rfl, hcy4, hym4, hy44, hcn5, _⟩ := HY4.out.first hk04
                    have HKY := Aside.mk hkY
                    rcases Nat.mod_two_eq_zero_or_one gk4 with hy | hy
                    · have hyb4 : (((y4 : Nat) : Int) % 2 == 0) = true := beq_iff_eq.2 (by omega)
                      have HQ : Aside (0 < gk4 / 2 ∧ gk4 / 2 ≤ Y2 ∧ gk4 / 2 < gk4) := ⟨by omega⟩
                      have HH5 := Aside.mk (gcd_half_right HH4.out HO.out hy)
                      clear hy hk04 hkY hym4
                      go_wp2_with (go_at_call 130; with_reducible refine (rhalf_n HY4.out).mono ?_; rintro e w5 ⟨r5, rfl, hr, he⟩; have HY5 := Aside.mk hr.rv; have HB5 := Aside.mk (HB4.out.trans he); have HX5 := Aside.mk (HX4.out.ext he); clear hr he)
                      go_roundg (gk4 / 2)
                      case measure => exact HQ.out.2.2
                      case rel => exact ⟨HQ.out.1, HQ.out.2.1, HY5, HX5, HB5, HH5⟩
                    · have hyb4 : (((y4 : Nat) : Int) % 2 == 0) = false := beq_eq_false_iff_ne.2 (by omega)
                      have HK4 := Aside.mk hk04
                      have hcg := @cmpN_gt gk3 gk4
                      clear hy hk04 hkY hym4
                      rcases Nat.lt_or_ge gk4 gk3 with hgt | hle
                      · have hcf : decide ((0 : Int) < cmpN gk3 gk4) = true := by rw [hcg]; simp; omega
                        have HGT := Aside.mk hgt
                        clear hcg hgt
                        go_wp2_with (first | (go_at_call 131; with_reducible refine (rcompare_calls HX4.out HY4.out).mono ?_; rintro e w5 ⟨rfl, he⟩; have HE5 := Aside.mk (Ext.of_drewN he); have HX5 := Aside.mk (HX4.out.ext HE5.out); have HY5 := Aside.mk (HY4.out.ext HE5.out); have HB5 := Aside.mk (HB4.out.trans HE5.out); clear he) | (go_at_call 132; with_reducible refine (rsub_n HX5.out HY5.out (Nat.le_of_lt HGT.out)).mono ?_; rintro e w6 ⟨r6, rfl, hr, he⟩; have HZ6 := Aside.mk hr.rv; have HY6 := Aside.mk (HY5.out.ext he); have HB6 := Aside.mk (HB5.out.trans he); clear hr he))
                        go_roundg (gk4 + (gk3 - gk4))
                        case measure => have := HK2.out; have := HGT.out; have := HKX.out; have := HYP.out; omega
                        case rel => exact ⟨gk4, gk3 - gk4, rfl, HK4.out, HY6, HZ6, HB6, ⟨by rw [← HH4.out, Nat.gcd_comm gk3 gk4]; exact Nat.gcd_sub_self_right (Nat.le_of_lt HGT.out)⟩⟩
                      · have hcf : decide ((0 : Int) < cmpN gk3 gk4) = false := by rw [hcg]; simp; omega
                        have HLE := Aside.mk hle
                        clear hcg hle
                        go_wp2_with (first | (go_at_call 131; with_reducible refine (rcompare_calls HX4.out HY4.out).mono ?_; rintro e w5 ⟨rfl, he⟩; have HE5 := Aside.mk (Ext.of_drewN he); have HX5 := Aside.mk (HX4.out.ext HE5.out); have HY5 := Aside.mk (HY4.out.ext HE5.out); have HB5 := Aside.mk (HB4.out.trans HE5.out); clear he) | (go_at_call 132; with_reducible refine (rsub_n HY5.out HX5.out HLE.out).mono ?_; rintro e w6 ⟨r6, rfl, hr, he⟩; have HZ6 := Aside.mk hr.rv; have HX6 := Aside.mk (HX5.out.ext he); have HB6 := Aside.mk (HB5.out.trans he); clear hr he))
                        go_roundg (gk3 + (gk4 - gk3))
                        case measure => have := HK2.out; have := HLE.out; have := HKY.out; have := HXP.out; omega
                        case rel => exact ⟨gk3, gk4 - gk3, rfl, HK0.out, HX6, HZ6, HB6, ⟨gcd_sub HH4.out HLE.out⟩⟩
      · have hxb : (((x1 : Nat) : Int) % 2 == 0) = false := beq_eq_false_iff_ne.2 (by omega)
        have hodd : Nat.gcd gk Y % 2 = 1 := gcd_odd (by omega)
        obtain ⟨h, hh⟩ : ∃ h, Nat.gcd gk Y = h := ⟨_, rfl⟩
        rw [hh] at hodd HS
        have HH := Aside.mk hh
        have HO := Aside.mk hodd
        have HHB : Aside (h * 2 ^ t ≤ b) := ⟨Nat.le_trans (Nat.mul_le_mul_right _ (by rw [← hh]; exact Nat.le_of_dvd hY0 (Nat.gcd_dvd_right _ _))) HT.out⟩
        clear hodd hh hxe hxm hym hyy hcond hX0 hY0
        go_wp2
        go_loopg [0, 1] (gk + Y) (fun k x y wr2 => ∃ (X2 Y2 : Nat), k = X2 + Y2 ∧ 0 < X2 ∧ Aside (RV wr2 x (dig X2)) ∧ Aside (RV wr2 y (dig Y2)) ∧ Aside (Ext w wr2) ∧ Aside (Nat.gcd X2 Y2 = h))
        case atStart => exact ⟨gk, Y, rfl, HX0.out, HX, HY, HB, HH⟩
        case round =>
          obtain ⟨gk2, ek2⟩ : ∃ z, z = gk := ⟨_, rfl⟩
          subst ek2
          obtain ⟨wr2, ew2⟩ : ∃ z, z = wr := ⟨_, rfl⟩
          subst ew2
          obtain ⟨X2, Y2, hk2, hX2, HX2, HY2, HB2, HH2⟩ := hrel
          obtain ⟨K, hK⟩ : ∃ K, K = X2 + Y2 := ⟨_, rfl⟩
          have HK2 := Aside.mk hk2
          have HXP := Aside.mk hX2
          clear hk2 hX2 hK
          rcases Nat.eq_zero_or_pos Y2 with rfl | hY2
          · obtain ⟨A2, c2', rfl, _⟩ := HX2.out
            obtain ⟨B2, d2, rfl, _⟩ := HY2.out
            have h0 : (dig 0).length = 0 := by rw [dig_zero]; rfl
            rw [h0]
            have HXH : Aside (X2 = h) := ⟨by have := HH2.out; rwa [Nat.gcd_zero_right] at this⟩
            rw [HXH.out] at HX2 ⊢
            clear h0
            go_wp2
            go_loopw [0, 7] (fun x i wr3 => ∃ k : Nat, k ≤ t ∧ i = .int .i64 (k : Int) ∧ Aside (RV wr3 x (dig (h * 2 ^ k))) ∧ Aside (Ext w wr3)) (fun _ i _ => t - (intOf i).toNat)
            case atStart => exact ⟨0, Nat.zero_le _, rfl, ⟨by simpa using HX2.out⟩, HB2⟩
            case round =>
              obtain ⟨k, hk, rfl, HX3, HB3⟩ := hrel
              by_cases hkt : k < t
              · have HLEN : Aside ((dig (h * 2 ^ k)).length < 1073741824) := ⟨HBL.out _ (Nat.le_trans (Nat.mul_le_mul_left _ (Nat.pow_le_pow_right (by decide) hk)) HHB.out)⟩
                have HTW : Aside (2 * (h * 2 ^ k) + 0 = h * 2 ^ (k + 1)) := ⟨by rw [Nat.add_zero, Nat.pow_succ', Nat.mul_left_comm]⟩
                go_wp2_with (go_at_call 133; with_reducible refine (rtwice_0 HX3.out HLEN.out HTW.out).mono ?_; rintro e w5 ⟨r5, rfl, hr, he⟩; have HX5 := Aside.mk hr.rv; have HB5 := Aside.mk (HB3.out.trans he); clear hr he)
                go_roundw
                case rel => exact ⟨k + 1, by omega, by go_num, HX5, HB5⟩
                case measure => simp [intOf]; omega
              · have hkt' : k = t := by omega
                subst hkt'
                rw [← HS.out] at HX3
                go_wp2_with (at_builtin; (refine copy_rv rfl _ _ rfl _ _ HX3.out rfl rfl ?_; intro v1 w9 h9 e9; have HV9 := Aside.mk h9; have HE9 := Aside.mk e9; clear h9 e9))
                go_ret
                exact ⟨_, rfl, HV9.out.mono HB3.out.size, HB3.out.trans HE9.out⟩
          · have HYP := Aside.mk hY2
            obtain ⟨bd2, n3, c3, y2, rfl, hcy2, _, _, hcn3, _⟩ := HY2.out.first hY2
            clear hY2
            go_wp2
            go_loopg [0] X2 (fun k x wr3 => 0 < k ∧ k ≤ X2 ∧ Aside (RV wr3 x (dig k)) ∧ Aside (RV wr3 (.slice (some bd2) (n3 + 1) c3) (dig Y2)) ∧ Aside (Ext w wr3) ∧ Aside (Nat.gcd k Y2 = h))
            case atStart => exact ⟨HXP.out, Nat.le_refl _, HX2, HY2, HB2, HH2⟩
            case round =>
              obtain ⟨gk3, ek3⟩ : ∃ z, z = gk := ⟨_, rfl⟩
              subst ek3
              obtain ⟨wr3, ew3⟩ : ∃ z, z = wr := ⟨_, rfl⟩
              subst ew3
              obtain ⟨hk0, hkX, HX3, HY3, HB3, HH3⟩ := hrel
              obtain ⟨ad3, n4, c4, x3, rfl, hcx3, hxm3, hx43, hcn4, _⟩ := HX3.out.first hk0
              have HKX := Aside.mk hkX
              have HK0 := Aside.mk hk0
              rcases Nat.mod_two_eq_zero_or_one gk3 with hx | hx
              · have hxb3 : (((x3 : Nat) : Int) % 2 == 0) = true := beq_iff_eq.2 (by omega)
                have HQ : Aside (0 < gk3 / 2 ∧ gk3 / 2 ≤ X2 ∧ gk3 / 2 < gk3) := ⟨by omega⟩
                have HH4 := Aside.mk (gcd_half_left HH3.out HO.out hx)
                clear hx hk0 hkX hxm3
                go_wp2_with (go_at_call 130; with_reducible refine (rhalf_n HX3.out).mono ?_; rintro e w5 ⟨r5, rfl, hr, he⟩; have HX5 := Aside.mk hr.rv; have HB5 := Aside.mk (HB3.out.trans he); have HY5 := Aside.mk (HY3.out.ext he); clear hr he)
                go_roundg (gk3 / 2)
                case measure => exact HQ.out.2.2
                case rel => exact ⟨HQ.out.1, HQ.out.2.1, HX5, HY5, HB5, HH4⟩
              · have hxb3 : (((x3 : Nat) : Int) % 2 == 0) = false := beq_eq_false_iff_ne.2 (by omega)
                clear hx hk0 hkX hxm3
                go_wp2
                go_loopg [1] Y2 (fun k y wr4 => 0 < k ∧ k ≤ Y2 ∧ Aside (RV wr4 y (dig k)) ∧ Aside (RV wr4 (.slice (some ad3) (n4 + 1) c4) (dig gk3)) ∧ Aside (Ext w wr4) ∧ Aside (Nat.gcd gk3 k = h))
                case atStart => exact ⟨HYP.out, Nat.le_refl _, HY3, HX3, HB3, HH3⟩
                case round =>
                  obtain ⟨gk4, ek4⟩ : ∃ z, z = gk := ⟨_, rfl⟩
                  subst ek4
                  obtain ⟨wr4, ew4⟩ : ∃ z, z = wr := ⟨_, rfl⟩
                  subst ew4
                  obtain ⟨hk04, hkY, HY4, HX4, HB4, HH4⟩ := hrel
                  obtain ⟨bd4, n5, c5, y4, rfl, hcy4, hym4, hy44, hcn5, _⟩ := HY4.out.first hk04
                  have HKY := Aside.mk hkY
                  rcases Nat.mod_two_eq_zero_or_one gk4 with hy | hy
                  · have hyb4 : (((y4 : Nat) : Int) % 2 == 0) = true := beq_iff_eq.2 (by omega)
                    have HQ : Aside (0 < gk4 / 2 ∧ gk4 / 2 ≤ Y2 ∧ gk4 / 2 < gk4) := ⟨by omega⟩
                    have HH5 := Aside.mk (gcd_half_right HH4.out HO.out hy)
                    clear hy hk04 hkY hym4
                    go_wp2_with (go_at_call 130; with_reducible refine (rhalf_n HY4.out).mono ?_; rintro e w5 ⟨r5, rfl, hr, he⟩; have HY5 := Aside.mk hr.rv; have HB5 := Aside.mk (HB4.out.trans he); have HX5 := Aside.mk (HX4.out.ext he); clear hr he)
                    go_roundg (gk4 / 2)
                    case measure => exact HQ.out.2.2
                    case rel => exact ⟨HQ.out.1, HQ.out.2.1, HY5, HX5, HB5, HH5⟩
                  · have hyb4 : (((y4 : Nat) : Int) % 2 == 0) = false := beq_eq_false_iff_ne.2 (by omega)
                    have HK4 := Aside.mk hk04
                    have hcg := @cmpN_gt gk3 gk4
                    clear hy hk04 hkY hym4
                    rcases Nat.lt_or_ge gk4 gk3 with hgt | hle
                    · have hcf : decide ((0 : Int) < cmpN gk3 gk4) = true := by rw [hcg]; simp; omega
                      have HGT := Aside.mk hgt
                      clear hcg hgt
                      go_wp2_with (first | (go_at_call 131; with_reducible refine (rcompare_calls HX4.out HY4.out).mono ?_; rintro e w5 ⟨rfl, he⟩; have HE5 := Aside.mk (Ext.of_drewN he); have HX5 := Aside.mk (HX4.out.ext HE5.out); have HY5 := Aside.mk (HY4.out.ext HE5.out); have HB5 := Aside.mk (HB4.out.trans HE5.out); clear he) | (go_at_call 132; with_reducible refine (rsub_n HX5.out HY5.out (Nat.le_of_lt HGT.out)).mono ?_; rintro e w6 ⟨r6, rfl, hr, he⟩; have HZ6 := Aside.mk hr.rv; have HY6 := Aside.mk (HY5.out.ext he); have HB6 := Aside.mk (HB5.out.trans he); clear hr he))
                      go_roundg (gk4 + (gk3 - gk4))
                      case measure => have := HK2.out; have := HGT.out; have := HKX.out; have := HYP.out; omega
                      case rel => exact ⟨gk4, gk3 - gk4, rfl, HK4.out, HY6, HZ6, HB6, ⟨by rw [← HH4.out, Nat.gcd_comm gk3 gk4]; exact Nat.gcd_sub_self_right (Nat.le_of_lt HGT.out)⟩⟩
                    · have hcf : decide ((0 : Int) < cmpN gk3 gk4) = false := by rw [hcg]; simp; omega
                      have HLE := Aside.mk hle
                      clear hcg hle
                      go_wp2_with (first | (go_at_call 131; with_reducible refine (rcompare_calls HX4.out HY4.out).mono ?_; rintro e w5 ⟨rfl, he⟩; have HE5 := Aside.mk (Ext.of_drewN he); have HX5 := Aside.mk (HX4.out.ext HE5.out); have HY5 := Aside.mk (HY4.out.ext HE5.out); have HB5 := Aside.mk (HB4.out.trans HE5.out); clear he) | (go_at_call 132; with_reducible refine (rsub_n HY5.out HX5.out HLE.out).mono ?_; rintro e w6 ⟨r6, rfl, hr, he⟩; have HZ6 := Aside.mk hr.rv; have HX6 := Aside.mk (HX5.out.ext he); have HB6 := Aside.mk (HB5.out.trans he); clear hr he))
                      go_roundg (gk3 + (gk4 - gk3))
                      case measure => have := HK2.out; have := HLE.out; have := HKY.out; have := HXP.out; omega
                      case rel => exact ⟨gk3, gk4 - gk3, rfl, HK0.out, HX6, HZ6, HB6, ⟨gcd_sub HH4.out HLE.out⟩⟩
end Go.Proofs.YtcbaipnphepbeaaGreatDoor
