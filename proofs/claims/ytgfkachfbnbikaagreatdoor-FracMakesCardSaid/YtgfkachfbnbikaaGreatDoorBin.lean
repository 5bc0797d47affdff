/- Plain arithmetic of binary digits and of the binary gcd. No program in sight. -/
import Derived.Test.YtgfkachfbnbikaaGreatDoorMath
namespace Go.Proofs.YtgfkachfbnbikaaGreatDoor

theorem getD_dig (a k : Nat) : (dig a).getD k 0 = a / 4294967296 ^ k % 4294967296 := by
  induction k generalizing a with
  | zero =>
    by_cases h : a = 0
    · subst h; rw [dig_zero]; rfl
    · rw [dig_pos h]; simp
  | succ k ih =>
    by_cases h : a = 0
    · subst h; rw [dig_zero]; simp
    · rw [dig_pos h, List.getD_cons_succ, ih, Nat.div_div_eq_div_mul, Nat.pow_succ', ]
theorem B_pow (k : Nat) : (4294967296 : Nat) ^ k = 2 ^ (32 * k) := by rw [Nat.pow_mul]
/-- A binary digit of a number. -/
theorem bit_dig (a i : Nat) : (dig a).getD (i / 32) 0 / 2 ^ (i % 32) % 2 = a / 2 ^ i % 2 := by
  rw [getD_dig, B_pow, show (4294967296 : Nat) = 2 ^ 32 from rfl]
  have h : (a / 2 ^ (32 * (i / 32)) % 2 ^ 32).testBit (i % 32) = a.testBit i := by
    rw [Nat.testBit_mod_two_pow, Nat.testBit_div_two_pow, show i % 32 + 32 * (i / 32) = i from by omega]
    have : i % 32 < 32 := Nat.mod_lt _ (by decide)
    simp [this]
  rw [Nat.testBit_eq_decide_div_mod_eq, Nat.testBit_eq_decide_div_mod_eq] at h
  have h1 := Nat.mod_two_eq_zero_or_one (a / 2 ^ (32 * (i / 32)) % 2 ^ 32 / 2 ^ (i % 32))
  have h2 := Nat.mod_two_eq_zero_or_one (a / 2 ^ i)
  rw [decide_eq_decide] at h
  omega
theorem div_two_step (a j : Nat) : a / 2 ^ j = 2 * (a / 2 ^ (j + 1)) + a / 2 ^ j % 2 := by
  rw [Nat.pow_succ, ← Nat.div_div_eq_div_mul]; omega
/-- One step of the long division by binary digits. -/
theorem div_step {a b j r : Nat} (hb : 0 < b) (hr : r = a / 2 ^ (j + 1) % b) :
    a / 2 ^ j % b = (if b ≤ 2 * r + a / 2 ^ j % 2 then 2 * r + a / 2 ^ j % 2 - b else 2 * r + a / 2 ^ j % 2) ∧
    a / 2 ^ j / b = 2 * (a / 2 ^ (j + 1) / b) + (if b ≤ 2 * r + a / 2 ^ j % 2 then 1 else 0) := by
  have h := div_two_step a j
  generalize a / 2 ^ (j + 1) = m at *
  generalize ht : a / 2 ^ j % 2 = t at *
  have ht2 : t ≤ 1 := by omega
  rw [h]
  have hm := Nat.div_add_mod m b
  rw [← hr] at hm
  have hrb : r < b := hr ▸ Nat.mod_lt _ hb
  have e : 2 * m + t = b * (2 * (m / b)) + (2 * r + t) := by
    generalize m / b = q at *
    rw [← hm, Nat.mul_add, Nat.mul_left_comm]; omega
  rw [e, Nat.mul_add_mod, Nat.mul_add_div hb]
  split
  · rename_i hle
    have h1 : (2 * r + t) / b = 1 := by
      apply Nat.div_eq_of_lt_le <;> omega
    have h2 : (2 * r + t) % b = 2 * r + t - b := by
      rw [Nat.mod_eq_sub_mod hle, Nat.mod_eq_of_lt (by omega)]
    exact ⟨h2, by rw [h1]⟩
  · rename_i hle
    exact ⟨Nat.mod_eq_of_lt (by omega), by rw [Nat.div_eq_of_lt (show 2 * r + t < b by omega)]⟩
/-- A binary digit is set in a list of digits that has zeros from there on down. -/
theorem set_bit {zs : List Nat} (hd : Ds zs) {q j : Nat} (hv : val zs = q * 2 ^ (j + 1)) (hj : j / 32 < zs.length) :
    val (zs.set (j / 32) (zs.getD (j / 32) 0 + 2 ^ (j % 32))) = (2 * q + 1) * 2 ^ j ∧ zs.getD (j / 32) 0 % 2 ^ (j % 32 + 1) = 0 ∧ zs.getD (j / 32) 0 + 2 ^ (j % 32) < 4294967296 := by
  have h1 := val_set (zs.getD (j / 32) 0 + 2 ^ (j % 32)) hj
  have hg : zs.getD (j / 32) 0 < 4294967296 := Ds.get hd _
  have hs := val_split zs (j / 32) (by omega)
  have hdr : val (zs.drop (j / 32)) = zs.getD (j / 32) 0 + 4294967296 * val (zs.drop (j / 32 + 1)) := by
    rw [List.drop_eq_getElem_cons hj]; simp [val, List.getD_eq_getElem?_getD, List.getElem?_eq_getElem hj]
  have hlt := val_lt (hd.take (j / 32))
  rw [List.length_take, Nat.min_eq_left (by omega)] at hlt
  have hm : zs.getD (j / 32) 0 % 2 ^ (j % 32 + 1) = 0 := by
    have e1 : val zs / 4294967296 ^ (j / 32) = val (zs.drop (j / 32)) := by
      rw [hs, Nat.add_comm, Nat.mul_add_div (Nat.pow_pos (by decide)), Nat.div_eq_of_lt hlt, Nat.add_zero]
    have e2 : val zs / 4294967296 ^ (j / 32) = q * 2 ^ (j % 32 + 1) := by
      rw [hv, B_pow, show j + 1 = (j % 32 + 1) + 32 * (j / 32) from by omega, Nat.pow_add, ← Nat.mul_assoc, Nat.mul_div_cancel _ (Nat.two_pow_pos _)]
    have e3 : zs.getD (j / 32) 0 = val (zs.drop (j / 32)) % 4294967296 := by rw [hdr]; omega
    rw [e3, ← e1, e2, show (4294967296 : Nat) = 2 ^ (j % 32 + 1) * 2 ^ (31 - j % 32) from by rw [← Nat.pow_add, show j % 32 + 1 + (31 - j % 32) = 32 from by omega], Nat.mod_mul_right_mod, Nat.mul_mod_left]
  have hlt2 : zs.getD (j / 32) 0 + 2 ^ (j % 32) < 4294967296 := by
    generalize zs.getD (j / 32) 0 = x at *
    have e : (4294967296 : Nat) = 2 ^ (j % 32 + 1) * 2 ^ (31 - j % 32) := by rw [← Nat.pow_add, show j % 32 + 1 + (31 - j % 32) = 32 from by omega]
    have hx : x = 2 ^ (j % 32 + 1) * (x / 2 ^ (j % 32 + 1)) := by have := Nat.div_add_mod x (2 ^ (j % 32 + 1)); omega
    have hq : x / 2 ^ (j % 32 + 1) < 2 ^ (31 - j % 32) := by
      apply Nat.div_lt_of_lt_mul; rw [← e]; exact hg
    have h2 : 2 ^ (j % 32 + 1) * (x / 2 ^ (j % 32 + 1) + 1) ≤ 4294967296 := by rw [e]; exact Nat.mul_le_mul_left _ hq
    rw [Nat.mul_add, ← hx, Nat.mul_one, Nat.pow_succ] at h2
    have := Nat.two_pow_pos (j % 32)
    omega
  refine ⟨?_, hm, hlt2⟩
  rw [Nat.mul_add] at h1
  have e4 : 4294967296 ^ (j / 32) * 2 ^ (j % 32) = 2 ^ j := by rw [B_pow, ← Nat.pow_add, show 32 * (j / 32) + j % 32 = j from by omega]
  rw [e4, hv] at h1
  have e5 : (2 * q + 1) * 2 ^ j = q * 2 ^ (j + 1) + 2 ^ j := by
    rw [Nat.add_mul, Nat.one_mul, Nat.pow_succ, Nat.mul_comm 2 q, Nat.mul_assoc, Nat.mul_comm 2]
  rw [e5]
  omega
theorem or_bit {d r : Nat} (h : d % 2 ^ (r + 1) = 0) : d ||| 2 ^ r = d + 2 ^ r := by
  have hd : d = 2 ^ (r + 1) * (d / 2 ^ (r + 1)) := by have := Nat.div_add_mod d (2 ^ (r + 1)); omega
  have := Nat.two_pow_add_eq_or_of_lt (i := r + 1) (b := 2 ^ r) (by rw [Nat.pow_succ]; have := Nat.two_pow_pos r; omega) (d / 2 ^ (r + 1))
  rw [← hd] at this
  exact this.symm

/-! The binary gcd -/
theorem gcd_half_left {x y h : Nat} (hg : Nat.gcd x y = h) (ho : h % 2 = 1) (hx : x % 2 = 0) : Nat.gcd (x / 2) y = h := by
  have hy : y % 2 = 1 := by
    rcases Nat.mod_two_eq_zero_or_one y with h0 | h0
    · have := Nat.dvd_gcd (Nat.dvd_of_mod_eq_zero hx) (Nat.dvd_of_mod_eq_zero h0)
      rw [hg] at this; have := Nat.mod_eq_zero_of_dvd this; omega
    · exact h0
  have hc : Nat.Coprime 2 y := by
    have hd := Nat.gcd_dvd_left 2 y
    have h2 := Nat.gcd_dvd_right 2 y
    have hle := Nat.le_of_dvd (by decide) hd
    have : Nat.gcd 2 y ≠ 2 := by intro h; rw [h] at h2; have := Nat.mod_eq_zero_of_dvd h2; omega
    have h0 : 0 < Nat.gcd 2 y := Nat.gcd_pos_of_pos_left _ (by decide)
    show Nat.gcd 2 y = 1
    omega
  have := Nat.Coprime.gcd_mul_left_cancel (x / 2) hc
  rw [show 2 * (x / 2) = x from by omega, hg] at this
  exact this.symm
theorem gcd_half_right {x y h : Nat} (hg : Nat.gcd x y = h) (ho : h % 2 = 1) (hy : y % 2 = 0) : Nat.gcd x (y / 2) = h := by
  rw [Nat.gcd_comm]; rw [Nat.gcd_comm] at hg; exact gcd_half_left hg ho hy
theorem gcd_sub {x y h : Nat} (hg : Nat.gcd x y = h) (hle : x ≤ y) : Nat.gcd x (y - x) = h := by
  rw [← hg]; exact Nat.gcd_sub_self_right hle
theorem gcd_odd {x y : Nat} (h : ¬ (x % 2 = 0 ∧ y % 2 = 0)) : Nat.gcd x y % 2 = 1 := by
  rcases Nat.mod_two_eq_zero_or_one (Nat.gcd x y) with h0 | h0
  · exfalso; apply h
    have hd := Nat.dvd_of_mod_eq_zero h0
    exact ⟨Nat.mod_eq_zero_of_dvd (Nat.dvd_trans hd (Nat.gcd_dvd_left x y)), Nat.mod_eq_zero_of_dvd (Nat.dvd_trans hd (Nat.gcd_dvd_right x y))⟩
  · exact h0
theorem gcd_halves {x y : Nat} (hx : x % 2 = 0) (hy : y % 2 = 0) : Nat.gcd x y = 2 * Nat.gcd (x / 2) (y / 2) := by
  have := Nat.gcd_mul_left 2 (x / 2) (y / 2)
  rw [show 2 * (x / 2) = x from by omega, show 2 * (y / 2) = y from by omega] at this
  exact this
theorem val_mod2 (a : Nat) : (dig a).getD 0 0 % 2 = a % 2 := by rw [getD_dig]; simp
theorem dig_length_pos {a : Nat} (h : 0 < a) : 0 < (dig a).length := by
  have : dig a ≠ [] := fun e => by have := dig_nil_iff.1 e; omega
  exact List.length_pos_iff.2 this
end Go.Proofs.YtgfkachfbnbikaaGreatDoor
