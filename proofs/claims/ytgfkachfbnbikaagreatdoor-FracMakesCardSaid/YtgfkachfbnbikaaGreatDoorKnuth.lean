/- Plain arithmetic of one round of a long division: a digit of the quotient is guessed of the first digits, is at most one too great, and one too great is mended. -/
import Derived.Test.YtgfkachfbnbikaaGreatDoorMath
namespace Go.Proofs.YtgfkachfbnbikaaGreatDoor

/-- The numbers of one round. `S` is what is left, `V` the divisor. -/
structure Round (S V P v1 v2 vr two c ur : Nat) : Prop where
  hV : V = (v1 * 4294967296 + v2) * P + vr
  hvr : vr < P
  hS : S = (two * 4294967296 + c) * P + ur
  hur : ur < P
  hv1 : 2147483648 ≤ v1
  hv1' : v1 < 4294967296
  hv2 : v2 < 4294967296
  hc : c < 4294967296
  hSV : S < 4294967296 * V
namespace Round
variable {S V P v1 v2 vr two c ur q r : Nat}
theorem hP (h : Round S V P v1 v2 vr two c ur) : 0 < P := Nat.lt_of_le_of_lt (Nat.zero_le _) h.hvr
theorem Vpos (h : Round S V P v1 v2 vr two c ur) : 0 < V := by
  have h1 := h.hv1
  have h2 : 1 * 1 ≤ (v1 * 4294967296 + v2) * P := Nat.mul_le_mul (by omega) h.hP
  have := h.hV
  omega
theorem two_le (h : Round S V P v1 v2 vr two c ur) : two ≤ v1 * 4294967296 + 4294967295 := by
  rcases Nat.lt_or_ge two (v1 * 4294967296 + 4294967296) with h1 | h1
  · omega
  · exfalso
    have e1 : (v1 * 4294967296 + 4294967296) * 4294967296 * P ≤ S := by
      rw [h.hS]
      have : (v1 * 4294967296 + 4294967296) * 4294967296 * P ≤ (two * 4294967296 + c) * P := Nat.mul_le_mul_right _ (Nat.le_trans (Nat.mul_le_mul_right 4294967296 h1) (Nat.le_add_right _ _))
      omega
    have e2 : V < (v1 * 4294967296 + 4294967296) * P := by
      rw [h.hV]
      have h2 : (v1 * 4294967296 + v2 + 1) * P ≤ (v1 * 4294967296 + 4294967296) * P := Nat.mul_le_mul_right _ (by have := h.hv2; omega)
      rw [Nat.add_mul, Nat.one_mul] at h2
      have := h.hvr
      omega
    have e3 := h.hSV
    rw [Nat.mul_assoc, Nat.mul_left_comm] at e1
    omega
theorem qt_lt (h : Round S V P v1 v2 vr two c ur) : S / V < 4294967296 := Nat.div_lt_of_lt_mul (by rw [Nat.mul_comm]; exact h.hSV)

/-- What holds of the guess. -/
structure Guess (S V v1 two q r : Nat) : Prop where
  eq : two = q * v1 + r
  ge : S / V ≤ q

theorem start (h : Round S V P v1 v2 vr two c ur) : Guess S V v1 two (two / v1) (two % v1) := by
  refine ⟨by rw [Nat.mul_comm]; exact (Nat.div_add_mod two v1).symm, ?_⟩
  have hv := h.hv1
  rw [Nat.le_div_iff_mul_le (by omega)]
  have e1 : S / V * V ≤ S := Nat.div_mul_le_self S V
  have e2 : S / V * (v1 * 4294967296 * P) ≤ S / V * V := Nat.mul_le_mul_left _ (by
    rw [h.hV, Nat.add_mul]; omega)
  have e3 : S < (two * 4294967296 + 4294967296) * P := by
    rw [h.hS]
    have : (two * 4294967296 + c + 1) * P ≤ (two * 4294967296 + 4294967296) * P := Nat.mul_le_mul_right _ (by have := h.hc; omega)
    rw [Nat.add_mul _ 1, Nat.one_mul] at this
    have := h.hur
    omega
  have e4 : S / V * v1 * (4294967296 * P) < (two + 1) * (4294967296 * P) := by
    have h1 : S / V * v1 * (4294967296 * P) = S / V * (v1 * 4294967296 * P) := by rw [Nat.mul_assoc, Nat.mul_assoc]
    have h2 : (two + 1) * (4294967296 * P) = (two * 4294967296 + 4294967296) * P := by rw [← Nat.mul_assoc, Nat.add_mul two 1, Nat.one_mul]
    omega
  have := Nat.lt_of_mul_lt_mul_right e4
  omega

theorem guess_le (h : Round S V P v1 v2 vr two c ur) (g : Guess S V v1 two q r) : q ≤ 4294967297 := by
  rcases Nat.lt_or_ge 4294967297 q with h1 | h1
  · exfalso
    have e1 : 4294967298 * v1 ≤ q * v1 := Nat.mul_le_mul_right _ h1
    have := g.eq
    have := h.two_le
    have := h.hv1
    omega
  · exact h1

/-- The test says: too great. -/
theorem less (h : Round S V P v1 v2 vr two c ur) (g : Guess S V v1 two q r) (ht : 4294967296 ≤ q ∨ r * 4294967296 + c < q * v2) : 0 < q ∧ Guess S V v1 two (q - 1) (r + v1) := by
  have hlt : S / V < q := by
    rcases ht with ht | ht
    · exact Nat.lt_of_lt_of_le h.qt_lt ht
    · rw [Nat.div_lt_iff_lt_mul h.Vpos]
      have e1 : (q * v1 * 4294967296 + q * v2) * P ≤ q * V := by
        rw [h.hV, Nat.mul_add q]
        have : q * ((v1 * 4294967296 + v2) * P) = (q * v1 * 4294967296 + q * v2) * P := by rw [← Nat.mul_assoc, Nat.mul_add, Nat.mul_assoc q v1]
        omega
      have e2 : (two * 4294967296 + c + 1) * P ≤ (q * v1 * 4294967296 + q * v2) * P := Nat.mul_le_mul_right _ (by
        have := g.eq
        omega)
      rw [Nat.add_mul _ 1, Nat.one_mul] at e2
      have := h.hS
      have := h.hur
      omega
  have hq0 : 0 < q := Nat.lt_of_le_of_lt (Nat.zero_le _) hlt
  refine ⟨hq0, ?_, Nat.le_sub_one_of_lt hlt⟩
  have := g.eq
  obtain ⟨q', rfl⟩ : ∃ q', q = q' + 1 := ⟨q - 1, by omega⟩
  rw [Nat.add_mul, Nat.one_mul] at this
  simp only [Nat.add_sub_cancel]
  omega

theorem small (h : Round S V P v1 v2 vr two c ur) (g : Guess S V v1 two q r) (hr : 4294967296 ≤ r) : q < 4294967296 := by
  rcases Nat.lt_or_ge q 4294967296 with h1 | h1
  · exact h1
  · exfalso
    have e1 : 4294967296 * v1 ≤ q * v1 := Nat.mul_le_mul_right _ h1
    have := g.eq
    have := h.two_le
    omega

/-- The guess that stays is at most one too great. -/
theorem stay (h : Round S V P v1 v2 vr two c ur) (g : Guess S V v1 two q r) (hq : q < 4294967296) (ht : 4294967296 ≤ r ∨ q * v2 ≤ r * 4294967296 + c) : q ≤ S / V + 1 := by
  have e1 : q * v1 * 4294967296 + q * v2 ≤ two * 4294967296 + c := by
    have := g.eq
    rcases ht with ht | ht
    · have e : q * v2 ≤ 4294967295 * 4294967295 := Nat.mul_le_mul (by omega) (by have := h.hv2; omega)
      omega
    · omega
  have e2 : q * V ≤ S + V := by
    have h1 : q * V = (q * v1 * 4294967296 + q * v2) * P + q * vr := by
      rw [h.hV, Nat.mul_add q]
      congr 1
      rw [← Nat.mul_assoc, Nat.mul_add, Nat.mul_assoc q v1]
    have h2 : (q * v1 * 4294967296 + q * v2) * P ≤ (two * 4294967296 + c) * P := Nat.mul_le_mul_right _ e1
    have h3 : q * vr ≤ q * P := Nat.mul_le_mul_left _ (Nat.le_of_lt h.hvr)
    have h4 : q * P ≤ (v1 * 4294967296 + v2) * P := Nat.mul_le_mul_right _ (by have := h.hv1; omega)
    have := h.hS
    have := h.hV
    omega
  rcases Nat.eq_zero_or_pos q with h0 | h0
  · rw [h0]; exact Nat.zero_le _
  · obtain ⟨q', rfl⟩ : ∃ q', q = q' + 1 := ⟨q - 1, by omega⟩
    rw [Nat.add_mul, Nat.one_mul] at e2
    have : q' ≤ S / V := (Nat.le_div_iff_mul_le h.Vpos).2 (by omega)
    exact Nat.add_le_add_right this 1
end Round

/-- What is left behind `take`, and behind `give` if it was too much. -/
theorem taken {S S' V q M l : Nat} (hV : 0 < V) (hq : S / V ≤ q) (hq' : q ≤ S / V + 1) (h : S' + q * V = S + M * l) (hS' : S' < M) (hl : l ≤ 1) :
    (l = 0 → q = S / V ∧ S' = S % V) ∧ (l = 1 → q = S / V + 1 ∧ S' + V = S % V + M) := by
  have e := Nat.div_add_mod S V
  have hm := Nat.mod_lt S hV
  have ec : V * (S / V) = S / V * V := Nat.mul_comm _ _
  generalize S / V = t at *
  have hqq : q = t ∨ q = t + 1 := by omega
  constructor
  · intro h0
    subst h0
    rcases hqq with rfl | rfl
    · exact ⟨rfl, by omega⟩
    · exfalso; rw [Nat.add_mul, Nat.one_mul] at h; omega
  · intro h1
    subst h1
    rcases hqq with rfl | rfl
    · exfalso; omega
    · rw [Nat.add_mul, Nat.one_mul] at h; exact ⟨rfl, by omega⟩
theorem given {S S' S'' V M c : Nat} (h : S'' + M * c = S' + V) (h' : S' + V = S % V + M) (hS : S'' < M) (hc : c ≤ 1) (hV0 : 0 < V) : S'' = S % V := by
  have hm := Nat.mod_lt S hV0
  have : c = 0 ∨ c = 1 := by omega
  rcases this with rfl | rfl <;> omega

end Go.Proofs.YtgfkachfbnbikaaGreatDoor
