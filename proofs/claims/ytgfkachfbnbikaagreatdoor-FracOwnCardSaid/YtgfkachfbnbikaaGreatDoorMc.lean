/- Plain arithmetic of one round of a long division: a digit of the quotient is guessed of the first digits, is at most one too great, and one too great is mended. Plain arithmetic of the rows of a long division. Contract of package nat: div, by hand of Knuth's Algorithm D. -/
import Derived.Test.YtgfkachfbnbikaaGreatDoorMa
import Derived.Test.YtgfkachfbnbikaaGreatDoorMb
import Derived.Test.YtgfkachfbnbikaaGreatDoorShelf
import Derived.Lib.ItoaNum
import Derived.Deep.DeepCutAuto
import Derived.Deep.CutBlock
namespace Go.Proofs.YtgfkachfbnbikaaGreatDoor

/-- The numbers of one round. `S` is what is left, `V` the divisor. -/
structure Round (S V P v1 v2 vr two c ur : Nat) : Prop where
  hV : V = (v1 * 4294967296 + v2) * P + vr
  hvr : vr < P
  hS : S = (two * 4294967296 + c) * P + ur
  hur : ur < P
  hv1 : 2147483648 ≤ v1
  hv1' : v1 < 4294967296
  hv2 : v2 < 4294967296
  hc : c < 4294967296
  hSV : S < 4294967296 * V
namespace Round
variable {S V P v1 v2 vr two c ur q r : Nat}
theorem hP (h : Round S V P v1 v2 vr two c ur) : 0 < P := Nat.lt_of_le_of_lt (Nat.zero_le _) h.hvr
theorem Vpos (h : Round S V P v1 v2 vr two c ur) : 0 < V := by
  have h1 := h.hv1
  have h2 : 1 * 1 ≤ (v1 * 4294967296 + v2) * P := Nat.mul_le_mul (by omega) h.hP
  have := h.hV
  omega
theorem two_le (h : Round S V P v1 v2 vr two c ur) : two ≤ v1 * 4294967296 + 4294967295 := by
  rcases Nat.lt_or_ge two (v1 * 4294967296 + 4294967296) with h1 | h1
  · omega
  · exfalso
    have e1 : (v1 * 4294967296 + 4294967296) * 4294967296 * P ≤ S := by
      rw [h.hS]
      have : (v1 * 4294967296 + 4294967296) * 4294967296 * P ≤ (two * 4294967296 + c) * P := Nat.mul_le_mul_right _ (Nat.le_trans (Nat.mul_le_mul_right 4294967296 h1) (Nat.le_add_right _ _))
      omega
    have e2 : V < (v1 * 4294967296 + 4294967296) * P := by
      rw [h.hV]
      have h2 : (v1 * 4294967296 + v2 + 1) * P ≤ (v1 * 4294967296 + 4294967296) * P := Nat.mul_le_mul_right _ (by have := h.hv2; omega)
      rw [Nat.add_mul, Nat.one_mul] at h2
      have := h.hvr
      omega
    have e3 := h.hSV
    rw [Nat.mul_assoc, Nat.mul_left_comm] at e1
    omega
theorem qt_lt (h : Round S V P v1 v2 vr two c ur) : S / V < 4294967296 := Nat.div_lt_of_lt_mul (by rw [Nat.mul_comm]; exact h.hSV)

/-- What holds of the guess. -/
structure Guess (S V v1 two q r : Nat) : Prop where
  eq : two = q * v1 + r
  ge : S / V ≤ q

theorem start (h : Round S V P v1 v2 vr two c ur) : Guess S V v1 two (two / v1) (two % v1) := by
  refine ⟨by rw [Nat.mul_comm]; exact (Nat.div_add_mod two v1).symm, ?_⟩
  have hv := h.hv1
  rw [Nat.le_div_iff_mul_le (by omega)]
  have e1 : S / V * V ≤ S := Nat.div_mul_le_self S V
  have e2 : S / V * (v1 * 4294967296 * P) ≤ S / V * V := Nat.mul_le_mul_left _ (by
    rw [h.hV, Nat.add_mul]; omega)
  have e3 : S < (two * 4294967296 + 4294967296) * P := by
    rw [h.hS]
    have : (two * 4294967296 + c + 1) * P ≤ (two * 4294967296 + 4294967296) * P := Nat.mul_le_mul_right _ (by have := h.hc; omega)
    rw [Nat.add_mul _ 1, Nat.one_mul] at this
    have := h.hur
    omega
  have e4 : S / V * v1 * (4294967296 * P) < (two + 1) * (4294967296 * P) := by
    have h1 : S / V * v1 * (4294967296 * P) = S / V * (v1 * 4294967296 * P) := by rw [Nat.mul_assoc, Nat.mul_assoc]
    have h2 : (two + 1) * (4294967296 * P) = (two * 4294967296 + 4294967296) * P := by rw [← Nat.mul_assoc, Nat.add_mul two 1, Nat.one_mul]
    omega
  have := Nat.lt_of_mul_lt_mul_right e4
  omega

theorem guess_le (h : Round S V P v1 v2 vr two c ur) (g : Guess S V v1 two q r) : q ≤ 4294967297 := by
  rcases Nat.lt_or_ge 4294967297 q with h1 | h1
  · exfalso
    have e1 : 4294967298 * v1 ≤ q * v1 := Nat.mul_le_mul_right _ h1
    have := g.eq
    have := h.two_le
    have := h.hv1
    omega
  · exact h1

/-- The test says: too great. -/
theorem less (h : Round S V P v1 v2 vr two c ur) (g : Guess S V v1 two q r) (ht : 4294967296 ≤ q ∨ r * 4294967296 + c < q * v2) : 0 < q ∧ Guess S V v1 two (q - 1) (r + v1) := by
  have hlt : S / V < q := by
    rcases ht with ht | ht
    · exact Nat.lt_of_lt_of_le h.qt_lt ht
    · rw [Nat.div_lt_iff_lt_mul h.Vpos]
      have e1 : (q * v1 * 4294967296 + q * v2) * P ≤ q * V := by
        rw [h.hV, Nat.mul_add q]
        have : q * ((v1 * 4294967296 + v2) * P) = (q * v1 * 4294967296 + q * v2) * P := by rw [← Nat.mul_assoc, Nat.mul_add, Nat.mul_assoc q v1]
        omega
      have e2 : (two * 4294967296 + c + 1) * P ≤ (q * v1 * 4294967296 + q * v2) * P := Nat.mul_le_mul_right _ (by
        have := g.eq
        omega)
      rw [Nat.add_mul _ 1, Nat.one_mul] at e2
      have := h.hS
      have := h.hur
      omega
  have hq0 : 0 < q := Nat.lt_of_le_of_lt (Nat.zero_le _) hlt
  refine ⟨hq0, ?_, Nat.le_sub_one_of_lt hlt⟩
  have := g.eq
  obtain ⟨q', rfl⟩ : ∃ q', q = q' + 1 := ⟨q - 1, by omega⟩
  rw [Nat.add_mul, Nat.one_mul] at this
  simp only [Nat.add_sub_cancel]
  omega

theorem small (h : Round S V P v1 v2 vr two c ur) (g : Guess S V v1 two q r) (hr : 4294967296 ≤ r) : q < 4294967296 := by
  rcases Nat.lt_or_ge q 4294967296 with h1 | h1
  · exact h1
  · exfalso
    have e1 : 4294967296 * v1 ≤ q * v1 := Nat.mul_le_mul_right _ h1
    have := g.eq
    have := h.two_le
    omega

/-- The guess that stays is at most one too great. -/
theorem stay (h : Round S V P v1 v2 vr two c ur) (g : Guess S V v1 two q r) (hq : q < 4294967296) (ht : 4294967296 ≤ r ∨ q * v2 ≤ r * 4294967296 + c) : q ≤ S / V + 1 := by
  have e1 : q * v1 * 4294967296 + q * v2 ≤ two * 4294967296 + c := by
    have := g.eq
    rcases ht with ht | ht
    · have e : q * v2 ≤ 4294967295 * 4294967295 := Nat.mul_le_mul (by omega) (by have := h.hv2; omega)
      omega
    · omega
  have e2 : q * V ≤ S + V := by
    have h1 : q * V = (q * v1 * 4294967296 + q * v2) * P + q * vr := by
      rw [h.hV, Nat.mul_add q]
      congr 1
      rw [← Nat.mul_assoc, Nat.mul_add, Nat.mul_assoc q v1]
    have h2 : (q * v1 * 4294967296 + q * v2) * P ≤ (two * 4294967296 + c) * P := Nat.mul_le_mul_right _ e1
    have h3 : q * vr ≤ q * P := Nat.mul_le_mul_left _ (Nat.le_of_lt h.hvr)
    have h4 : q * P ≤ (v1 * 4294967296 + v2) * P := Nat.mul_le_mul_right _ (by have := h.hv1; omega)
    have := h.hS
    have := h.hV
    omega
  rcases Nat.eq_zero_or_pos q with h0 | h0
  · rw [h0]; exact Nat.zero_le _
  · obtain ⟨q', rfl⟩ : ∃ q', q = q' + 1 := ⟨q - 1, by omega⟩
    rw [Nat.add_mul, Nat.one_mul] at e2
    have : q' ≤ S / V := (Nat.le_div_iff_mul_le h.Vpos).2 (by omega)
    exact Nat.add_le_add_right this 1
end Round

/-- What is left behind `take`, and behind `give` if it was too much. -/
theorem taken {S S' V q M l : Nat} (hV : 0 < V) (hq : S / V ≤ q) (hq' : q ≤ S / V + 1) (h : S' + q * V = S + M * l) (hS' : S' < M) (hl : l ≤ 1) :
    (l = 0 → q = S / V ∧ S' = S % V) ∧ (l = 1 → q = S / V + 1 ∧ S' + V = S % V + M) := by
  have e := Nat.div_add_mod S V
  have hm := Nat.mod_lt S hV
  have ec : V * (S / V) = S / V * V := Nat.mul_comm _ _
  generalize S / V = t at *
  have hqq : q = t ∨ q = t + 1 := by omega
  constructor
  · intro h0
    subst h0
    rcases hqq with rfl | rfl
    · exact ⟨rfl, by omega⟩
    · exfalso; rw [Nat.add_mul, Nat.one_mul] at h; omega
  · intro h1
    subst h1
    rcases hqq with rfl | rfl
    · exfalso; omega
    · rw [Nat.add_mul, Nat.one_mul] at h; exact ⟨rfl, by omega⟩
theorem given {S S' S'' V M c : Nat} (h : S'' + M * c = S' + V) (h' : S' + V = S % V + M) (hS : S'' < M) (hc : c ≤ 1) (hV0 : 0 < V) : S'' = S % V := by
  have hm := Nat.mod_lt S hV0
  have : c = 0 ∨ c = 1 := by omega
  rcases this with rfl | rfl <;> omega

end Go.Proofs.YtgfkachfbnbikaaGreatDoor

namespace Go.Proofs.YtgfkachfbnbikaaGreatDoor

theorem getD_drop (xs : List Nat) (i j : Nat) : (xs.drop i).getD j 0 = xs.getD (i + j) 0 := by
  simp [List.getD_eq_getElem?_getD]
theorem Bpos (n : Nat) : 0 < 4294967296 ^ n := Nat.pow_pos (by decide)

theorem take_of_small {xs : List Nat} {L : Nat} (h : val xs < 4294967296 ^ L) (hL : L ≤ xs.length) : val (xs.drop L) = 0 ∧ val xs = val (xs.take L) := by
  have h1 := val_split xs L hL
  rcases Nat.eq_zero_or_pos (val (xs.drop L)) with h2 | h2
  · rw [h2] at h1; exact ⟨h2, by omega⟩
  · exfalso
    have : 4294967296 ^ L * 1 ≤ 4294967296 ^ L * val (xs.drop L) := Nat.mul_le_mul_left _ h2
    omega

theorem top2 {xs : List Nat} {s : Nat} (hs : xs.length = s + 2) : val xs = (xs.getD (s + 1) 0 * 4294967296 + xs.getD s 0) * 4294967296 ^ s + val (xs.take s) := by
  have h1 := val_take_step xs s
  have h2 := val_take_step xs (s + 1)
  have h3 : val (xs.take (s + 1 + 1)) = val xs := by rw [show s + 1 + 1 = xs.length from by omega, val_take_all]
  rw [h3, h1, Nat.pow_succ] at h2
  rw [h2, Nat.add_mul, Nat.mul_assoc (xs.getD (s + 1) 0), Nat.mul_comm (xs.getD (s + 1) 0), Nat.mul_comm (xs.getD s 0), Nat.mul_comm 4294967296 (4294967296 ^ s)]
  omega

theorem round_of {us vs : List Nat} {i s : Nat} (hdu : Ds us) (hdv : Ds vs) (hlv : vs.length = s + 2) (hv1 : 2147483648 ≤ vs.getD (s + 1) 0) (hS : val (us.drop i) < 4294967296 * val vs) (hi : i + (s + 2) < us.length) :
    Round (val (us.drop i)) (val vs) (4294967296 ^ s) (vs.getD (s + 1) 0) (vs.getD s 0) (val (vs.take s)) (us.getD (i + (s + 2)) 0 * 4294967296 + us.getD (i + (s + 1)) 0) (us.getD (i + s) 0) (val ((us.drop i).take s)) := by
  have hlu : (us.drop i).length = us.length - i := by simp
  have hV := val_lt hdv
  rw [hlv] at hV
  have hsm : val (us.drop i) < 4294967296 ^ (s + 3) := by
    rw [Nat.pow_succ]; omega
  have ht := (take_of_small hsm (by omega)).2
  refine ⟨top2 hlv, ?_, ?_, ?_, hv1, Ds.get hdv _, Ds.get hdv _, Ds.get hdu _, hS⟩
  · have := val_lt (hdv.take s); rwa [List.length_take, Nat.min_eq_left (by omega)] at this
  · have h1 := val_take_step (us.drop i) s
    have h2 := val_take_step (us.drop i) (s + 1)
    have h3 := val_take_step (us.drop i) (s + 2)
    rw [h2, h1, getD_drop, getD_drop, getD_drop, Nat.pow_succ, Nat.pow_succ] at h3
    rw [ht, h3, Nat.pow_succ]
    generalize us.getD (i + (s + 2)) 0 = x2
    generalize us.getD (i + (s + 1)) 0 = x1
    generalize us.getD (i + s) 0 = x0
    generalize 4294967296 ^ s = P
    have e1 : (x2 * 4294967296 + x1) * 4294967296 + x0 = x2 * 18446744073709551616 + x1 * 4294967296 + x0 := by omega
    rw [e1, Nat.add_mul, Nat.add_mul]
    have e2 : P * 4294967296 * 4294967296 * x2 = x2 * 18446744073709551616 * P := by grind
    have e3 : P * 4294967296 * x1 = x1 * 4294967296 * P := by rw [Nat.mul_comm, Nat.mul_comm P, ← Nat.mul_assoc]
    have e4 : P * x0 = x0 * P := Nat.mul_comm _ _
    omega
  · have := val_lt ((hdu.drop i).take s); rwa [List.length_take, Nat.min_eq_left (by omega)] at this

theorem after_take {us us' : List Nat} {i L q V l : Nat} (hd : Ds us') (hl : us'.length = us.length) (hiL : i + L ≤ us.length) (ht : us'.take i = us.take i) (hdr : us'.drop (i + L) = us.drop (i + L)) (hS : val (us.drop i) < 4294967296 ^ L)
    (h : val us' + 4294967296 ^ i * (q * V) = val us + 4294967296 ^ (i + L) * l) : val (us'.drop i) + q * V = val (us.drop i) + 4294967296 ^ L * l ∧ val (us'.drop i) < 4294967296 ^ L := by
  have h1 := val_split us i (by omega)
  have h2 := val_split us' i (by omega)
  rw [ht] at h2
  constructor
  · apply Nat.eq_of_mul_eq_mul_left (Bpos i)
    rw [Nat.mul_add, Nat.mul_add, ← Nat.mul_assoc _ (4294967296 ^ L), ← Nat.pow_add]
    omega
  · have h3 := (take_of_small hS (by simp; omega)).1
    rw [List.drop_drop] at h3
    have h4 := val_split (us'.drop i) L (by simp; omega)
    rw [List.drop_drop, hdr, h3] at h4
    have h5 := val_lt ((hd.drop i).take L)
    rw [List.length_take, Nat.min_eq_left (by simp; omega)] at h5
    omega
theorem after_give {us us' : List Nat} {i L V c : Nat} (hd : Ds us') (hl : us'.length = us.length) (hiL : i + L ≤ us.length) (ht : us'.take i = us.take i) (hdr : us'.drop (i + L) = us.drop (i + L)) (hS : val (us.drop i) < 4294967296 ^ L)
    (h : val us' + 4294967296 ^ (i + L) * c = val us + 4294967296 ^ i * V) : val (us'.drop i) + 4294967296 ^ L * c = val (us.drop i) + V ∧ val (us'.drop i) < 4294967296 ^ L := by
  have h1 := val_split us i (by omega)
  have h2 := val_split us' i (by omega)
  rw [ht] at h2
  constructor
  · apply Nat.eq_of_mul_eq_mul_left (Bpos i)
    rw [Nat.mul_add, Nat.mul_add, ← Nat.mul_assoc _ (4294967296 ^ L), ← Nat.pow_add]
    omega
  · have h3 := (take_of_small hS (by simp; omega)).1
    rw [List.drop_drop] at h3
    have h4 := val_split (us'.drop i) L (by simp; omega)
    rw [List.drop_drop, hdr, h3] at h4
    have h5 := val_lt ((hd.drop i).take L)
    rw [List.length_take, Nat.min_eq_left (by simp; omega)] at h5
    omega

/-- The divisor, moved such that its first digit is great. -/
theorem normed {b s n : Nat} (hl : (dig b).length = s + 2) (hn : n < 32) (h1 : 2147483648 ≤ (dig b).getD (s + 1) 0 * 2 ^ n) (h2 : (dig b).getD (s + 1) 0 * 2 ^ n < 4294967296) :
    (dig (b * 2 ^ n)).length = s + 2 ∧ 2147483648 ≤ (dig (b * 2 ^ n)).getD (s + 1) 0 := by
  have hb := top2 hl
  have hlow := val_lt ((ds_dig b).take s)
  rw [List.length_take, Nat.min_eq_left (by omega)] at hlow
  rw [val_dig] at hb
  have hd0 := Ds.get (ds_dig b) s
  generalize (dig b).getD (s + 1) 0 = t at *
  generalize (dig b).getD s 0 = t0 at *
  generalize val ((dig b).take s) = lo at *
  have hps := pow_split n (by omega)
  have ht : t < 2 ^ (32 - n) := by
    apply Nat.lt_of_mul_lt_mul_right (a := 2 ^ n); omega
  have ht2 : (t + 1) * 2 ^ n ≤ 4294967296 := by
    have h : (t + 1) * 2 ^ n ≤ 2 ^ (32 - n) * 2 ^ n := Nat.mul_le_mul_right (2 ^ n) ht
    omega
  have e1 : b < (t + 1) * 4294967296 ^ (s + 1) := by
    have h3 : (t * 4294967296 + t0 + 1) * 4294967296 ^ s ≤ ((t + 1) * 4294967296) * 4294967296 ^ s := Nat.mul_le_mul_right _ (by omega)
    rw [Nat.add_mul _ 1, Nat.one_mul] at h3
    rw [Nat.pow_succ, Nat.mul_comm (4294967296 ^ s), ← Nat.mul_assoc]
    omega
  have e2 : b * 2 ^ n < 4294967296 ^ (s + 2) := by
    have h3 : b * 2 ^ n < (t + 1) * 4294967296 ^ (s + 1) * 2 ^ n := Nat.mul_lt_mul_of_pos_right e1 (Nat.two_pow_pos n)
    have h4 : (t + 1) * 4294967296 ^ (s + 1) * 2 ^ n = (t + 1) * 2 ^ n * 4294967296 ^ (s + 1) := by rw [Nat.mul_assoc, Nat.mul_comm (4294967296 ^ (s + 1)), ← Nat.mul_assoc]
    have h5 : (t + 1) * 2 ^ n * 4294967296 ^ (s + 1) ≤ 4294967296 * 4294967296 ^ (s + 1) := Nat.mul_le_mul_right _ ht2
    rw [Nat.pow_succ _ (s + 1)]
    omega
  have e3 : 2147483648 * 4294967296 ^ (s + 1) ≤ b * 2 ^ n := by
    have h3 : 2147483648 * 4294967296 ^ (s + 1) ≤ t * 2 ^ n * 4294967296 ^ (s + 1) := Nat.mul_le_mul_right _ h1
    have h4 : t * 2 ^ n * 4294967296 ^ (s + 1) = t * 4294967296 ^ (s + 1) * 2 ^ n := by rw [Nat.mul_assoc, Nat.mul_comm (2 ^ n), ← Nat.mul_assoc]
    have h5 : t * 4294967296 ^ (s + 1) ≤ b := by
      rw [hb, Nat.add_mul, Nat.pow_succ, Nat.mul_comm (4294967296 ^ s), ← Nat.mul_assoc]; omega
    have h6 := Nat.mul_le_mul_right (2 ^ n) h5
    omega
  have l1 : (dig (b * 2 ^ n)).length ≤ s + 2 := dig_length_le e2
  have l2 : ¬ (dig (b * 2 ^ n)).length ≤ s + 1 := fun h => by
    have := lt_of_dig_length h
    have h3 := Bpos (s + 1)
    omega
  have l3 : (dig (b * 2 ^ n)).length = s + 2 := by omega
  refine ⟨l3, ?_⟩
  have h3 := top2 l3
  have h4 := val_lt ((ds_dig (b * 2 ^ n)).take s)
  have h5 := Ds.get (ds_dig (b * 2 ^ n)) s
  rw [val_dig] at h3
  rw [List.length_take, Nat.min_eq_left (by omega)] at h4
  generalize (dig (b * 2 ^ n)).getD (s + 1) 0 = v1 at *
  generalize (dig (b * 2 ^ n)).getD s 0 = v2 at *
  rcases Nat.lt_or_ge v1 2147483648 with h6 | h6
  · exfalso
    have h7 : (v1 * 4294967296 + v2 + 1) * 4294967296 ^ s ≤ (2147483648 * 4294967296) * 4294967296 ^ s := Nat.mul_le_mul_right _ (by omega)
    rw [Nat.add_mul _ 1, Nat.one_mul] at h7
    rw [Nat.pow_succ, Nat.mul_comm (4294967296 ^ s), ← Nat.mul_assoc] at e3
    omega
  · exact h6

/-- What stands above the divisor when the division begins. -/
theorem first_rest {zs : List Nat} {x lx s n V : Nat} (hz : zs.length = lx + 1) (hv : val zs = x * 2 ^ n) (hx : x < 4294967296 ^ lx) (hn : n < 32) (hs : s + 2 ≤ lx) (hV : 2147483648 * 4294967296 ^ (s + 1) ≤ V) :
    val (zs.drop (lx + 1 - (s + 2))) < V := by
  have h1 := val_split zs (lx + 1 - (s + 2)) (by omega)
  have hb : val zs < 4294967296 ^ lx * 2147483648 := by
    rw [hv]
    have h2 : x * 2 ^ n < 4294967296 ^ lx * 2 ^ n := Nat.mul_lt_mul_of_pos_right hx (Nat.two_pow_pos n)
    have h3 : 2 ^ n ≤ 2 ^ 31 := Nat.pow_le_pow_right (by omega) (by omega)
    have h4 := Nat.mul_le_mul_left (4294967296 ^ lx) h3
    omega
  have e : 4294967296 ^ lx = 4294967296 ^ (lx + 1 - (s + 2)) * 4294967296 ^ (s + 1) := by rw [← Nat.pow_add]; congr 1; omega
  have h5 : 4294967296 ^ (lx + 1 - (s + 2)) * val (zs.drop (lx + 1 - (s + 2))) < 4294967296 ^ (lx + 1 - (s + 2)) * V := by
    have h6 : 4294967296 ^ (lx + 1 - (s + 2)) * (2147483648 * 4294967296 ^ (s + 1)) ≤ 4294967296 ^ (lx + 1 - (s + 2)) * V := Nat.mul_le_mul_left _ hV
    have h7 : 4294967296 ^ lx * 2147483648 = 4294967296 ^ (lx + 1 - (s + 2)) * (2147483648 * 4294967296 ^ (s + 1)) := by rw [e, Nat.mul_assoc, Nat.mul_comm _ 2147483648]
    omega
  exact Nat.lt_of_mul_lt_mul_left h5

end Go.Proofs.YtgfkachfbnbikaaGreatDoor

namespace Go.Proofs.YtgfkachfbnbikaaGreatDoor
open Go.RowKit

theorem lead (x : Nat) (h0 : 0 < x) (h : x < 4294967296) : ∃ n : Nat, n < 32 ∧ 2147483648 ≤ x * 2 ^ n ∧ x * 2 ^ n < 4294967296 ∧ (32 - (Lib.bitLen x : Int)) = (n : Int) := by
  have h1 := Lib.bitLenAux_bounds 64 x (by omega) (by omega)
  have h2 := Lib.bitLen_le x 32 (by omega) (by omega)
  unfold Lib.bitLen at *
  generalize Lib.bitLenAux 64 x = b at *
  have e : 2 ^ (b - 1) * 2 ^ (32 - b) = 2147483648 := by rw [← Nat.pow_add, show b - 1 + (32 - b) = 31 from by omega]
  have e' : 2 ^ b * 2 ^ (32 - b) = 4294967296 := by rw [← Nat.pow_add, show b + (32 - b) = 32 from by omega]
  refine ⟨32 - b, by omega, ?_, ?_, by omega⟩
  · have := Nat.mul_le_mul_right (2 ^ (32 - b)) h1.2.1; omega
  · have := Nat.mul_lt_mul_of_pos_right h1.2.2 (Nat.two_pow_pos (32 - b)); omega

theorem lead_calls {w : World} {x n : Nat} (h : x < 4294967296) (hn : (32 - (Lib.bitLen x : Int)) = (n : Int)) :
    Calls Tryz.prog 168 #[.int .u32 (x : Int)] w fun e w' => e = .returned (.int .i64 (n : Int)) ∧ w = w' :=
  (Tryz.bits_LeadingZeros32 (x : Int) w (by omega) (by omega)).mono fun e w' ⟨he, hw⟩ => ⟨by rw [he]; simp [hn], hw.symm⟩

theorem short_dig {w : World} {u : Value} {a y : Nat} (hu : RV w u (dig a)) (hy : y < 4294967296) (hy0 : 0 < y) :
    Calls Tryz.prog 125 #[u, .int .u32 (y : Int)] w fun e w' => ∃ r, e = .returned (.tuple #[r, .int .u32 ((a % y : Nat) : Int)]) ∧ OV w.heap.size w' r (dig (a / y)) ∧ Ext w w' := by
  have h := short_calls hu hy hy0
  rwa [val_dig] at h

/-- What is known of the rows of a division. -/
structure DivRows (w wr : World) (gu gq b2 nu ql cu : Nat) (vv : Value) (us vs os : List Nat) : Prop where
  u : OV w.heap.size wr (.slice (some ⟨gu, 0, none⟩) nu cu) us
  v : OV b2 wr vv vs
  o : OV w.heap.size wr (.slice (some ⟨gq, 0, none⟩) ql ql) os
  lu : us.length = nu
  lo : os.length = ql
  hgu : w.heap.size ≤ gu
  hgub : gu < b2
  hgq : w.heap.size ≤ gq
  ne : gu ≠ gq
  nv : vv.ownBlock ≠ some gq
  e : Ext w wr

theorem DivRows.drewN {w wr : World} {gu gq b2 nu ql cu : Nat} {vv : Value} {us vs os : List Nat} (h : DivRows w wr gu gq b2 nu ql cu vv us vs os) (n : Nat) : DivRows w (wr.drewN n) gu gq b2 nu ql cu vv us vs os :=
  { h with u := h.u.ext ((Ext.refl _).drewN n), v := h.v.ext ((Ext.refl _).drewN n), o := h.o.ext ((Ext.refl _).drewN n), e := h.e.drewN n }

theorem DivRows.store {w wr : World} {gu gq b2 nu ql cu k x : Nat} {vv : Value} {us vs os : List Nat} (h : DivRows w wr gu gq b2 nu ql cu vv us vs os) (hx : x < 4294967296) :
    DivRows w (wr.setCell ⟨gq, k, none⟩ (.int .u32 (x : Int))) gu gq b2 nu ql cu vv us vs (os.set k x) := by
  have hg : wr.grownBy (wr.setCell ⟨gq, k, none⟩ (.int .u32 (x : Int))) (some gq) := grown_set ⟨rfl, rfl, rfl, Nat.le_refl _, fun _ _ _ => rfl⟩ _ rfl _
  exact { h with
    u := h.u.other hg (.inr (by intro hh; exact h.ne (by injection hh)))
    v := h.v.other hg (.inr h.nv)
    o := h.o.store k hx
    lo := by rw [List.length_set]; exact h.lo
    e := OV.ext_grown h.o h.e (Nat.le_refl _) hg }

theorem DivRows.after {w wr w' : World} {gu gq b2 nu ql cu : Nat} {vv : Value} {us us' vs os : List Nat} (h : DivRows w wr gu gq b2 nu ql cu vv us vs os) (hu : OV w.heap.size w' (.slice (some ⟨gu, 0, none⟩) nu cu) us') (hl : us'.length = us.length) (hv : OV b2 w' vv vs) (hg : wr.grownBy w' (some gu)) :
    DivRows w w' gu gq b2 nu ql cu vv us' vs os :=
  { h with
    u := hu
    v := hv
    o := h.o.other hg (.inr (by intro hh; exact h.ne (by injection hh with hh; exact hh.symm)))
    lu := hl.trans h.lu
    e := OV.ext_grown h.u h.e (Nat.le_refl _) hg }

theorem DivRows.take {w wr : World} {gu gq b2 nu ql cu k z q S V c' : Nat} {vv : Value} {us vs os : List Nat} (h : DivRows w wr gu gq b2 nu ql cu vv us vs os) (hk : k + (z + 1) ≤ nu) (hz : vs.length = z) (hq : q < 4294967296)
    (HQ : S / V ≤ q ∧ q ≤ S / V + 1) (hS : val (us.drop k) = S) (hV : val vs = V) (hV0 : 0 < V) (hSV : S < 4294967296 ^ (z + 1)) :
    Calls Tryz.prog 170 #[.slice (some ⟨gu, k, none⟩) (z + 1) c', vv, .int .u64 (q : Int)] wr fun e w' => ∃ (l : Nat) (us' : List Nat), e = .returned (.bool (l == 0)) ∧ l ≤ 1 ∧ DivRows w w' gu gq b2 nu ql cu vv us' vs os ∧
      us'.take k = us.take k ∧ us'.drop (k + (z + 1)) = us.drop (k + (z + 1)) ∧ (l = 0 → q = S / V ∧ val (us'.drop k) = S % V) ∧ (l = 1 → q = S / V + 1 ∧ val (us'.drop k) + V = S % V + 4294967296 ^ (z + 1)) ∧ val (us'.drop k) < 4294967296 ^ (z + 1) := by
  refine (take_calls (L := z + 1) (i := k) h.u (by rw [h.lu]; exact hk) h.v h.hgub hq).mono ?_
  rintro e w' ⟨l, c, us', rfl, hl, hc, hc0, hu', hlen, ht, hdr, hval, hv', hg⟩
  have hc0' := hc0 (by rw [hz])
  subst hc0'
  rw [List.take_of_length_le (by omega), hV, Nat.zero_add] at hval
  subst hS
  have h1 := after_take hu'.1.2 hlen (by rw [h.lu]; exact hk) ht hdr hSV hval
  have h2 := taken hV0 HQ.1 HQ.2 h1.1 h1.2 hl
  exact ⟨l, us', rfl, hl, h.after hu' hlen hv' hg, ht, hdr, h2.1, h2.2, h1.2⟩

theorem DivRows.give {w wr : World} {gu gq b2 nu ql cu k z S V c' : Nat} {vv : Value} {us vs os : List Nat} (h : DivRows w wr gu gq b2 nu ql cu vv us vs os) (hk : k + (z + 1) ≤ nu) (hz : vs.length = z)
    (hS : val (us.drop k) + V = S % V + 4294967296 ^ (z + 1)) (hV : val vs = V) (hV0 : 0 < V) (hSV : val (us.drop k) < 4294967296 ^ (z + 1)) :
    Calls Tryz.prog 171 #[.slice (some ⟨gu, k, none⟩) (z + 1) c', vv] wr fun e w' => ∃ (us' : List Nat), e = .returned (.tuple #[]) ∧ DivRows w w' gu gq b2 nu ql cu vv us' vs os ∧
      us'.take k = us.take k ∧ val (us'.drop k) = S % V := by
  refine (give_calls (L := z + 1) (i := k) h.u (by rw [h.lu]; exact hk) h.v h.hgub).mono ?_
  rintro e w' ⟨c, us', rfl, hc, hu', hlen, ht, hdr, hval, hv', hg⟩
  rw [List.take_of_length_le (by omega), hV] at hval
  have h1 := after_give hu'.1.2 hlen (by rw [h.lu]; exact hk) ht hdr hSV hval
  exact ⟨us', rfl, h.after hu' hlen hv' hg, ht, given h1.1 hS h1.2 hc hV0⟩

theorem div_next {X V S k : Nat} {us us' os : List Nat} (hlo : k < os.length) (hku : k ≤ us.length) (hlu : us'.length = us.length) (ht : us'.take k = us.take k) (hS : val (us.drop k) = S) (hS' : val (us'.drop k) = S % V)
    (h : X = val (os.drop (k + 1)) * V * 4294967296 ^ (k + 1) + val us) : X = val ((os.set k (S / V)).drop k) * V * 4294967296 ^ k + val us' := by
  have h1 := val_split us k hku
  have h2 := val_split us' k (by omega)
  rw [ht, hS'] at h2
  rw [hS] at h1
  rw [val_drop _ k (by simpa using hlo), drop_set_self, List.getD_eq_getElem?_getD, List.getElem?_set_self hlo, Option.getD_some, h, h1, h2]
  have e := Nat.div_add_mod S V
  rw [Nat.pow_succ]
  generalize val (os.drop (k + 1)) = O at *
  generalize val (us.take k) = T at *
  generalize 4294967296 ^ k = P at *
  generalize S / V = Q at *
  generalize S % V = R at *
  subst e
  grind

theorem div_end {a b n O U : Nat} (h : a * 2 ^ n = O * (b * 2 ^ n) + U) (hU : U < b * 2 ^ n) : O = a / b ∧ U / 2 ^ n = a % b := by
  have hp := Nat.two_pow_pos n
  generalize 2 ^ n = P at *
  have hle : O * b ≤ a := by
    apply Nat.le_of_mul_le_mul_right _ hp
    rw [Nat.mul_assoc]; omega
  obtain ⟨r, rfl⟩ := Nat.exists_eq_add_of_le hle
  have hUr : U = r * P := by
    rw [Nat.add_mul, Nat.mul_assoc] at h; omega
  subst hUr
  have hr : r < b := Nat.lt_of_mul_lt_mul_right hU
  rw [Nat.mul_div_cancel _ hp]
  refine ⟨?_, ?_⟩
  · rw [Nat.mul_comm, Nat.mul_add_div (by omega), Nat.div_eq_of_lt hr, Nat.add_zero]
  · rw [Nat.mul_comm, Nat.mul_add_mod, Nat.mod_eq_of_lt hr]

set_option maxRecDepth 100000 in
set_option maxHeartbeats 1600000 in
theorem div_calls {w : World} {u v : Value} {a b : Nat} (hu : RV w u (dig a)) (hv : RV w v (dig b)) (hb : 0 < b) (hla : (dig a).length < 1073741823) (hlb : (dig b).length < 1073741823) :
    Calls Tryz.prog 148 #[u, v] w fun e w' => ∃ q r, e = .returned (.tuple #[q, r]) ∧ OV w.heap.size w' q (dig (a / b)) ∧ OV w.heap.size w' r (dig (a % b)) ∧ Ext w w' := by
  rcases Nat.lt_or_ge a b with hab | hab
  · have HU := Aside.mk hu
    have HV := Aside.mk hv
    have HQ := Aside.mk (show dig (a / b) = [] by rw [Nat.div_eq_of_lt hab, dig_zero])
    have HR := Aside.mk (show a % b = a from Nat.mod_eq_of_lt hab)
    have hcmp : cmpN a b = -1 := by simp [cmpN, hab]
    clear hu hv
    go_enter Tryz.func148, Tryz.ntmps148
    go_wp2_with (first | (go_at_call 167; refine (compare_calls HU.out HV.out).mono ?_; rintro e w' ⟨rfl, n, rfl⟩) | (go_at_call 124; refine (clone_calls (HU.out.ext ((Ext.refl _).drewN _))).mono ?_; rintro e w' ⟨r, rfl, hr, he⟩; have HO := Aside.mk hr; have HE := Aside.mk he; clear hr he))
    go_ret2
    exact ⟨_, _, rfl, by rw [HQ.out]; exact OV.nil _ _, by rw [HR.out]; exact HO.out, HE.out.trans' ((Ext.refl _).drewN _)⟩
  have hcmp : decide (cmpN a b < 0) = false := by
    unfold cmpN; rw [if_neg (by omega)]; split <;> rfl
  rcases Nat.lt_or_ge (dig b).length 2 with hl1 | hl2
  · have hb1 : b < 4294967296 := by have := lt_of_dig_length (n := b) (k := 1) (by omega); simpa using this
    have hdb : dig b = [b] := by rw [dig_pos (by omega), Nat.mod_eq_of_lt hb1, Nat.div_eq_of_lt hb1, dig_zero]
    have HV := Aside.mk hv
    rw [hdb] at hv
    obtain ⟨B, d, rfl, hdc, hdd, hdr⟩ := hv
    obtain ⟨bd, rfl, hcell⟩ := Rd.at32 hdr 0 (by simp)
    simp only [List.length_singleton] at HV hdc
    have hcell' : w.cell? bd = some (.int .u32 (b : Int)) := by
      have e : bd.add 0 = bd := by unfold Addr.add; split <;> simp_all
      rw [e] at hcell; simpa using hcell
    have HU := Aside.mk hu
    have hla' : (dig a).length ≤ 1073741824 := hu.dg.1
    clear hu hdd hdr hdb hcell hab hl1
    go_enter Tryz.func148, Tryz.ntmps148
    go_wp2_with (first | (go_at_call 167; refine (compare_calls HU.out HV.out).mono ?_; rintro e w' ⟨rfl, n, rfl⟩) | (go_at_call 125; refine (short_dig (HU.out.ext ((Ext.refl _).drewN n)) hb1 hb).mono ?_; rintro e w2 ⟨r, rfl, hr, he⟩; have HO := Aside.mk hr; have HE := Aside.mk he; clear hr he; have ho2 := OV.lit w2 [a % b] (by simp) (Ds.cons (Nat.lt_of_lt_of_le (Nat.mod_lt _ hb) (Nat.le_of_lt hb1)) Ds.nil); simp only [u32s, List.map_cons, List.map_nil, List.length_singleton] at ho2; have HO2 := Aside.mk ho2; clear ho2) | (go_at_call 156; refine (trim_calls HO2.out).mono ?_; rintro e w3 ⟨r3, rfl, hr3, rfl⟩; have HO3 := Aside.mk hr3; clear hr3))
    go_ret2
    have HE2 : Ext w w2 := HE.out.trans' ((Ext.refl _).drewN n)
    have HB2 := HE2.size
    refine ⟨r, r3, rfl, (HO.out.mono (Nat.le_refl _)).alloc _, ?_, HE2.alloc _⟩
    have h := HO3.out.mono HB2
    simpa [val] using h
  · obtain ⟨s, hs⟩ : ∃ s, (dig b).length = s + 2 := ⟨(dig b).length - 2, by omega⟩
    obtain ⟨t, ht⟩ : ∃ t, (dig b).getD (s + 1) 0 = t := ⟨_, rfl⟩
    have ht4 : t < 4294967296 := by rw [← ht]; exact Ds.get (ds_dig b) _
    have ht0 : 0 < t := by
      have := nz_dig b (by intro h; rw [h] at hs; simp at hs)
      rw [hs, show s + 2 - 1 = s + 1 from rfl, ht] at this
      omega
    obtain ⟨n, hn, hn1, hn2, hlead⟩ := lead t ht0 ht4
    obtain ⟨hVl, hV1⟩ := normed hs hn (by rw [ht]; exact hn1) (by rw [ht]; exact hn2)
    have hlab : (dig b).length ≤ (dig a).length := dig_length_le (Nat.lt_of_le_of_lt hab (lt_of_dig_length (Nat.le_refl _)))
    have HU := Aside.mk hu
    have HVV := Aside.mk hv
    obtain ⟨B, d, rfl, hdc, hdd, hdr⟩ := hv
    obtain ⟨s1, hs1⟩ : ∃ s1, s + 1 = s1 := ⟨_, rfl⟩
    rw [hs1] at ht hV1
    obtain ⟨bd, rfl, hcell⟩ := Rd.at32 hdr s1 (by omega)
    rw [ht] at hcell
    obtain ⟨z, hz⟩ : ∃ z, (dig b).length = z := ⟨_, rfl⟩
    rw [hz] at hdc HVV hlab
    have hz1 : (z : Int) - 1 = (s1 : Int) := by omega
    have hzne : ((z : Int) == 1) = false := by simp; omega
    have hzb : z < 1073741823 := by omega
    have hs1z : s1 < z := by omega
    have hss1 : s < s1 := by omega
    have hS1 := Aside.mk hs1
    obtain ⟨la, hla2⟩ : ∃ la, (dig a).length = la := ⟨_, rfl⟩
    rw [hla2] at hla hlab
    have HLA := Aside.mk hla2
    have HS := Aside.mk hs
    have HZS := Aside.mk (show z = s + 2 by omega)
    have HZ := Aside.mk hz
    have HVL := Aside.mk hVl
    clear hu hdd hdr hs ht hs1 hlb hl2 hn1 hn2 hz hVl hla2
    rw [HZ.out]
    go_enter Tryz.func148, Tryz.ntmps148
    go_wp2_with (first | (go_at_call 167; refine (compare_calls HU.out HVV.out).mono ?_; rintro e w' ⟨rfl, n0, rfl⟩) | (go_at_call 168; refine (lead_calls ht4 hlead).mono ?_; rintro e w' ⟨rfl, rfl⟩))
    refine (left_calls (HU.out.ext ((Ext.refl _).drewN n0)) hn (by rw [HLA.out]; omega)).mono ?_
    rintro e w1 ⟨uu, us0, rfl, hul, huv, huo, hb1⟩
    have HB1 : Aside (Ext w w1) := ⟨hb1.trans' ((Ext.refl _).drewN n0)⟩
    obtain ⟨gu, cu, rfl, hgu, hgu1, hcu, _⟩ := huo.row (by omega)
    obtain ⟨nu, hnu⟩ : ∃ nu, us0.length = nu := ⟨_, rfl⟩
    rw [hnu] at huo hcu
    have hguw : w.heap.size ≤ gu := hgu
    have HUO : Aside (OV w.heap.size w1 (.slice (some ⟨gu, 0, none⟩) nu cu) us0) := ⟨huo⟩
    have HUV := Aside.mk (show val us0 = a * 2 ^ n by rw [huv, val_dig])
    have hnula : nu = la + 1 := by rw [← hnu, hul, HLA.out]
    have HNULA := Aside.mk hnula
    have hnub : nu < 1073741824 := by omega
    have hnuz : z < nu := by omega
    have HUL := Aside.mk hnu
    clear hul huv huo hb1 hgu hnu hnula
    rw [HUL.out]
    go_wp2_with fail
    refine (left_calls (HVV.out.ext HB1.out) hn (by rw [HZ.out]; omega)).mono ?_
    rintro e w2 ⟨vv0, vs0, rfl, hvl, hvv, hvo, hb2⟩
    have HB2 : Aside (Ext w w2) := ⟨HB1.out.trans hb2⟩
    have HUO2 : Aside (OV w.heap.size w2 (.slice (some ⟨gu, 0, none⟩) nu cu) us0) := ⟨HUO.out.ext hb2⟩
    have HVO := Aside.mk hvo
    have HVV' := Aside.mk (show val vs0 = b * 2 ^ n by rw [hvv, val_dig])
    have hw12 := hb2.size
    clear hvl hvv hvo hb2
    go_wp2_with fail
    refine (trim_calls HVO.out).mono ?_
    rintro e w2' ⟨vv, rfl, hvo, rfl⟩
    rw [HVV'.out] at hvo
    have hVp : 0 < b * 2 ^ n := Nat.mul_pos hb (Nat.two_pow_pos n)
    obtain ⟨V, hV⟩ : ∃ V, b * 2 ^ n = V := ⟨_, rfl⟩
    have hvl := HVL.out
    rw [hV] at hvo hV1 hVp hvl
    obtain ⟨vs, hvs⟩ : ∃ vs, dig V = vs := ⟨_, rfl⟩
    rw [hvs] at hvo hV1 hvl
    have hvval : val vs = V := by rw [← hvs, val_dig]
    obtain ⟨gv, cv, rfl, hgv, hgv1, hcv, _⟩ := hvo.row (by omega)
    have hvlz : vs.length = z := by rw [hvl, ← HS.out, HZ.out]
    rw [hvlz] at hvo hcv
    have HVO2 := Aside.mk hvo
    have HVAL := Aside.mk hvval
    have HVLZ := Aside.mk hvlz
    have HVEQ := Aside.mk hV
    have hv1d := hvo.1.get s1
    have hv2d := hvo.1.get s
    have hcv1 := hvo.cell s1 (by omega)
    have hcv2 := hvo.cell s (by omega)
    obtain ⟨v1, hv1⟩ : ∃ v1, vs.getD s1 0 = v1 := ⟨_, rfl⟩
    obtain ⟨v2, hv2⟩ : ∃ v2, vs.getD s 0 = v2 := ⟨_, rfl⟩
    rw [hv1] at hv1d hcv1 hV1
    rw [hv2] at hv2d hcv2
    have HV1 := Aside.mk hv1
    have HV2 := Aside.mk hv2
    obtain ⟨ql, hnq⟩ : ∃ ql, nu - z = ql := ⟨_, rfl⟩
    have hnqi : (nu : Int) - (z : Int) = (ql : Int) := by omega
    have hnqp : 0 < ql := by omega
    have hnqb : ql + z = nu := by omega
    clear hvo hvl hvs hvval hvlz hV hv1 hv2 hnq HVL HVO HVV'
    rw [HVLZ.out]
    go_wp2_with (refine make_u32 _ rfl _ _ rfl ql _ _ rfl rfl rfl rfl (by omega) ?_; intro w3 gg hz0 hb3 hz1; subst hz1; have HQ0 := Aside.mk hz0; have HB3 := Aside.mk hb3; clear hz0 hb3)
    have HR0 : Aside (DivRows w w3 gu w2.heap.size w1.heap.size nu ql cu (.slice (some ⟨gv, 0, none⟩) z cv) us0 vs (List.replicate ql 0)) := ⟨{
      u := HUO2.out.ext HB3.out, v := HVO2.out.ext HB3.out, o := HQ0.out.mono HB2.out.size, lu := HUL.out, lo := by simp, hgu := hguw, hgub := hgu1, hgq := HB2.out.size, ne := by omega, nv := by intro hh; injection hh with hh; exact absurd hh (show gv ≠ w2.heap.size by omega), e := HB2.out.trans HB3.out }⟩
    have HF : Aside (val (us0.drop ql) < V) := ⟨by
      have h := first_rest (lx := la) (s := s) (V := V) (n := n) (x := a) (by rw [HUL.out, HNULA.out]) HUV.out (by have := lt_of_dig_length (n := a) (Nat.le_refl _); rwa [HLA.out] at this) hn (by have := HZS.out; omega) (by
        have h1 := top2 (xs := vs) (s := s) (by rw [HVLZ.out, ← HZ.out, HS.out])
        rw [HVAL.out, hS1.out, HV1.out, HV2.out, Nat.add_mul, Nat.mul_assoc] at h1
        have h2 := Nat.mul_le_mul_right (4294967296 * 4294967296 ^ s) hV1
        rw [Nat.pow_succ, Nat.mul_comm (4294967296 ^ s)]
        omega)
      rwa [show la + 1 - (s + 2) = ql from by have := HZS.out; have := HNULA.out; omega] at h⟩
    clear hcv1 hcv2
    go_loopw [13] (fun i wr => ∃ (k : Nat) (us os : List Nat), k ≤ ql ∧ i = .int .i64 ((k : Int) - 1) ∧ Aside (DivRows w wr gu w2.heap.size w1.heap.size nu ql cu (.slice (some ⟨gv, 0, none⟩) z cv) us vs os) ∧
      Aside (a * 2 ^ n = val (os.drop k) * V * 4294967296 ^ k + val us) ∧ Aside (val (us.drop k) < V)) (fun i _ => (intOf i + 1).toNat)
    case atStart => exact ⟨ql, us0, _, Nat.le_refl _, rfl, HR0, ⟨by rw [show (List.replicate ql 0).drop ql = [] from by simp, HUV.out]; simp [val]⟩, HF⟩
    case round =>
      obtain ⟨k, us, os, hk, rfl, HR, HE, HF⟩ := hrel
      clear HR0 HQ0 HB3
      cases k with
      | zero =>
        have HD := Aside.mk (div_end (a := a) (b := b) (n := n) (O := val os) (U := val us) (by simpa [HVEQ.out] using HE.out) (by rw [HVEQ.out]; simpa using HF.out))
        have HN := Aside.mk hn
        have hE0 := Aside.mk HR.out.e
        have hOO := Aside.mk HR.out.o
        have hUU := Aside.mk HR.out.u
        clear hab hb hcmp ht4 ht0 hn hlead hcell hdc hz1 hzne hzb hs1z hss1 hlab hla hgu1 hcu hguw hnub hnuz hw12 hVp hgv hgv1 hcv hV1 hv1d hv2d hnqi hnqp hnqb hk
        go_wp2_with (first | (go_at_call 156; with_reducible refine (trim_calls hOO.out).mono ?_; rintro e w' ⟨r, rfl, hr, rfl⟩; have HO := Aside.mk hr; clear hr) | (go_at_call 156; with_reducible refine (trim_calls hUU.out).mono ?_; rintro e w' ⟨r2, rfl, hr, rfl⟩; have HO2 := Aside.mk hr; clear hr) | (go_at_call 172; refine (right_calls HO2.out.rv HN.out).mono ?_; rintro e w5 ⟨r3, rfl, hr, he⟩; have HO3 := Aside.mk hr; have HE3 := Aside.mk he; clear hr he))
        go_ret2
        have hE := hE0.out
        have hD := HD.out
        refine ⟨_, _, rfl, ?_, ?_, hE.trans HE3.out⟩
        · have h := HO.out.ext HE3.out
          rwa [hD.1] at h
        · have h := HO3.out.mono hE.size
          rwa [val_dig, hD.2] at h
      | succ k =>
        have hkz : k + z < nu := by omega
        obtain ⟨x2, hx2⟩ : ∃ x, us.getD (k + z) 0 = x := ⟨_, rfl⟩
        obtain ⟨x1, hx1⟩ : ∃ x, us.getD (k + s1) 0 = x := ⟨_, rfl⟩
        obtain ⟨x0, hx0⟩ : ∃ x, us.getD (k + s) 0 = x := ⟨_, rfl⟩
        have hx24 : x2 < 4294967296 := hx2 ▸ HR.out.u.1.get _
        have hx14 : x1 < 4294967296 := hx1 ▸ HR.out.u.1.get _
        have hx04 : x0 < 4294967296 := hx0 ▸ HR.out.u.1.get _
        have hc2 := HR.out.u.cell (k + z) (by rw [HR.out.lu]; omega)
        have hc1 := HR.out.u.cell (k + s1) (by rw [HR.out.lu]; omega)
        have hc0 := HR.out.u.cell (k + s) (by rw [HR.out.lu]; omega)
        have hcv1 := HR.out.v.cell s1 (by rw [HVLZ.out]; omega)
        have hcv2 := HR.out.v.cell s (by rw [HVLZ.out]; omega)
        rw [hx2] at hc2
        rw [hx1] at hc1
        rw [hx0] at hc0
        rw [HV1.out] at hcv1
        rw [HV2.out] at hcv2
        have hks1 : (k : Int) + (z : Int) - 1 = (k : Int) + (s1 : Int) := by omega
        have hks : (k : Int) + (z : Int) - 2 = (k : Int) + (s : Int) := by have := HZS.out; omega
        have hzs2 : (z : Int) - 2 = (s : Int) := by have := HZS.out; omega
        have hor := or_shift32 x2 x1 hx24 hx14
        obtain ⟨two, htwo⟩ : ∃ two, x2 * 4294967296 + x1 = two := ⟨_, rfl⟩
        rw [htwo] at hor
        have htwob : two < 18446744073709551616 := by omega
        obtain ⟨S, hS⟩ : ∃ S, val (us.drop k) = S := ⟨_, rfl⟩
        have HRD : Aside (Round S V (4294967296 ^ s) v1 v2 (val (vs.take s)) two x0 (val ((us.drop k).take s))) := ⟨by
          have hr := round_of (us := us) (vs := vs) (i := k) (s := s) HR.out.u.1.2 HR.out.v.1.2 (by rw [HVLZ.out, ← HZ.out, HS.out]) (by rw [hS1.out, HV1.out]; exact hV1) (by
            rw [HVAL.out, val_drop us k (by rw [HR.out.lu]; omega)]
            have h1 := HF.out
            have h2 : us.getD k 0 < 4294967296 := HR.out.u.1.get _
            omega) (by rw [HR.out.lu]; have := HZS.out; omega)
          rw [hS, HVAL.out, hS1.out, HV1.out, HV2.out, hx0, hx1, show k + (s + 2) = k + z from by have := HZS.out; omega, hx2, htwo] at hr
          exact hr⟩
        have HSS := Aside.mk hS
        have hv10 : ((v1 : Int) == 0) = false := by simp; omega
        obtain ⟨q0, hq0⟩ : ∃ q, two / v1 = q := ⟨_, rfl⟩
        obtain ⟨r0, hr0⟩ : ∃ r, two % v1 = r := ⟨_, rfl⟩
        have hdiv : (two : Int) / (v1 : Int) = (q0 : Int) := by rw [← hq0]; simp
        have hmod : (two : Int) % (v1 : Int) = (r0 : Int) := by rw [← hr0]; simp
        have HG0 : Aside (Round.Guess S V v1 two q0 r0) := ⟨by rw [← hq0, ← hr0]; exact HRD.out.start⟩
        have hr0b : r0 < v1 := by rw [← hr0]; exact Nat.mod_lt _ (by omega)
        have HX0 := Aside.mk hx0
        clear htwo hS hq0 hr0 hx2 hx1 hx0
        go_wp2
        go_quiet (fail)
        go_wp2
        go_quiet (fail)
        have hq0w : IntKind.u64.wrap (q0 : Int) = (q0 : Int) := by
          have h1 := HRD.out.guess_le HG0.out
          rw [wrap_u64]; omega
        simp only [hmod, hq0w]
        clear hq0w hmod hdiv hor hc2 hc1 hcv1
        go_upto_block 2 with (fail)
        go_cut [15, 16] (fun qv rv wx => ∃ q : Nat, qv = .int .u64 (q : Int) ∧ q < 4294967296 ∧ Aside (S / V ≤ q ∧ q ≤ S / V + 1) ∧ Aside (DivRows w wx gu w2.heap.size w1.heap.size nu ql cu (.slice (some ⟨gv, 0, none⟩) z cv) us vs os))
        case first =>
          have hr0B : r0 < 4294967296 := by omega
          have hksn : k + s < nu := by omega
          have hsz : s < z := by omega
          have hw1 : IntKind.i64.wrap (s1 : Int) = (s1 : Int) := wrap_i64 _ (by omega) (by omega)
          have hw0 : IntKind.i64.wrap (s : Int) = (s : Int) := wrap_i64 _ (by omega) (by omega)
          have hwkz : IntKind.i64.wrap ((k : Int) + (z : Int)) = (k : Int) + (z : Int) := wrap_i64 _ (by omega) (by omega)
          have hwks : IntKind.i64.wrap ((k : Int) + (s : Int)) = (k : Int) + (s : Int) := wrap_i64 _ (by omega) (by omega)
          clear hb hab hcmp ht4 ht0 hn hlead HU hcell HVV hdc hzne hzb hlab hla HLA HS HZS HZ HB1 hcu hguw HUO HUV HNULA hnub hnuz HUL HB2 HUO2 hw12 hgv hgv1 HVO2 HVAL HVEQ hnqi hnqp hk HE HF hkz hx24 hx14 htwob HSS hv10 hr0b hss1 hS1
          go_wp2
          go_loopw [15, 16] (fun qv rv wx => ∃ q r : Nat, qv = .int .u64 (q : Int) ∧ rv = .int .u64 (r : Int) ∧ r < 4294967296 ∧ Aside (Round.Guess S V v1 two q r) ∧ Aside (DivRows w wx gu w2.heap.size w1.heap.size nu ql cu (.slice (some ⟨gv, 0, none⟩) z cv) us vs os)) (fun qv _ _ => (intOf qv).toNat)
          case atStart => exact ⟨q0, r0, rfl, rfl, hr0B, HG0, ⟨(HR.out.drewN _).drewN _⟩⟩
          case round =>
            obtain ⟨q, r, rfl, rfl, hr, HG, HR'⟩ := hrel
            have hqb := HRD.out.guess_le HG.out
            have hcv1 := HR'.out.v.cell s1 (by rw [HVLZ.out]; omega)
            have hcv2 := HR'.out.v.cell s (by rw [HVLZ.out]; omega)
            have hc0 := HR'.out.u.cell (k + s) (by rw [HR'.out.lu]; omega)
            rw [HV1.out] at hcv1
            rw [HV2.out] at hcv2
            clear HR HG0
            rcases Nat.lt_or_ge q 4294967296 with hqB | hqB
            · have hx0 : us.getD (k + s) 0 = x0 := HX0.out
              rw [hx0] at hc0
              have hqv : q * v2 ≤ 4294967295 * 4294967295 := Nat.mul_le_mul (by omega) (by omega)
              obtain ⟨pr, hpr⟩ : ∃ pr, q * v2 = pr := ⟨_, rfl⟩
              have hpri : (q : Int) * (v2 : Int) = (pr : Int) := by rw [← hpr]; simp
              rw [hpr] at hqv
              have hprw : IntKind.u64.wrap (pr : Int) = (pr : Int) := by rw [wrap_u64]; omega
              have hv2w : IntKind.u64.wrap (v2 : Int) = (v2 : Int) := by rw [wrap_u64]; omega
              have hx0w : IntKind.u64.wrap (x0 : Int) = (x0 : Int) := by rw [wrap_u64]; omega
              have hrw : IntKind.u64.wrap ((r : Int) * 4294967296) = (r : Int) * 4294967296 := by rw [wrap_u64]; omega
              have hor := or_shift32 r x0 hr hx04
              obtain ⟨rx, hrx⟩ : ∃ rx, r * 4294967296 + x0 = rx := ⟨_, rfl⟩
              rw [hrx] at hor
              have HQB := Aside.mk hqB
              rcases Nat.lt_or_ge rx pr with hlt | hlt
              · have hgt : decide ((rx : Int) < (pr : Int)) = true := by simp; omega
                have hgt' : decide (rx < pr) = true := by simp; omega
                clear hx0
                obtain ⟨hq0, hG'⟩ := HRD.out.less HG.out (.inr (by rw [hpr, hrx]; exact hlt))
                obtain ⟨q', hq'⟩ : ∃ q', q - 1 = q' := ⟨_, rfl⟩
                obtain ⟨r', hr'⟩ : ∃ r', r + v1 = r' := ⟨_, rfl⟩
                have hq1 : IntKind.u64.wrap ((q : Int) - 1) = (q' : Int) := by rw [wrap_u64]; omega
                have hrv : IntKind.u64.wrap ((r : Int) + (v1 : Int)) = (r' : Int) := by rw [wrap_u64]; omega
                have hv1w : IntKind.u64.wrap (v1 : Int) = (v1 : Int) := by rw [wrap_u64]; omega
                rw [hq', hr'] at hG'
                have hqq : q' < q := by omega
                have HG' := Aside.mk hG'
                rcases Nat.lt_or_ge r' 4294967296 with hrB | hrB
                · skip
                  have HRB := Aside.mk hrB
                  clear hG' hq' hr' hqb hrB hr hv1d hv2d hV1 hx04 hr0B hgu1 hqB hqv hpr hrx hlt
                  go_wp2
                  have hge : ¬ ((4294967296 : Int) ≤ (q : Int)) := by have := HQB.out; omega
                  go_quiet (fail)
                  clear hge hgt hgt' hor hpri hprw hv2w hx0w hrw
                  have hge2 : ¬ ((4294967296 : Int) ≤ (r' : Int)) := by have := HRB.out; omega
                  go_wp2
                  go_roundw
                  case rel => exact ⟨q', r', rfl, rfl, HRB.out, HG', ⟨HR'.out.drewN _⟩⟩
                  case measure => simp [intOf]; omega
                · have hge2 : (4294967296 : Int) ≤ (r' : Int) := by omega
                  have HF : Aside (q' < 4294967296 ∧ S / V ≤ q' ∧ q' ≤ S / V + 1) := ⟨by
                    have h1 := HRD.out.small hG' hrB
                    exact ⟨h1, hG'.ge, HRD.out.stay hG' h1 (.inl hrB)⟩⟩
                  clear hG' hq' hr' hqb hrB hr hv1d hv2d hV1 hx04 hr0B hgu1 hqB hqv hpr hrx hlt
                  go_wp2
                  have hge : ¬ ((4294967296 : Int) ≤ (q : Int)) := by have := HQB.out; omega
                  go_quiet (fail)
                  clear hge hgt hgt' hor hpri hprw hv2w hx0w hrw
                  go_wp2
                  go_meet
                  exact ⟨q', rfl, HF.out.1, ⟨HF.out.2⟩, ⟨HR'.out.drewN _⟩⟩
              · have hgt : decide ((rx : Int) > (pr : Int)) = false ∨ True := .inr trivial
                have hng : decide ((rx : Int) < (pr : Int)) = false := by simp; omega
                have hng' : decide (rx < pr) = false := by simp; omega
                have HF : Aside (q < 4294967296 ∧ S / V ≤ q ∧ q ≤ S / V + 1) := ⟨⟨hqB, HG.out.ge, HRD.out.stay HG.out hqB (.inr (by rw [hpr, hrx]; exact hlt))⟩⟩
                clear hgt hx0 hqb hr hv1d hv2d hV1 hx04 hr0B hgu1 hqB hqv hpr hrx hlt
                go_wp2
                have hge : ¬ ((4294967296 : Int) ≤ (q : Int)) := by have := HQB.out; omega
                go_quiet (fail)
                clear hge hor
                go_wp2
                go_meet
                exact ⟨q, rfl, HF.out.1, ⟨HF.out.2⟩, ⟨HR'.out.drewN _⟩⟩
            · have hge : (4294967296 : Int) ≤ (q : Int) := by omega
              obtain ⟨hq0, hG'⟩ := HRD.out.less HG.out (.inl hqB)
              obtain ⟨q', hq'⟩ : ∃ q', q - 1 = q' := ⟨_, rfl⟩
              obtain ⟨r', hr'⟩ : ∃ r', r + v1 = r' := ⟨_, rfl⟩
              have hq1 : IntKind.u64.wrap ((q : Int) - 1) = (q' : Int) := by rw [wrap_u64]; omega
              have hrv : IntKind.u64.wrap ((r : Int) + (v1 : Int)) = (r' : Int) := by rw [wrap_u64]; omega
              have hv1w : IntKind.u64.wrap (v1 : Int) = (v1 : Int) := by rw [wrap_u64]; omega
              rw [hq', hr'] at hG'
              have hqq : q' < q := by omega
              have HG' := Aside.mk hG'
              have HQB := Aside.mk hqB
              rcases Nat.lt_or_ge r' 4294967296 with hrB | hrB
              · skip
                have HRB := Aside.mk hrB
                clear hG' hq' hr' hqb hrB hr hv1d hv2d hV1 hx04 hr0B hgu1 hqB
                go_wp2
                go_quiet (fail)
                clear hge
                have hge2 : ¬ ((4294967296 : Int) ≤ (r' : Int)) := by have := HRB.out; omega
                go_wp2
                go_roundw
                case rel => exact ⟨q', r', rfl, rfl, HRB.out, HG', ⟨HR'.out.drewN _⟩⟩
                case measure => simp [intOf]; omega
              · have hge2 : (4294967296 : Int) ≤ (r' : Int) := by omega
                have HF : Aside (q' < 4294967296 ∧ S / V ≤ q' ∧ q' ≤ S / V + 1) := ⟨by
                  have h1 := HRD.out.small hG' hrB
                  exact ⟨h1, hG'.ge, HRD.out.stay hG' h1 (.inl hrB)⟩⟩
                clear hG' hq' hr' hqb hrB hr hv1d hv2d hV1 hx04 hr0B hgu1 hqB
                go_wp2
                go_quiet (fail)
                clear hge
                go_wp2
                go_meet
                exact ⟨q', rfl, HF.out.1, ⟨HF.out.2⟩, ⟨HR'.out.drewN _⟩⟩
        case rest =>
          obtain ⟨q, rfl, hq, HQ, HRr⟩ := hcut
          have hwkz : IntKind.i64.wrap ((k : Int) + (z : Int)) = (k : Int) + (z : Int) := wrap_i64 _ (by omega) (by omega)
          have hwkz1 : IntKind.i64.wrap ((k : Int) + (z : Int) + 1) = (k : Int) + (z : Int) + 1 := wrap_i64 _ (by omega) (by omega)
          have HQw : Aside (IntKind.u32.wrap (q : Int) = (q : Int)) := ⟨by rw [wrap_u32]; omega⟩
          have HKZ := Aside.mk hkz
          have HKQ := Aside.mk (show k < ql by omega)
          have HQB := Aside.mk hq
          have HVP := Aside.mk hVp
          have HSV : Aside (S < 4294967296 ^ (z + 1)) := ⟨by
            have h1 := HRD.out.hSV
            have h2 := val_lt HRr.out.v.1.2
            rw [HVLZ.out, HVAL.out] at h2
            rw [Nat.pow_succ]; omega⟩
          clear hdc hzne hlab hla hw12 hgv hgv1 hV1 hv1d hv2d hnqi hnqp hx24 hx14 hx04 htwob hr0b hv10 hc0 hcv2 hq
          go_wp2_with fail
          rw [show k + z + 1 - k = z + 1 from by omega]
          refine (HRr.out.take (by have := HKZ.out; omega) HVLZ.out HQB.out HQ.out HSS.out HVAL.out HVP.out HSV.out).mono ?_
          rintro e w4 ⟨l, us4, rfl, hl, hr4, ht4', hdr4, hl0, hl1, hsm⟩
          have HR4 := Aside.mk hr4
          have HT4 := Aside.mk ht4'
          have HSM := Aside.mk hsm
          have HL0 := Aside.mk hl0
          have HL1 := Aside.mk hl1
          clear hr4 ht4' hdr4 hsm hl0 hl1
          obtain rfl | rfl : l = 0 ∨ l = 1 := by omega
          · have H0 := Aside.mk (HL0.out rfl)
            have hqw := HQw.out
            have hkq := HKQ.out
            have hcell := HR4.out.o.cell k (by rw [HR4.out.lo]; exact hkq)
            have hfree := HR4.out.o.free k
            have hk1 : ((k + 1 : Nat) : Int) - 1 = (k : Int) := by omega
            clear HL0 HL1
            go_wp2
            refine ⟨⟨k, us4, os.set k q, Nat.le_of_lt hkq, rfl, ⟨HR4.out.store HQB.out⟩, ⟨?_⟩, ⟨?_⟩⟩, ?_⟩
            · rw [H0.out.1]
              exact div_next (by rw [HR.out.lo]; exact hkq) (by rw [HR.out.lu]; omega) (by rw [HR4.out.lu, HR.out.lu]) HT4.out HSS.out H0.out.2 HE.out
            · rw [H0.out.2]; exact Nat.mod_lt _ HVP.out
            · simp [intOf] <;> omega
          · have H0 := Aside.mk (HL1.out rfl)
            obtain ⟨q1, hq1⟩ : ∃ q1, q - 1 = q1 := ⟨_, rfl⟩
            have hqe := H0.out.1
            have HQE : Aside (q1 = S / V) := ⟨by generalize S / V = t at *; omega⟩
            have hq1q : q = q1 + 1 := by generalize S / V = t at *; omega
            clear hqe
            have HQ1B : Aside (q1 < 4294967296) := ⟨by have := HQB.out; omega⟩
            have hq1w : IntKind.u64.wrap ((q : Int) - 1) = (q1 : Int) := by rw [wrap_u64]; have := HQB.out; omega
            have HQW1 : Aside (IntKind.u32.wrap (q1 : Int) = (q1 : Int)) := ⟨by rw [wrap_u32]; have := HQ1B.out; omega⟩
            have hk1 : ((k + 1 : Nat) : Int) - 1 = (k : Int) := by omega
            have hwkz : IntKind.i64.wrap ((k : Int) + (z : Int)) = (k : Int) + (z : Int) := wrap_i64 _ (by omega) (by omega)
            have hwkz1 : IntKind.i64.wrap ((k : Int) + (z : Int) + 1) = (k : Int) + (z : Int) + 1 := wrap_i64 _ (by omega) (by omega)
            have hkz := HKZ.out
            clear HL0 HL1 hq1 hq1q
            go_wp2_with fail
            rw [show k + z + 1 - k = z + 1 from by omega]
            refine (HR4.out.give (by have := HKZ.out; omega) HVLZ.out H0.out.2 HVAL.out HVP.out HSM.out).mono ?_
            rintro e w5 ⟨us5, rfl, hr5, ht5, hs5⟩
            have HR5 := Aside.mk hr5
            have HT5 := Aside.mk ht5
            have HS5 := Aside.mk hs5
            clear hr5 ht5 hs5
            have hqw := HQW1.out
            have hkq := HKQ.out
            have hcell := HR5.out.o.cell k (by rw [HR5.out.lo]; exact hkq)
            have hfree := HR5.out.o.free k
            have hk1 : ((k + 1 : Nat) : Int) - 1 = (k : Int) := by omega
            go_wp2
            refine ⟨⟨k, us5, os.set k q1, Nat.le_of_lt hkq, rfl, ⟨HR5.out.store HQ1B.out⟩, ⟨?_⟩, ⟨?_⟩⟩, ?_⟩
            · rw [HQE.out]
              exact div_next (by rw [HR.out.lo]; exact hkq) (by rw [HR.out.lu]; omega) (by rw [HR5.out.lu, HR.out.lu]) (HT5.out.trans HT4.out) HSS.out HS5.out HE.out
            · rw [HS5.out]; exact Nat.mod_lt _ HVP.out
            · simp [intOf] <;> omega
end Go.Proofs.YtgfkachfbnbikaaGreatDoor
