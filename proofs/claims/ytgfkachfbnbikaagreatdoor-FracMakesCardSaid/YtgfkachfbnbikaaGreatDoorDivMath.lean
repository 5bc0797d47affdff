/- Plain arithmetic of the rows of a long division. -/
import Derived.Test.YtgfkachfbnbikaaGreatDoorKnuth
namespace Go.Proofs.YtgfkachfbnbikaaGreatDoor

theorem getD_drop (xs : List Nat) (i j : Nat) : (xs.drop i).getD j 0 = xs.getD (i + j) 0 := by
  simp [List.getD_eq_getElem?_getD]
theorem Bpos (n : Nat) : 0 < 4294967296 ^ n := Nat.pow_pos (by decide)

theorem take_of_small {xs : List Nat} {L : Nat} (h : val xs < 4294967296 ^ L) (hL : L ≤ xs.length) : val (xs.drop L) = 0 ∧ val xs = val (xs.take L) := by
  have h1 := val_split xs L hL
  rcases Nat.eq_zero_or_pos (val (xs.drop L)) with h2 | h2
  · rw [h2] at h1; exact ⟨h2, by omega⟩
  · exfalso
    have : 4294967296 ^ L * 1 ≤ 4294967296 ^ L * val (xs.drop L) := Nat.mul_le_mul_left _ h2
    omega

theorem top2 {xs : List Nat} {s : Nat} (hs : xs.length = s + 2) : val xs = (xs.getD (s + 1) 0 * 4294967296 + xs.getD s 0) * 4294967296 ^ s + val (xs.take s) := by
  have h1 := val_take_step xs s
  have h2 := val_take_step xs (s + 1)
  have h3 : val (xs.take (s + 1 + 1)) = val xs := by rw [show s + 1 + 1 = xs.length from by omega, val_take_all]
  rw [h3, h1, Nat.pow_succ] at h2
  rw [h2, Nat.add_mul, Nat.mul_assoc (xs.getD (s + 1) 0), Nat.mul_comm (xs.getD (s + 1) 0), Nat.mul_comm (xs.getD s 0), Nat.mul_comm 4294967296 (4294967296 ^ s)]
  omega

theorem round_of {us vs : List Nat} {i s : Nat} (hdu : Ds us) (hdv : Ds vs) (hlv : vs.length = s + 2) (hv1 : 2147483648 ≤ vs.getD (s + 1) 0) (hS : val (us.drop i) < 4294967296 * val vs) (hi : i + (s + 2) < us.length) :
    Round (val (us.drop i)) (val vs) (4294967296 ^ s) (vs.getD (s + 1) 0) (vs.getD s 0) (val (vs.take s)) (us.getD (i + (s + 2)) 0 * 4294967296 + us.getD (i + (s + 1)) 0) (us.getD (i + s) 0) (val ((us.drop i).take s)) := by
  have hlu : (us.drop i).length = us.length - i := by simp
  have hV := val_lt hdv
  rw [hlv] at hV
  have hsm : val (us.drop i) < 4294967296 ^ (s + 3) := by
    rw [Nat.pow_succ]; omega
  have ht := (take_of_small hsm (by omega)).2
  refine ⟨top2 hlv, ?_, ?_, ?_, hv1, Ds.get hdv _, Ds.get hdv _, Ds.get hdu _, hS⟩
  · have := val_lt (hdv.take s); rwa [List.length_take, Nat.min_eq_left (by omega)] at this
  · have h1 := val_take_step (us.drop i) s
    have h2 := val_take_step (us.drop i) (s + 1)
    have h3 := val_take_step (us.drop i) (s + 2)
    rw [h2, h1, getD_drop, getD_drop, getD_drop, Nat.pow_succ, Nat.pow_succ] at h3
    rw [ht, h3, Nat.pow_succ]
    generalize us.getD (i + (s + 2)) 0 = x2
    generalize us.getD (i + (s + 1)) 0 = x1
    generalize us.getD (i + s) 0 = x0
    generalize 4294967296 ^ s = P
    have e1 : (x2 * 4294967296 + x1) * 4294967296 + x0 = x2 * 18446744073709551616 + x1 * 4294967296 + x0 := by omega
    rw [e1, Nat.add_mul, Nat.add_mul]
    have e2 : P * 4294967296 * 4294967296 * x2 = x2 * 18446744073709551616 * P := by grind
    have e3 : P * 4294967296 * x1 = x1 * 4294967296 * P := by rw [Nat.mul_comm, Nat.mul_comm P, ← Nat.mul_assoc]
    have e4 : P * x0 = x0 * P := Nat.mul_comm _ _
    omega
  · have := val_lt ((hdu.drop i).take s); rwa [List.length_take, Nat.min_eq_left (by omega)] at this

theorem after_take {us us' : List Nat} {i L q V l : Nat} (hd : Ds us') (hl : us'.length = us.length) (hiL : i + L ≤ us.length) (ht : us'.take i = us.take i) (hdr : us'.drop (i + L) = us.drop (i + L)) (hS : val (us.drop i) < 4294967296 ^ L)
    (h : val us' + 4294967296 ^ i * (q * V) = val us + 4294967296 ^ (i + L) * l) : val (us'.drop i) + q * V = val (us.drop i) + 4294967296 ^ L * l ∧ val (us'.drop i) < 4294967296 ^ L := by
  have h1 := val_split us i (by omega)
  have h2 := val_split us' i (by omega)
  rw [ht] at h2
  constructor
  · apply Nat.eq_of_mul_eq_mul_left (Bpos i)
    rw [Nat.mul_add, Nat.mul_add, ← Nat.mul_assoc _ (4294967296 ^ L), ← Nat.pow_add]
    omega
  · have h3 := (take_of_small hS (by simp; omega)).1
    rw [List.drop_drop] at h3
    have h4 := val_split (us'.drop i) L (by simp; omega)
    rw [List.drop_drop, hdr, h3] at h4
    have h5 := val_lt ((hd.drop i).take L)
    rw [List.length_take, Nat.min_eq_left (by simp; omega)] at h5
    omega
theorem after_give {us us' : List Nat} {i L V c : Nat} (hd : Ds us') (hl : us'.length = us.length) (hiL : i + L ≤ us.length) (ht : us'.take i = us.take i) (hdr : us'.drop (i + L) = us.drop (i + L)) (hS : val (us.drop i) < 4294967296 ^ L)
    (h : val us' + 4294967296 ^ (i + L) * c = val us + 4294967296 ^ i * V) : val (us'.drop i) + 4294967296 ^ L * c = val (us.drop i) + V ∧ val (us'.drop i) < 4294967296 ^ L := by
  have h1 := val_split us i (by omega)
  have h2 := val_split us' i (by omega)
  rw [ht] at h2
  constructor
  · apply Nat.eq_of_mul_eq_mul_left (Bpos i)
    rw [Nat.mul_add, Nat.mul_add, ← Nat.mul_assoc _ (4294967296 ^ L), ← Nat.pow_add]
    omega
  · have h3 := (take_of_small hS (by simp; omega)).1
    rw [List.drop_drop] at h3
    have h4 := val_split (us'.drop i) L (by simp; omega)
    rw [List.drop_drop, hdr, h3] at h4
    have h5 := val_lt ((hd.drop i).take L)
    rw [List.length_take, Nat.min_eq_left (by simp; omega)] at h5
    omega

/-- The divisor, moved such that its first digit is great. -/
theorem normed {b s n : Nat} (hl : (dig b).length = s + 2) (hn : n < 32) (h1 : 2147483648 ≤ (dig b).getD (s + 1) 0 * 2 ^ n) (h2 : (dig b).getD (s + 1) 0 * 2 ^ n < 4294967296) :
    (dig (b * 2 ^ n)).length = s + 2 ∧ 2147483648 ≤ (dig (b * 2 ^ n)).getD (s + 1) 0 := by
  have hb := top2 hl
  have hlow := val_lt ((ds_dig b).take s)
  rw [List.length_take, Nat.min_eq_left (by omega)] at hlow
  rw [val_dig] at hb
  have hd0 := Ds.get (ds_dig b) s
  generalize (dig b).getD (s + 1) 0 = t at *
  generalize (dig b).getD s 0 = t0 at *
  generalize val ((dig b).take s) = lo at *
  have hps := pow_split n (by omega)
  have ht : t < 2 ^ (32 - n) := by
    apply Nat.lt_of_mul_lt_mul_right (a := 2 ^ n); omega
  have ht2 : (t + 1) * 2 ^ n ≤ 4294967296 := by
    have h : (t + 1) * 2 ^ n ≤ 2 ^ (32 - n) * 2 ^ n := Nat.mul_le_mul_right (2 ^ n) ht
    omega
  have e1 : b < (t + 1) * 4294967296 ^ (s + 1) := by
    have h3 : (t * 4294967296 + t0 + 1) * 4294967296 ^ s ≤ ((t + 1) * 4294967296) * 4294967296 ^ s := Nat.mul_le_mul_right _ (by omega)
    rw [Nat.add_mul _ 1, Nat.one_mul] at h3
    rw [Nat.pow_succ, Nat.mul_comm (4294967296 ^ s), ← Nat.mul_assoc]
    omega
  have e2 : b * 2 ^ n < 4294967296 ^ (s + 2) := by
    have h3 : b * 2 ^ n < (t + 1) * 4294967296 ^ (s + 1) * 2 ^ n := Nat.mul_lt_mul_of_pos_right e1 (Nat.two_pow_pos n)
    have h4 : (t + 1) * 4294967296 ^ (s + 1) * 2 ^ n = (t + 1) * 2 ^ n * 4294967296 ^ (s + 1) := by rw [Nat.mul_assoc, Nat.mul_comm (4294967296 ^ (s + 1)), ← Nat.mul_assoc]
    have h5 : (t + 1) * 2 ^ n * 4294967296 ^ (s + 1) ≤ 4294967296 * 4294967296 ^ (s + 1) := Nat.mul_le_mul_right _ ht2
    rw [Nat.pow_succ _ (s + 1)]
    omega
  have e3 : 2147483648 * 4294967296 ^ (s + 1) ≤ b * 2 ^ n := by
    have h3 : 2147483648 * 4294967296 ^ (s + 1) ≤ t * 2 ^ n * 4294967296 ^ (s + 1) := Nat.mul_le_mul_right _ h1
    have h4 : t * 2 ^ n * 4294967296 ^ (s + 1) = t * 4294967296 ^ (s + 1) * 2 ^ n := by rw [Nat.mul_assoc, Nat.mul_comm (2 ^ n), ← Nat.mul_assoc]
    have h5 : t * 4294967296 ^ (s + 1) ≤ b := by
      rw [hb, Nat.add_mul, Nat.pow_succ, Nat.mul_comm (4294967296 ^ s), ← Nat.mul_assoc]; omega
    have h6 := Nat.mul_le_mul_right (2 ^ n) h5
    omega
  have l1 : (dig (b * 2 ^ n)).length ≤ s + 2 := dig_length_le e2
  have l2 : ¬ (dig (b * 2 ^ n)).length ≤ s + 1 := fun h => by
    have := lt_of_dig_length h
    have h3 := Bpos (s + 1)
    omega
  have l3 : (dig (b * 2 ^ n)).length = s + 2 := by omega
  refine ⟨l3, ?_⟩
  have h3 := top2 l3
  have h4 := val_lt ((ds_dig (b * 2 ^ n)).take s)
  have h5 := Ds.get (ds_dig (b * 2 ^ n)) s
  rw [val_dig] at h3
  rw [List.length_take, Nat.min_eq_left (by omega)] at h4
  generalize (dig (b * 2 ^ n)).getD (s + 1) 0 = v1 at *
  generalize (dig (b * 2 ^ n)).getD s 0 = v2 at *
  rcases Nat.lt_or_ge v1 2147483648 with h6 | h6
  · exfalso
    have h7 : (v1 * 4294967296 + v2 + 1) * 4294967296 ^ s ≤ (2147483648 * 4294967296) * 4294967296 ^ s := Nat.mul_le_mul_right _ (by omega)
    rw [Nat.add_mul _ 1, Nat.one_mul] at h7
    rw [Nat.pow_succ, Nat.mul_comm (4294967296 ^ s), ← Nat.mul_assoc] at e3
    omega
  · exact h6

/-- What stands above the divisor when the division begins. -/
theorem first_rest {zs : List Nat} {x lx s n V : Nat} (hz : zs.length = lx + 1) (hv : val zs = x * 2 ^ n) (hx : x < 4294967296 ^ lx) (hn : n < 32) (hs : s + 2 ≤ lx) (hV : 2147483648 * 4294967296 ^ (s + 1) ≤ V) :
    val (zs.drop (lx + 1 - (s + 2))) < V := by
  have h1 := val_split zs (lx + 1 - (s + 2)) (by omega)
  have hb : val zs < 4294967296 ^ lx * 2147483648 := by
    rw [hv]
    have h2 : x * 2 ^ n < 4294967296 ^ lx * 2 ^ n := Nat.mul_lt_mul_of_pos_right hx (Nat.two_pow_pos n)
    have h3 : 2 ^ n ≤ 2 ^ 31 := Nat.pow_le_pow_right (by omega) (by omega)
    have h4 := Nat.mul_le_mul_left (4294967296 ^ lx) h3
    omega
  have e : 4294967296 ^ lx = 4294967296 ^ (lx + 1 - (s + 2)) * 4294967296 ^ (s + 1) := by rw [← Nat.pow_add]; congr 1; omega
  have h5 : 4294967296 ^ (lx + 1 - (s + 2)) * val (zs.drop (lx + 1 - (s + 2))) < 4294967296 ^ (lx + 1 - (s + 2)) * V := by
    have h6 : 4294967296 ^ (lx + 1 - (s + 2)) * (2147483648 * 4294967296 ^ (s + 1)) ≤ 4294967296 ^ (lx + 1 - (s + 2)) * V := Nat.mul_le_mul_left _ hV
    have h7 : 4294967296 ^ lx * 2147483648 = 4294967296 ^ (lx + 1 - (s + 2)) * (2147483648 * 4294967296 ^ (s + 1)) := by rw [e, Nat.mul_assoc, Nat.mul_comm _ 2147483648]
    omega
  exact Nat.lt_of_mul_lt_mul_left h5

end Go.Proofs.YtgfkachfbnbikaaGreatDoor
