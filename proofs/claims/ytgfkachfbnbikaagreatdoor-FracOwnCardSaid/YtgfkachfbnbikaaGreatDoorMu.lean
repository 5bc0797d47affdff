/- The plain law of valid results: each result is valid; a number's parts, both times a number, make the number. The plain law of rational numbers: `ratio` is the number of its cross products. The plain law of rational numbers: a Rat's value, of sums, products and opposites; numbers of the same value are the same. -/
import Derived.Test.YtgfkachfbnbikaaGreatDoorMt
import Derived.Test.YtgfkachfbnbikaaGreatDoorMs
namespace Go.Proofs.YtgfkachfbnbikaaGreatDoor
open Go.RowKit

theorem okq_fault {l : Int} (h : l = 4 ∨ l = 11) : okq (fq l) = true := by rcases h with rfl | rfl <;> rfl
theorem okq_f {q : Rq} (h : okq q = true) : q.f = 0 ∨ q.f = 4 ∨ q.f = 11 := by
  unfold okq at h
  split at h
  · rename_i h0; exact .inl h0
  · simp only [Bool.and_eq_true, Bool.or_eq_true, beq_iff_eq] at h
    exact .inr h.1.1
theorem okq_fq {q : Rq} (h : okq q = true) (hf : q.f ≠ 0) : q = fq q.f := by
  unfold okq at h
  rw [if_neg hf] at h
  simp only [Bool.and_eq_true, Bool.not_eq_true', decide_eq_true_eq] at h
  obtain ⟨f, n, x, y⟩ := q
  dsimp only at h
  have hx : x = [] := List.eq_nil_of_length_eq_zero (by omega)
  have hy : y = [] := List.eq_nil_of_length_eq_zero (by omega)
  obtain rfl : n = false := h.1.2
  subst hx hy
  rfl
theorem ratio_okq (n : Bool) (x y : Nat) : okq (ratio n x y) = true := by
  rcases Nat.eq_zero_or_pos y with h | h
  · subst h; unfold ratio; rw [if_pos rfl]; rfl
  · cases h1 : (isLong (x / Nat.gcd x y) || isLong (y / Nat.gcd x y))
    · rw [Bool.or_eq_false_iff] at h1
      have hg : 0 < Nat.gcd x y := Nat.gcd_pos_of_pos_right _ h
      have k : IsNum (ratio n x y) (x / Nat.gcd x y) (y / Nat.gcd x y) := by
        have e : ratio n x y = ⟨0, n && decide (0 < x), dig (x / Nat.gcd x y), dig (y / Nat.gcd x y)⟩ := by
          unfold ratio
          rw [if_neg (by omega), h1.1, h1.2]; rfl
        rw [e]
        refine ⟨rfl, rfl, rfl, isLong_false.1 h1.1, isLong_false.1 h1.2, Nat.div_pos (Nat.le_of_dvd h (Nat.gcd_dvd_right _ _)) hg, ?_, ?_⟩
        · rw [Nat.gcd_div (Nat.gcd_dvd_left _ _) (Nat.gcd_dvd_right _ _), Nat.div_self hg]
        · intro hh
          simp only [Bool.and_eq_true, decide_eq_true_eq] at hh
          exact Nat.div_pos (Nat.le_of_dvd hh.2 (Nat.gcd_dvd_left _ _)) hg
      exact k.ok
    · unfold ratio; rw [if_neg (by omega), if_pos h1]; rfl
theorem madeq_okq {a b res : Rq} (ka : okq a = true) (kb : okq b = true) (hr : okq res = true) : okq (madeq a b res).1 = true := by
  unfold madeq
  rw [ka, kb]
  show okq (if leastq a.f b.f = 0 then res else fq (leastq a.f b.f)) = true
  split
  · exact hr
  · rename_i h
    apply okq_fault
    have h1 := okq_f ka
    have h2 := okq_f kb
    unfold leastq at h ⊢
    split at h <;> rename_i h3
    · rw [if_pos h3]; omega
    · rw [if_neg h3]; omega
theorem tameq_okq (f : Int) (n : Bool) (xs ys : List Nat) (most : Nat) : okq (tameq f n xs ys most) = true := by
  unfold tameq
  split
  · rename_i h; exact okq_fault h
  · exact ratio_okq _ _ _
theorem ratio_times {q : Rq} {p d z : Nat} (k : IsNum q p d) (hz : 0 < z) : ratio q.neg (p * z) (d * z) = q := by
  have hg : Nat.gcd (p * z) (d * z) = z := by rw [Nat.gcd_mul_right, k.gcd, Nat.one_mul]
  have hd : 0 < d * z := Nat.mul_pos k.pos hz
  unfold ratio
  rw [if_neg (by omega), hg, Nat.mul_div_cancel _ hz, Nat.mul_div_cancel _ hz, isLong_false.2 k.la, isLong_false.2 k.lb]
  have hn : (q.neg && decide (0 < p * z)) = q.neg := by
    cases h : q.neg
    · rfl
    · rw [decide_eq_true (Nat.mul_pos (k.neg h) hz)]; rfl
  rw [hn]
  cases q with
  | mk f n x y =>
    have h1 := k.f
    have h2 := k.num
    have h3 := k.den
    dsimp only at h1 h2 h3
    rw [h1, h2, h3]
    rfl
end Go.Proofs.YtgfkachfbnbikaaGreatDoor

namespace Go.Proofs.YtgfkachfbnbikaaGreatDoor
open Go.RowKit

/-- A whole number with a sign. -/
def sgn (n : Bool) (a : Nat) : Int := if n = true then -(a : Int) else (a : Int)
theorem sgn_zero (n : Bool) : sgn n 0 = 0 := by cases n <;> rfl
theorem sgn_abs (n : Bool) (a : Nat) : (sgn n a).natAbs = a := by cases n <;> simp [sgn]
theorem sgn_neg {n : Bool} {a : Nat} : (n && decide (0 < a)) = decide (sgn n a < 0) := by
  cases n
  · simp [sgn]
  · simp only [sgn, if_true, Bool.true_and]
    by_cases h : 0 < a
    · rw [decide_eq_true h, decide_eq_true (by omega)]
    · rw [decide_eq_false h, decide_eq_false (by omega)]
theorem sgn_ssum {n1 n2 s : Bool} {a b m : Nat} (h : ssum n1 a n2 b = (s, m)) : sgn s m = sgn n1 a + sgn n2 b := by
  unfold ssum at h
  split at h
  · rename_i e
    injection h with e1 e2
    subst e e1 e2
    cases n1 <;> simp [sgn] <;> omega
  · split at h
    · injection h with e1 e2
      subst e1 e2
      cases n1 <;> cases n2 <;> simp_all [sgn] <;> omega
    · injection h with e1 e2
      subst e1 e2
      cases n1 <;> cases n2 <;> simp_all [sgn] <;> omega
theorem sgn_mul (n1 n2 : Bool) (a b : Nat) : sgn (n1 != n2) (a * b) = sgn n1 a * sgn n2 b := by
  cases n1 <;> cases n2 <;> simp [sgn, Int.neg_mul, Int.mul_neg]
theorem sgn_mul_nat (n : Bool) (a b : Nat) : sgn n (a * b) = sgn n a * (b : Int) := by
  cases n <;> simp [sgn, Int.neg_mul]
/-- Lowest terms are the number's own. -/
theorem lowest {a b a' b' : Nat} (hb : 0 < b) (hb' : 0 < b') (h : a * b' = a' * b) : a / Nat.gcd a b = a' / Nat.gcd a' b' ∧ b / Nat.gcd a b = b' / Nat.gcd a' b' := by
  have hg : 0 < Nat.gcd a b := Nat.gcd_pos_of_pos_right _ hb
  have hg' : 0 < Nat.gcd a' b' := Nat.gcd_pos_of_pos_right _ hb'
  obtain ⟨g, hgg⟩ : ∃ g, Nat.gcd a b = g := ⟨_, rfl⟩
  obtain ⟨g', hgg'⟩ : ∃ g, Nat.gcd a' b' = g := ⟨_, rfl⟩
  obtain ⟨x, hx⟩ := Nat.gcd_dvd_left a b
  obtain ⟨y, hy⟩ := Nat.gcd_dvd_right a b
  obtain ⟨x', hx'⟩ := Nat.gcd_dvd_left a' b'
  obtain ⟨y', hy'⟩ := Nat.gcd_dvd_right a' b'
  have hc : Nat.Coprime x y := by
    have := Nat.gcd_div (Nat.gcd_dvd_left a b) (Nat.gcd_dvd_right a b)
    rw [Nat.div_self hg] at this
    have e1 : a / Nat.gcd a b = x := Nat.div_eq_of_eq_mul_right hg hx
    have e2 : b / Nat.gcd a b = y := Nat.div_eq_of_eq_mul_right hg hy
    rw [e1, e2] at this
    exact this
  have hc' : Nat.Coprime x' y' := by
    have := Nat.gcd_div (Nat.gcd_dvd_left a' b') (Nat.gcd_dvd_right a' b')
    rw [Nat.div_self hg'] at this
    have e1 : a' / Nat.gcd a' b' = x' := Nat.div_eq_of_eq_mul_right hg' hx'
    have e2 : b' / Nat.gcd a' b' = y' := Nat.div_eq_of_eq_mul_right hg' hy'
    rw [e1, e2] at this
    exact this
  rw [Nat.div_eq_of_eq_mul_right hg hx, Nat.div_eq_of_eq_mul_right hg hy, Nat.div_eq_of_eq_mul_right hg' hx', Nat.div_eq_of_eq_mul_right hg' hy']
  rw [hgg] at hx hy hg
  rw [hgg'] at hx' hy' hg'
  have hxy : x * y' = x' * y := by
    have : (g * g') * (x * y') = (g * g') * (x' * y) := by
      rw [hx, hy, hx', hy'] at h
      calc (g * g') * (x * y') = g * x * (g' * y') := by simp only [Nat.mul_left_comm, Nat.mul_comm]
        _ = g' * x' * (g * y) := h
        _ = (g * g') * (x' * y) := by simp only [Nat.mul_left_comm, Nat.mul_comm]
    exact Nat.eq_of_mul_eq_mul_left (Nat.mul_pos hg hg') this
  have hy0 : 0 < y := by
    rcases Nat.eq_zero_or_pos y with h0 | h0
    · rw [h0, Nat.mul_zero] at hy; omega
    · exact h0
  have d1 : y ∣ y' := hc.symm.dvd_of_dvd_mul_left (by rw [hxy]; exact Nat.dvd_mul_left _ _)
  have d2 : y' ∣ y := hc'.symm.dvd_of_dvd_mul_left (by rw [← hxy]; exact Nat.dvd_mul_left _ _)
  have e : y = y' := Nat.dvd_antisymm d1 d2
  subst e
  exact ⟨Nat.eq_of_mul_eq_mul_right hy0 hxy, rfl⟩
/-- Two quotients with the same cross products are the same number. -/
theorem ratio_congr {n n' : Bool} {a b a' b' : Nat} (hb : 0 < b) (hb' : 0 < b') (h : sgn n a * (b' : Int) = sgn n' a' * (b : Int)) : ratio n a b = ratio n' a' b' := by
  have h1 : a * b' = a' * b := by
    have := congrArg Int.natAbs h
    rwa [Int.natAbs_mul, Int.natAbs_mul, sgn_abs, sgn_abs, Int.natAbs_natCast, Int.natAbs_natCast] at this
  obtain ⟨e1, e2⟩ := lowest hb hb' h1
  have hn : (n && decide (0 < a)) = (n' && decide (0 < a')) := by
    rw [sgn_neg, sgn_neg]
    have hbz : (0 : Int) < (b : Int) := by omega
    have hbz' : (0 : Int) < (b' : Int) := by omega
    by_cases hs : sgn n a < 0
    · have : sgn n a * (b' : Int) < 0 := Int.mul_neg_of_neg_of_pos hs hbz'
      have hs' : sgn n' a' < 0 := by
        rcases Int.lt_or_le (sgn n' a') 0 with h3 | h3
        · exact h3
        · have := Int.mul_nonneg h3 (Int.le_of_lt hbz); omega
      rw [decide_eq_true hs, decide_eq_true hs']
    · have : 0 ≤ sgn n a * (b' : Int) := Int.mul_nonneg (by omega) (Int.le_of_lt hbz')
      have hs' : ¬ sgn n' a' < 0 := by
        intro h3
        have := Int.mul_neg_of_neg_of_pos h3 hbz; omega
      rw [decide_eq_false hs, decide_eq_false hs']
  unfold ratio
  rw [if_neg (show ¬ b = 0 by omega), if_neg (show ¬ b' = 0 by omega), e1, e2, hn]
end Go.Proofs.YtgfkachfbnbikaaGreatDoor

namespace Go.Proofs.YtgfkachfbnbikaaGreatDoor
open Go.RowKit

/-- The value of a Rat that is no fault. -/
def rv (q : Rq) : Rat := mkRat (sgn q.neg (val q.num)) (val q.den)
theorem rv_num {q : Rq} {p d : Nat} (k : IsNum q p d) : rv q = mkRat (sgn q.neg p) d := by
  unfold rv; rw [k.num, k.den, val_dig, val_dig]
theorem ratio_own {q : Rq} {p d : Nat} (k : IsNum q p d) : ratio q.neg p d = q := by
  have := ratio_times k (z := 1) (by decide)
  rwa [Nat.mul_one, Nat.mul_one] at this
theorem rv_inj {q q' : Rq} {p d p' d' : Nat} (k : IsNum q p d) (k' : IsNum q' p' d') (h : rv q = rv q') : q = q' := by
  rw [rv_num k, rv_num k'] at h
  have hd := k.pos
  have hd' := k'.pos
  have h2 := (Rat.mkRat_eq_iff (by omega) (by omega)).1 h
  rw [← ratio_own k, ← ratio_own k']
  exact ratio_congr hd hd' h2
theorem rv_ratio {n : Bool} {a b x y : Nat} (hb : 0 < b) (k : IsNum (ratio n a b) x y) : rv (ratio n a b) = mkRat (sgn n a) b := by
  have hl : (isLong (a / Nat.gcd a b) || isLong (b / Nat.gcd a b)) = false := by
    cases h : (isLong (a / Nat.gcd a b) || isLong (b / Nat.gcd a b))
    · rfl
    · have h1 := k.f
      unfold ratio at h1
      rw [if_neg (by omega), if_pos h] at h1
      exact absurd h1 (by decide)
  have e : ratio n a b = ⟨0, n && decide (0 < a), dig (a / Nat.gcd a b), dig (b / Nat.gcd a b)⟩ := by
    unfold ratio
    rw [if_neg (by omega), hl]; rfl
  have hg : 0 < Nat.gcd a b := Nat.gcd_pos_of_pos_right _ hb
  obtain ⟨g, hgg⟩ : ∃ g, Nat.gcd a b = g := ⟨_, rfl⟩
  obtain ⟨x, hx⟩ := Nat.gcd_dvd_left a b
  obtain ⟨y, hy⟩ := Nat.gcd_dvd_right a b
  have e1 : a / Nat.gcd a b = x := Nat.div_eq_of_eq_mul_right hg hx
  have e2 : b / Nat.gcd a b = y := Nat.div_eq_of_eq_mul_right hg hy
  rw [e, e1, e2]
  unfold rv
  dsimp only
  rw [val_dig, val_dig]
  rw [hgg] at hx hy hg
  have hy0 : 0 < y := by
    rcases Nat.eq_zero_or_pos y with h | h
    · rw [h, Nat.mul_zero] at hy; omega
    · exact h
  have hs : sgn (n && decide (0 < a)) x = sgn n x := by
    rcases Nat.eq_zero_or_pos a with h | h
    · have : x = 0 := by
        rcases Nat.eq_zero_or_pos x with h2 | h2
        · exact h2
        · have := Nat.mul_pos hg h2; omega
      rw [this, sgn_zero, sgn_zero]
    · rw [decide_eq_true h, Bool.and_true]
  rw [hs]
  refine (Rat.mkRat_eq_iff (by omega) (by omega)).2 ?_
  rw [hy, hx, Nat.mul_comm g x, sgn_mul_nat]
  simp only [Int.natCast_mul, Int.mul_assoc]
theorem rv_sum {n1 n2 : Bool} {a b c d x y : Nat} (hb : 0 < b) (hd : 0 < d) (k : IsNum (sumq n1 a b n2 c d) x y) : rv (sumq n1 a b n2 c d) = mkRat (sgn n1 a) b + mkRat (sgn n2 c) d := by
  unfold sumq at k ⊢
  obtain ⟨⟨s, m⟩, hs⟩ : ∃ q, ssum n1 (a * d) n2 (c * b) = q := ⟨_, rfl⟩
  rw [hs] at k ⊢
  rw [rv_ratio (Nat.mul_pos hb hd) k, Rat.mkRat_add_mkRat _ _ (by omega) (by omega), sgn_ssum hs, sgn_mul_nat, sgn_mul_nat]
theorem rv_mul {n1 n2 : Bool} {a b c d x y : Nat} (hb : 0 < b) (hd : 0 < d) (k : IsNum (ratio (n1 != n2) (a * c) (b * d)) x y) : rv (ratio (n1 != n2) (a * c) (b * d)) = mkRat (sgn n1 a) b * mkRat (sgn n2 c) d := by
  rw [rv_ratio (Nat.mul_pos hb hd) k, Rat.mkRat_mul_mkRat, sgn_mul]
theorem rv_opp {q : Rq} {p d : Nat} (k : IsNum q p d) : rv (oppq q) = -rv q := by
  have hn := oppq_neg k
  have e1 : (oppq q).num = q.num := rfl
  have e2 : (oppq q).den = q.den := rfl
  unfold rv
  rw [Rat.neg_mkRat, e1, e2, hn, k.num, k.den, val_dig, val_dig]
  congr 1
  rcases Nat.eq_zero_or_pos p with h | h
  · subst h; rw [sgn_zero, sgn_zero]; rfl
  · rw [decide_eq_true h, Bool.and_true]
    cases q.neg <;> simp [sgn]
theorem lessq_sgn {n1 n2 : Bool} {P R : Nat} (h1 : n1 = true → 0 < P) (h2 : n2 = true → 0 < R) : lessq n1 P n2 R = decide (sgn n1 P < sgn n2 R) := by
  unfold lessq sgn
  cases n1 <;> cases n2
  · simp
  · simp
  · have := h1 rfl
    simp; omega
  · simp
theorem rv_lt {q q' : Rq} {p d p' d' : Nat} (k : IsNum q p d) (k' : IsNum q' p' d') : lessq q.neg (p * d') q'.neg (p' * d) = decide (rv q < rv q') := by
  have hd := k.pos
  have hd' := k'.pos
  rw [lessq_sgn (fun h => Nat.mul_pos (k.neg h) hd') (fun h => Nat.mul_pos (k'.neg h) hd), sgn_mul_nat, sgn_mul_nat]
  have e1 : (rv q).num = sgn q.neg p ∧ (rv q).den = d := by
    rw [rv_num k, Rat.num_mkRat, Rat.den_mkRat, sgn_abs, Nat.gcd_comm, k.gcd, if_neg (by omega), if_neg (by omega)]
    simp
  have e2 : (rv q').num = sgn q'.neg p' ∧ (rv q').den = d' := by
    rw [rv_num k', Rat.num_mkRat, Rat.den_mkRat, sgn_abs, Nat.gcd_comm, k'.gcd, if_neg (by omega), if_neg (by omega)]
    simp
  have := Rat.lt_iff (rv q) (rv q')
  rw [e1.1, e1.2, e2.1, e2.2] at this
  by_cases h : rv q < rv q'
  · rw [decide_eq_true h, decide_eq_true (this.1 h)]
  · rw [decide_eq_false h, decide_eq_false (fun h2 => h (this.2 h2))]
theorem rv_same {q q' : Rq} {p d p' d' : Nat} (k : IsNum q p d) (k' : IsNum q' p' d') : sameq q q' = decide (rv q = rv q') := by
  by_cases h : rv q = rv q'
  · have := rv_inj k k' h
    subst this
    rw [decide_eq_true h]
    simp [sameq]
  · rw [decide_eq_false h]
    cases hs : sameq q q'
    · rfl
    · exfalso
      apply h
      simp only [sameq, Bool.and_eq_true, decide_eq_true_eq, beq_iff_eq] at hs
      unfold rv
      rw [hs.1.1, hs.1.2, hs.2]
end Go.Proofs.YtgfkachfbnbikaaGreatDoor
