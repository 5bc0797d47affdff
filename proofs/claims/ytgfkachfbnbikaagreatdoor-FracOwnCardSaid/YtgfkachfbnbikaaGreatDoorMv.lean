/- The plain law of numbers of few digits: sums, products, quotients and opposites of them, with their values. The plain law of a field: what FracField compares is the same. -/
import Derived.Test.YtgfkachfbnbikaaGreatDoorMu
import Derived.Test.YtgfkachfbnbikaaGreatDoorMq
namespace Go.Proofs.YtgfkachfbnbikaaGreatDoor
open Go.RowKit

/-- A number with at most so many digits above and below. -/
def Nb (q : Rq) (m k : Nat) : Prop := ∃ p d, IsNum q p d ∧ (dig p).length ≤ m ∧ (dig d).length ≤ k
def sumr (a b : Rq) : Rq := sumq a.neg (val a.num) (val a.den) b.neg (val b.num) (val b.den)
def subr (a b : Rq) : Rq := sumq a.neg (val a.num) (val a.den) (oppq b).neg (val b.num) (val b.den)
def mulr (a b : Rq) : Rq := ratio (a.neg != b.neg) (val a.num * val b.num) (val a.den * val b.den)
def divr (a b : Rq) : Rq := ratio (a.neg != b.neg) (val a.num * val b.den) (val a.den * val b.num)
theorem IsNum.vals {q : Rq} {p d : Nat} (k : IsNum q p d) : val q.num = p ∧ val q.den = d := ⟨by rw [k.num, val_dig], by rw [k.den, val_dig]⟩
theorem Nb.ok {q : Rq} {m k : Nat} (h : Nb q m k) : okq q = true := let ⟨_, _, i, _, _⟩ := h; i.ok
theorem Nb.f {q : Rq} {m k : Nat} (h : Nb q m k) : q.f = 0 := let ⟨_, _, i, _, _⟩ := h; i.f
theorem Nb.ratio {n : Bool} {x y m k : Nat} (hy : 0 < y) (hx : (dig x).length ≤ m) (hl : (dig y).length ≤ k) (hm : m ≤ 128) (hk : k ≤ 128) : Nb (ratio n x y) m k :=
  ⟨_, _, ratio_is hy (Nat.le_trans hx hm) (Nat.le_trans hl hk), Nat.le_trans (dig_len_mono (Nat.div_le_self _ _)) hx, Nat.le_trans (dig_len_mono (Nat.div_le_self _ _)) hl⟩
theorem Nb.sum {a b : Rq} {m k m' k' M : Nat} (ha : Nb a m k) (hb : Nb b m' k') (h1 : m + k' ≤ M) (h2 : m' + k ≤ M) (hM : M + 1 ≤ 128) (hk : k + k' ≤ 128) : Nb (sumr a b) (M + 1) (k + k') ∧ rv (sumr a b) = rv a + rv b := by
  obtain ⟨p, d, i, l1, l2⟩ := ha
  obtain ⟨p', d', i', l1', l2'⟩ := hb
  unfold sumr
  rw [i.vals.1, i.vals.2, i'.vals.1, i'.vals.2, rv_num i, rv_num i']
  have hN : Nb (sumq a.neg p d b.neg p' d') (M + 1) (k + k') := by
    unfold sumq
    exact Nb.ratio (Nat.mul_pos i.pos i'.pos) (len_ssum (Nat.le_trans (len_mul l1 l2') h1) (Nat.le_trans (len_mul l1' l2) h2)) (len_mul l2 l2') hM hk
  obtain ⟨x, y, j, _, _⟩ := id hN
  exact ⟨hN, rv_sum i.pos i'.pos j⟩
theorem Nb.mul {a b : Rq} {m k m' k' : Nat} (ha : Nb a m k) (hb : Nb b m' k') (h1 : m + m' ≤ 128) (hk : k + k' ≤ 128) : Nb (mulr a b) (m + m') (k + k') ∧ rv (mulr a b) = rv a * rv b := by
  obtain ⟨p, d, i, l1, l2⟩ := ha
  obtain ⟨p', d', i', l1', l2'⟩ := hb
  unfold mulr
  rw [i.vals.1, i.vals.2, i'.vals.1, i'.vals.2, rv_num i, rv_num i']
  have hN : Nb (Go.Proofs.YtgfkachfbnbikaaGreatDoor.ratio (a.neg != b.neg) (p * p') (d * d')) (m + m') (k + k') := Nb.ratio (Nat.mul_pos i.pos i'.pos) (len_mul l1 l1') (len_mul l2 l2') h1 hk
  obtain ⟨x, y, j, _, _⟩ := id hN
  exact ⟨hN, rv_mul i.pos i'.pos j⟩
theorem Nb.opp {q : Rq} {m k : Nat} (h : Nb q m k) : Nb (oppq q) m k ∧ rv (oppq q) = -rv q := by
  obtain ⟨p, d, i, l1, l2⟩ := h
  have j : IsNum (oppq q) p d := ⟨rfl, i.num, i.den, i.la, i.lb, i.pos, i.gcd, fun h => by
    rw [oppq_neg i] at h
    simp only [Bool.and_eq_true, decide_eq_true_eq] at h
    exact h.2⟩
  exact ⟨⟨p, d, j, l1, l2⟩, rv_opp i⟩
theorem subr_sum (a b : Rq) : subr a b = sumr a (oppq b) := rfl
theorem Nb.div {a b : Rq} {m k m' k' : Nat} (ha : Nb a m k) (hb : Nb b m' k') (h1 : m + k' ≤ 128) (hk : k + m' ≤ 128) (h0 : 0 < val b.num) : Nb (divr a b) (m + k') (k + m') ∧ rv (divr a b) * rv b = rv a := by
  obtain ⟨p, d, i, l1, l2⟩ := ha
  obtain ⟨p', d', i', l1', l2'⟩ := hb
  unfold divr
  rw [i'.vals.1] at h0
  rw [i.vals.1, i.vals.2, i'.vals.1, i'.vals.2, rv_num i, rv_num i']
  have hN : Nb (Go.Proofs.YtgfkachfbnbikaaGreatDoor.ratio (a.neg != b.neg) (p * d') (d * p')) (m + k') (k + m') := Nb.ratio (Nat.mul_pos i.pos h0) (len_mul l1 l2') (len_mul l2 l1') h1 hk
  obtain ⟨x, y, j, _, _⟩ := id hN
  refine ⟨hN, ?_⟩
  have hd := i.pos
  have hd' := i'.pos
  rw [rv_ratio (Nat.mul_pos hd h0) j, Rat.mkRat_mul_mkRat]
  have hz : d * p' * d' ≠ 0 := Nat.ne_of_gt (Nat.mul_pos (Nat.mul_pos hd h0) hd')
  refine (Rat.mkRat_eq_iff hz (by omega)).2 ?_
  have e : sgn (a.neg != b.neg) (p * d') * sgn b.neg p' = sgn a.neg p * ((p' * d' : Nat) : Int) := by
    cases a.neg <;> cases b.neg <;> simp [sgn, Int.neg_mul, Int.mul_neg, Int.mul_assoc, Int.mul_comm (d' : Int)]
  rw [e]
  simp only [Int.natCast_mul, Int.mul_assoc, Int.mul_comm]
theorem Nb.inj {a b : Rq} {m k m' k' : Nat} (ha : Nb a m k) (hb : Nb b m' k') (h : rv a = rv b) : a = b := by
  obtain ⟨p, d, i, _, _⟩ := ha
  obtain ⟨p', d', i', _, _⟩ := hb
  exact rv_inj i i' h
theorem Nb.lt {a b : Rq} {m k m' k' : Nat} (ha : Nb a m k) (hb : Nb b m' k') : lessq a.neg (val a.num * val b.den) b.neg (val b.num * val a.den) = decide (rv a < rv b) := by
  obtain ⟨p, d, i, _, _⟩ := ha
  obtain ⟨p', d', i', _, _⟩ := hb
  rw [i.vals.1, i.vals.2, i'.vals.1, i'.vals.2]
  exact rv_lt i i'
theorem Nb.same {a b : Rq} {m k m' k' : Nat} (ha : Nb a m k) (hb : Nb b m' k') : sameq a b = decide (rv a = rv b) := by
  obtain ⟨p, d, i, _, _⟩ := ha
  obtain ⟨p', d', i', _, _⟩ := hb
  exact rv_same i i'
theorem Nb.tame {f : Int} {n : Bool} {xs ys : List Nat} {most : Nat} (hx : Ds xs) (hy : Ds ys) (hm : most ≤ 128) (h1 : 0 < most) (hf : ¬ (f = 4 ∨ f = 11)) : Nb (tameq f n xs ys most) most most := by
  unfold tameq
  rw [if_neg hf]
  refine Nb.ratio ?_ (dig_take hx) ?_ hm hm
  · unfold den1; split <;> omega
  · unfold den1; split
    · rw [dig_one]; exact h1
    · exact dig_take hy
end Go.Proofs.YtgfkachfbnbikaaGreatDoor

namespace Go.Proofs.YtgfkachfbnbikaaGreatDoor
open Go.RowKit

theorem leastq_comm (a b : Int) : leastq a b = leastq b a := by unfold leastq; split <;> split <;> omega
theorem mulr_comm (a b : Rq) : mulr a b = mulr b a := by
  unfold mulr
  rw [Nat.mul_comm (val a.num), Nat.mul_comm (val a.den)]
  congr 1
  cases a.neg <;> cases b.neg <;> rfl
theorem sumr_comm {a b : Rq} {p d p' d' : Nat} (i : IsNum a p d) (i' : IsNum b p' d') : sumr a b = sumr b a := by
  unfold sumr sumq
  rw [i.vals.1, i.vals.2, i'.vals.1, i'.vals.2]
  obtain ⟨⟨s, m⟩, hs⟩ : ∃ q, ssum a.neg (p * d') b.neg (p' * d) = q := ⟨_, rfl⟩
  obtain ⟨⟨s', m'⟩, hs'⟩ : ∃ q, ssum b.neg (p' * d) a.neg (p * d') = q := ⟨_, rfl⟩
  rw [hs, hs']
  refine ratio_congr (Nat.mul_pos i.pos i'.pos) (Nat.mul_pos i'.pos i.pos) ?_
  rw [sgn_ssum hs, sgn_ssum hs', Nat.mul_comm d' d, Int.add_comm]
theorem num_of {w : World} {v : Value} {q : Rq} (h : RR w v q) (k : okq q = true) (hf : q.f = 0) : IsNum q (val q.num) (val q.den) := okq_ds k hf h.ds
theorem made_comm {a b r r' : Rq} (ka : okq a = true) (kb : okq b = true) (h : leastq a.f b.f = 0 → r = r') : (madeq a b r).1 = (madeq b a r').1 := by
  unfold madeq
  rw [ka, kb, leastq_comm b.f a.f]
  show (if leastq a.f b.f = 0 then r else fq (leastq a.f b.f)) = (if leastq a.f b.f = 0 then r' else fq (leastq a.f b.f))
  split
  · rename_i h0; exact h h0
  · rfl
theorem made_self_ok {a : Rq} (ka : okq a = true) : okq (madeq a a (oppq a)).1 = true := by
  rw [madeq_self ka]
  split
  · rename_i h; exact okq_opp ka h
  · rename_i h; exact okq_fault (by have := okq_f ka; omega)
theorem made_sub {a b : Rq} (ka : okq a = true) (kb : okq b = true) : (madeq a (madeq b b (oppq b)).1 (sumr a (madeq b b (oppq b)).1)).1 = (madeq a b (subr a b)).1 := by
  have kn := made_self_ok kb
  rw [madeq_self kb] at kn ⊢
  by_cases h : b.f = 0
  · rw [if_pos h] at kn ⊢
    unfold madeq
    rw [ka, kb, kn, h]
    rfl
  · rw [if_neg h] at kn ⊢
    unfold madeq
    rw [ka, kb, kn]
    have e : (fq b.f).f = b.f := rfl
    rw [e]
    have h2 : leastq a.f b.f ≠ 0 := fun h3 => h (leastq_zero h3).2
    simp [h2]
theorem made_num {a b r : Rq} {m k m' k' : Nat} (ha : Nb a m k) (hb : Nb b m' k') : madeq a b r = (r, 0) := by
  unfold madeq
  rw [ha.ok, hb.ok, ha.f, hb.f]
  rfl
/-- Of three numbers of at most 20 digits. -/
theorem field_laws {a b c : Rq} (ha : Nb a 20 20) (hb : Nb b 20 20) (hc : Nb c 20 20) :
    (Nb (sumr a b) 41 40 ∧ Nb (mulr a b) 40 40 ∧ Nb (sumr b c) 41 40 ∧ Nb (mulr b c) 40 40 ∧ Nb (sumr (sumr a b) c) 62 60 ∧ Nb (mulr (mulr a b) c) 60 60 ∧ Nb (mulr a (sumr b c)) 61 60 ∧ Nb (mulr a c) 40 40) ∧
      sumr a (sumr b c) = sumr (sumr a b) c ∧ mulr a (mulr b c) = mulr (mulr a b) c ∧ sumr (mulr a b) (mulr a c) = mulr a (sumr b c) := by
  have ab := ha.sum hb (M := 40) (by decide) (by decide) (by decide) (by decide)
  have bc := hb.sum hc (M := 40) (by decide) (by decide) (by decide) (by decide)
  have p := ha.mul hb (by decide) (by decide)
  have r := hb.mul hc (by decide) (by decide)
  have ac := ha.mul hc (by decide) (by decide)
  have left := ab.1.sum hc (M := 61) (by decide) (by decide) (by decide) (by decide)
  have right := ha.sum bc.1 (M := 61) (by decide) (by decide) (by decide) (by decide)
  have pc := p.1.mul hc (by decide) (by decide)
  have ar := ha.mul r.1 (by decide) (by decide)
  have whole := ha.mul bc.1 (by decide) (by decide)
  have parts := p.1.sum ac.1 (M := 80) (by decide) (by decide) (by decide) (by decide)
  refine ⟨⟨ab.1, p.1, bc.1, r.1, left.1, pc.1, whole.1, ac.1⟩, ?_, ?_, ?_⟩
  · exact right.1.inj left.1 (by rw [right.2, left.2, ab.2, bc.2, Rat.add_assoc])
  · exact ar.1.inj pc.1 (by rw [ar.2, pc.2, p.2, r.2, Rat.mul_assoc])
  · exact parts.1.inj whole.1 (by rw [parts.2, whole.2, p.2, ac.2, bc.2, Rat.mul_add])
def oneq : Rq := ⟨0, false, dig 1, dig 1⟩
theorem Nb.one : Nb oneq 1 1 := ⟨1, 1, whole_is (n := false) (m := 1) (by rw [dig_one]; decide), by rw [dig_one]; decide, by rw [dig_one]; decide⟩
theorem quot_laws {a b : Rq} (ha : Nb a 20 20) (hb : Nb b 20 20) (h0 : 0 < val b.num) :
    (Nb (divr oneq b) 21 21 ∧ Nb (divr a b) 40 40) ∧ mulr a (divr oneq b) = divr a b ∧ mulr (divr a b) b = a := by
  have inv := Nb.one.div hb (by decide) (by decide) h0
  have quo := ha.div hb (by decide) (by decide) h0
  have same := ha.mul inv.1 (by decide) (by decide)
  have back := quo.1.mul hb (by decide) (by decide)
  have hb0 : rv b ≠ 0 := by
    obtain ⟨p, d, i, _, _⟩ := hb
    rw [rv_num i]
    rw [i.vals.1] at h0
    have hd := i.pos
    rw [Rat.mkRat_ne_zero (by omega)]
    cases b.neg <;> simp [sgn] <;> omega
  have h1 : rv oneq = 1 := by
    have k1 : IsNum oneq 1 1 := whole_is (n := false) (m := 1) (by rw [dig_one]; decide)
    rw [rv_num k1]; rfl
  refine ⟨⟨inv.1, quo.1⟩, ?_, ?_⟩
  · refine same.1.inj quo.1 ?_
    have e : rv (mulr a (divr oneq b)) * rv b = rv (divr a b) * rv b := by
      rw [same.2, quo.2, Rat.mul_assoc, inv.2, h1, Rat.mul_one]
    have := congrArg (· * (rv b)⁻¹) e
    simpa [Rat.mul_assoc, Rat.mul_inv_cancel _ hb0, Rat.mul_one] using this
  · exact back.1.inj ha (by rw [back.2, quo.2])
end Go.Proofs.YtgfkachfbnbikaaGreatDoor
