/- Plain arithmetic of lists of decimal digits, and of texts made of them. No program in sight. Plain arithmetic of binary digits and of the binary gcd. No program in sight. Rows of bytes that the call owns: append, store, and the string made of them. Contract of slices.Reverse of bytes. -/
import Derived.Test.YtgfkachfbnbikaaGreatDoorMa
import Derived.Laws.IdiomStrings
import Derived.Shelf.RegionOpenPlain
namespace Go.Proofs.YtgfkachfbnbikaaGreatDoor

/-- The number of a list of decimal digits, the least first. -/
def v10 : List Nat → Nat
  | [] => 0
  | x :: xs => x + 10 * v10 xs
/-- The decimal digits of a number, the least first. -/
def d10 (n : Nat) : List Nat := if h : n = 0 then [] else (n % 10) :: d10 (n / 10)
termination_by n
decreasing_by omega
theorem d10_zero : d10 0 = [] := by rw [d10]; simp
theorem d10_pos {n : Nat} (h : n ≠ 0) : d10 n = (n % 10) :: d10 (n / 10) := by rw [d10]; simp [h]
theorem v10_d10 (n : Nat) : v10 (d10 n) = n := by
  induction n using Nat.strongRecOn with
  | _ n ih =>
    by_cases h : n = 0
    · subst h; rw [d10_zero]; rfl
    · rw [d10_pos h, v10, ih (n / 10) (by omega)]; omega
def D10 (xs : List Nat) : Prop := ∀ x ∈ xs, x < 10
theorem D10.nil : D10 [] := by intro x h; cases h
theorem D10.cons {x : Nat} {xs : List Nat} (hx : x < 10) (h : D10 xs) : D10 (x :: xs) := by
  intro y hy; rcases List.mem_cons.1 hy with rfl | hy
  · exact hx
  · exact h y hy
theorem D10.tail {x : Nat} {xs : List Nat} (h : D10 (x :: xs)) : D10 xs := fun y hy => h y (List.mem_cons_of_mem _ hy)
theorem D10.head {x : Nat} {xs : List Nat} (h : D10 (x :: xs)) : x < 10 := h x List.mem_cons_self
theorem D10.append {xs ys : List Nat} (h : D10 xs) (k : D10 ys) : D10 (xs ++ ys) := fun x hx => (List.mem_append.1 hx).elim (h x) (k x)
theorem D10.snoc {xs : List Nat} {x : Nat} (h : D10 xs) (k : x < 10) : D10 (xs ++ [x]) := h.append (D10.cons k D10.nil)
theorem D10.take {xs : List Nat} (h : D10 xs) (n : Nat) : D10 (xs.take n) := fun x hx => h x (List.mem_of_mem_take hx)
theorem d10_lt (n : Nat) : D10 (d10 n) := by
  induction n using Nat.strongRecOn with
  | _ n ih =>
    by_cases h : n = 0
    · subst h; rw [d10_zero]; exact D10.nil
    · rw [d10_pos h]; exact D10.cons (by omega) (ih _ (by omega))
theorem v10_append (xs ys : List Nat) : v10 (xs ++ ys) = v10 xs + 10 ^ xs.length * v10 ys := by
  induction xs with
  | nil => simp [v10]
  | cons x xs ih => simp only [List.cons_append, v10, ih, List.length_cons, Nat.pow_succ, Nat.mul_add]; rw [← Nat.mul_assoc, Nat.mul_comm 10 (10 ^ xs.length)]; omega
theorem v10_snoc (xs : List Nat) (x : Nat) : v10 (xs ++ [x]) = v10 xs + 10 ^ xs.length * x := by rw [v10_append]; simp [v10]
theorem v10_lt {xs : List Nat} (h : D10 xs) : v10 xs < 10 ^ xs.length := by
  induction xs with
  | nil => decide
  | cons x xs ih =>
    have h1 := ih h.tail
    have h2 := h.head
    simp only [v10, List.length_cons, Nat.pow_succ]
    omega
theorem v10_pos_of_nz {xs : List Nat} (h : Nz xs) (hx : xs ≠ []) : 0 < v10 xs := by
  induction xs with
  | nil => exact absurd rfl hx
  | cons x xs ih =>
    cases xs with
    | nil => have := h (by simp); simp at this; simp [v10]; omega
    | cons y ys => have := ih h.tail (by simp); simp only [v10] at this ⊢; omega
theorem d10_v10 {xs : List Nat} (hd : D10 xs) (hn : Nz xs) : d10 (v10 xs) = xs := by
  induction xs with
  | nil => simp [v10, d10_zero]
  | cons x xs ih =>
    have hp := v10_pos_of_nz hn (by simp)
    have hx := hd.head
    rw [d10_pos (by omega)]
    simp only [v10]
    rw [show (x + 10 * v10 xs) % 10 = x from by omega, show (x + 10 * v10 xs) / 10 = v10 xs from by omega, ih hd.tail hn.tail]
theorem nz_d10 (n : Nat) : Nz (d10 n) := by
  induction n using Nat.strongRecOn with
  | _ n ih =>
    by_cases h : n = 0
    · subst h; rw [d10_zero]; exact Nz.nil
    · rw [d10_pos h]
      intro _
      by_cases h2 : n / 10 = 0
      · rw [h2, d10_zero]; simp; omega
      · have := ih (n / 10) (by omega) (by rw [d10_pos h2]; simp)
        rw [d10_pos h2] at this ⊢
        simpa using this
theorem d10_length_le {n k : Nat} (h : n < 10 ^ k) : (d10 n).length ≤ k := by
  induction k generalizing n with
  | zero => have : n = 0 := by simpa using h
            subst this; simp [d10_zero]
  | succ k ih =>
    by_cases h0 : n = 0
    · subst h0; simp [d10_zero]
    · rw [d10_pos h0, List.length_cons]
      have : n / 10 < 10 ^ k := by rw [Nat.pow_succ] at h; omega
      have := ih this
      omega
theorem d10_nil_iff {n : Nat} : d10 n = [] ↔ n = 0 := ⟨fun h => by have := v10_d10 n; rw [h] at this; exact this.symm, fun h => by subst h; exact d10_zero⟩
theorem v10_take_succ (xs : List Nat) (i : Nat) (h : i < xs.length) : v10 (xs.take (i + 1)) = v10 (xs.take i) + 10 ^ i * xs.getD i 0 := by
  rw [take_succ_get xs i h, v10_snoc]; simp [Nat.min_eq_left (Nat.le_of_lt h)]
/-- Zeros at the end left out. -/
theorem trimTo_d10 {xs : List Nat} (hd : D10 xs) : ∀ n, n ≤ xs.length → trimTo xs n = d10 (v10 (xs.take n))
  | 0, _ => by simp [trimTo, v10, d10_zero]
  | n + 1, h => by
    simp only [trimTo]
    split
    · rename_i h0
      rw [trimTo_d10 hd n (by omega), v10_take_succ xs n (by omega), h0]; simp
    · rename_i h0
      rw [d10_v10 (hd.take _)]
      intro _
      rw [List.length_take, Nat.min_eq_left h, Nat.add_sub_cancel, take_succ_get xs n (by omega)]
      have : (xs.take n).length = n := by rw [List.length_take, Nat.min_eq_left (by omega)]
      conv => lhs; arg 2; rw [← this]
      rw [getD_append_last]
      exact h0

/-! Texts -/
/-- The sign of a decimal digit. -/
def chr (x : Nat) : UInt8 := UInt8.ofNat (48 + x)
theorem chr_nat {x : Nat} (h : x < 10) : (chr x).toNat = 48 + x := by
  unfold chr; rw [UInt8.toNat_ofNat']; omega
/-- The decimal digits of a number, as a text. -/
def dtext (a : Nat) : List UInt8 := if a = 0 then [48] else ((d10 a).map chr).reverse
/-- Is a byte the sign of a decimal digit? -/
def isd (c : UInt8) : Bool := decide (48 ≤ c.toNat) && decide (c.toNat ≤ 57)
/-- The number of a text of decimal digits. -/
def dval (l : List UInt8) : Nat := l.foldl (fun v c => 10 * v + (c.toNat - 48)) 0
theorem dval_nil : dval [] = 0 := rfl
theorem dval_snoc (l : List UInt8) (c : UInt8) : dval (l ++ [c]) = 10 * dval l + (c.toNat - 48) := by simp [dval]
/-- The error of a text that is to be a natural number. -/
def perr (l : List UInt8) : Nat := if 4900 < l.length then 3 else if l = [] ∨ (l.head? = some 48 ∧ 1 < l.length) then 5 else if l.all isd then 0 else 5

theorem dval_map_chr {xs : List Nat} (h : D10 xs) : dval ((xs.map chr).reverse) = v10 xs := by
  induction xs with
  | nil => rfl
  | cons x xs ih =>
    rw [List.map_cons, List.reverse_cons, dval_snoc, ih h.tail, chr_nat h.head, v10]; omega
theorem dval_dtext (a : Nat) : dval (dtext a) = a := by
  unfold dtext
  split
  · rename_i h; subst h; rfl
  · rw [dval_map_chr (d10_lt a), v10_d10]
theorem isd_chr {x : Nat} (h : x < 10) : isd (chr x) = true := by
  unfold isd; rw [chr_nat h]; simp; omega
theorem chr_of_isd {c : UInt8} (h : isd c = true) : chr (c.toNat - 48) = c ∧ c.toNat - 48 < 10 := by
  unfold isd at h
  simp only [Bool.and_eq_true, decide_eq_true_eq] at h
  refine ⟨?_, by omega⟩
  apply UInt8.toNat_inj.1
  rw [chr_nat (by omega)]; omega
theorem all_isd_chr {xs : List Nat} (h : D10 xs) : ((xs.map chr).reverse).all isd = true := by
  rw [List.all_eq_true]
  intro c hc
  rw [List.mem_reverse, List.mem_map] at hc
  obtain ⟨x, hx, rfl⟩ := hc
  exact isd_chr (h x hx)
theorem chars_of_all {l : List UInt8} (h : l.all isd = true) : ∃ xs, D10 xs ∧ l = (xs.map chr).reverse ∧ xs.length = l.length := by
  refine ⟨(l.map fun c => c.toNat - 48).reverse, ?_, ?_, by simp⟩
  · intro x hx
    rw [List.mem_reverse, List.mem_map] at hx
    obtain ⟨c, hc, rfl⟩ := hx
    exact (chr_of_isd (List.all_eq_true.1 h c hc)).2
  · rw [List.map_reverse, List.reverse_reverse, List.map_map]
    conv => lhs; rw [← List.map_id l]
    apply List.map_congr_left
    intro c hc
    exact ((chr_of_isd (List.all_eq_true.1 h c hc)).1).symm
theorem dtext_ne (a : Nat) : dtext a ≠ [] := by
  unfold dtext
  split
  · simp
  · rename_i h
    simp [d10_nil_iff, h]
theorem dtext_all (a : Nat) : (dtext a).all isd = true := by
  unfold dtext
  split
  · rfl
  · exact all_isd_chr (d10_lt a)
/-- A text that Parse takes is the text of its number. -/
theorem dtext_dval {l : List UInt8} (h : perr l = 0) : dtext (dval l) = l := by
  unfold perr at h
  split at h
  · omega
  · split at h
    · omega
    · split at h
      · rename_i h1 h2 h3
        obtain ⟨xs, hd, hl, hn⟩ := chars_of_all h3
        rw [not_or] at h2
        by_cases hz : v10 xs = 0
        · -- all digits are zeros: then there is one
          have h0 : dval l = 0 := by rw [hl, dval_map_chr hd, hz]
          rw [h0]
          cases l with
          | nil => exact absurd rfl h2.1
          | cons c l =>
            have hc : c = 48 := by
              cases hx : xs.reverse with
              | nil => rw [List.reverse_eq_nil_iff] at hx; subst hx; simp at hl
              | cons y ys =>
                have hxs : xs = ys.reverse ++ [y] := by rw [← List.reverse_reverse xs, hx, List.reverse_cons]
                rw [hxs, v10_snoc] at hz
                have hy : y = 0 := by
                  rcases Nat.eq_zero_or_pos y with h | h
                  · exact h
                  · have := Nat.mul_pos (Nat.pow_pos (n := ys.reverse.length) (show 0 < 10 by decide)) h; omega
                rw [← List.map_reverse, hx, hy] at hl
                simp at hl
                rw [hl.1]; rfl
            subst hc
            have : l = [] := by
              have h4 := h2.2
              simp at h4
              exact h4
            subst this
            rfl
        · unfold dtext
          rw [hl, dval_map_chr hd, if_neg hz, d10_v10 hd]
          intro hne hlast
          apply h2.2
          have hnl : 0 < xs.length := List.length_pos_iff.2 hne
          have hlast' : xs.getLast? = some 0 := by
            rw [List.getD_eq_getElem?_getD, List.getElem?_eq_getElem (show xs.length - 1 < xs.length by omega)] at hlast
            rw [List.getLast?_eq_getElem?, List.getElem?_eq_getElem (show xs.length - 1 < xs.length by omega)]
            simpa using hlast
          constructor
          · rw [hl, List.head?_reverse, List.getLast?_map, hlast']; rfl
          · rw [← hn]
            rcases Nat.lt_or_ge 1 xs.length with h | h
            · exact h
            · exfalso; apply hz
              have h1 : xs.length = 1 := by omega
              obtain ⟨z, hz'⟩ := List.length_eq_one_iff.1 h1
              subst hz'
              simp at hlast
              subst hlast; rfl
      · omega
theorem perr_dtext {a : Nat} (h : (dtext a).length ≤ 4900) : perr (dtext a) = 0 := by
  unfold perr
  rw [if_neg (by omega), if_neg, if_pos (dtext_all a)]
  rintro (h1 | ⟨h1, h2⟩)
  · exact dtext_ne a h1
  · unfold dtext at h1 h2
    split at h1
    · rename_i h0; rw [if_pos h0] at h2; simp at h2
    · rename_i h0
      have hn := nz_d10 a
      rw [List.head?_reverse, List.getLast?_map] at h1
      have hne : d10 a ≠ [] := fun h => h0 (d10_nil_iff.1 h)
      have hg : (d10 a).getLast? = some ((d10 a).getD ((d10 a).length - 1) 0) := by
        have := List.length_pos_iff.2 hne
        rw [List.getLast?_eq_getElem?, List.getD_eq_getElem?_getD, List.getElem?_eq_getElem (show (d10 a).length - 1 < (d10 a).length by omega)]; rfl
      rw [hg] at h1
      simp only [Option.map_some, Option.some.injEq] at h1
      have hlt : (d10 a).getD ((d10 a).length - 1) 0 < 10 := by
        have := List.length_pos_iff.2 hne
        rw [List.getD_eq_getElem?_getD, List.getElem?_eq_getElem (show (d10 a).length - 1 < (d10 a).length by omega)]
        exact d10_lt a _ (List.getElem_mem _)
      have h3 := chr_nat hlt
      rw [h1] at h3
      exact hn hne (by have : (48 : UInt8).toNat = 48 := rfl; omega)
theorem dtext_length {a k : Nat} (h : a < 10 ^ k) (hk : 0 < k) : (dtext a).length ≤ k := by
  unfold dtext
  split
  · simp; omega
  · simp; exact d10_length_le h
/-- A list that is being turned round in place: `i` places at each end are done. -/
structure RevAt (xs zs : List Nat) (i : Nat) : Prop where
  len : zs.length = xs.length
  get : ∀ j, j < xs.length → zs.getD j 0 = if j < i ∨ xs.length - i ≤ j then xs.getD (xs.length - 1 - j) 0 else xs.getD j 0
theorem RevAt.init (xs : List Nat) : RevAt xs xs 0 := ⟨rfl, fun j hj => by rw [if_neg]; omega⟩
theorem getD_set_at {xs : List Nat} {i j v : Nat} (hi : i < xs.length) : (xs.set i v).getD j 0 = if i = j then v else xs.getD j 0 := by
  simp only [List.getD_eq_getElem?_getD, List.getElem?_set]
  split
  · rename_i h; subst h; simp
  · rfl
theorem RevAt.step {xs zs : List Nat} {i k : Nat} (h : RevAt xs zs i) (hi : i < k) (hk : k + i + 1 = xs.length) :
    RevAt xs ((zs.set i (zs.getD k 0)).set k (zs.getD i 0)) (i + 1) := by
  refine ⟨by simp [h.len], fun j hj => ?_⟩
  rw [getD_set_at (by simp [h.len]; omega), getD_set_at (by rw [h.len]; omega)]
  have hl := h.len
  split
  · rename_i e; subst e
    rw [h.get i (by omega), if_neg (by omega), if_pos (by omega)]
    congr 1; omega
  · split
    · rename_i e; subst e
      rw [h.get k (by omega), if_neg (by omega), if_pos (by omega)]
      congr 1; omega
    · rw [h.get j hj]
      by_cases hc : j < i ∨ xs.length - i ≤ j
      · rw [if_pos hc, if_pos (by omega)]
      · rw [if_neg hc, if_neg (by omega)]
theorem RevAt.done {xs zs : List Nat} {i : Nat} (h : RevAt xs zs i) (hi : xs.length ≤ 2 * i + 1) : zs = xs.reverse := by
  apply List.ext_getElem
  · rw [h.len, List.length_reverse]
  · intro j h1 h2
    have hj : j < xs.length := by rw [← h.len]; exact h1
    have hg := h.get j hj
    rw [List.getD_eq_getElem?_getD, List.getElem?_eq_getElem h1, Option.getD_some] at hg
    rw [hg, List.getElem_reverse]
    split
    · rw [List.getD_eq_getElem?_getD, List.getElem?_eq_getElem (by omega), Option.getD_some]
    · have e : j = xs.length - 1 - j := by omega
      rw [List.getD_eq_getElem?_getD, List.getElem?_eq_getElem hj, Option.getD_some]
      congr 1
end Go.Proofs.YtgfkachfbnbikaaGreatDoor

namespace Go.Proofs.YtgfkachfbnbikaaGreatDoor

theorem getD_dig (a k : Nat) : (dig a).getD k 0 = a / 4294967296 ^ k % 4294967296 := by
  induction k generalizing a with
  | zero =>
    by_cases h : a = 0
    · subst h; rw [dig_zero]; rfl
    · rw [dig_pos h]; simp
  | succ k ih =>
    by_cases h : a = 0
    · subst h; rw [dig_zero]; simp
    · rw [dig_pos h, List.getD_cons_succ, ih, Nat.div_div_eq_div_mul, Nat.pow_succ', ]
theorem B_pow (k : Nat) : (4294967296 : Nat) ^ k = 2 ^ (32 * k) := by rw [Nat.pow_mul]
/-- A binary digit of a number. -/
theorem bit_dig (a i : Nat) : (dig a).getD (i / 32) 0 / 2 ^ (i % 32) % 2 = a / 2 ^ i % 2 := by
  rw [getD_dig, B_pow, show (4294967296 : Nat) = 2 ^ 32 from rfl]
  have h : (a / 2 ^ (32 * (i / 32)) % 2 ^ 32).testBit (i % 32) = a.testBit i := by
    rw [Nat.testBit_mod_two_pow, Nat.testBit_div_two_pow, show i % 32 + 32 * (i / 32) = i from by omega]
    have : i % 32 < 32 := Nat.mod_lt _ (by decide)
    simp [this]
  rw [Nat.testBit_eq_decide_div_mod_eq, Nat.testBit_eq_decide_div_mod_eq] at h
  have h1 := Nat.mod_two_eq_zero_or_one (a / 2 ^ (32 * (i / 32)) % 2 ^ 32 / 2 ^ (i % 32))
  have h2 := Nat.mod_two_eq_zero_or_one (a / 2 ^ i)
  rw [decide_eq_decide] at h
  omega
theorem div_two_step (a j : Nat) : a / 2 ^ j = 2 * (a / 2 ^ (j + 1)) + a / 2 ^ j % 2 := by
  rw [Nat.pow_succ, ← Nat.div_div_eq_div_mul]; omega
/-- One step of the long division by binary digits. -/
theorem div_step {a b j r : Nat} (hb : 0 < b) (hr : r = a / 2 ^ (j + 1) % b) :
    a / 2 ^ j % b = (if b ≤ 2 * r + a / 2 ^ j % 2 then 2 * r + a / 2 ^ j % 2 - b else 2 * r + a / 2 ^ j % 2) ∧
    a / 2 ^ j / b = 2 * (a / 2 ^ (j + 1) / b) + (if b ≤ 2 * r + a / 2 ^ j % 2 then 1 else 0) := by
  have h := div_two_step a j
  generalize a / 2 ^ (j + 1) = m at *
  generalize ht : a / 2 ^ j % 2 = t at *
  have ht2 : t ≤ 1 := by omega
  rw [h]
  have hm := Nat.div_add_mod m b
  rw [← hr] at hm
  have hrb : r < b := hr ▸ Nat.mod_lt _ hb
  have e : 2 * m + t = b * (2 * (m / b)) + (2 * r + t) := by
    generalize m / b = q at *
    rw [← hm, Nat.mul_add, Nat.mul_left_comm]; omega
  rw [e, Nat.mul_add_mod, Nat.mul_add_div hb]
  split
  · rename_i hle
    have h1 : (2 * r + t) / b = 1 := by
      apply Nat.div_eq_of_lt_le <;> omega
    have h2 : (2 * r + t) % b = 2 * r + t - b := by
      rw [Nat.mod_eq_sub_mod hle, Nat.mod_eq_of_lt (by omega)]
    exact ⟨h2, by rw [h1]⟩
  · rename_i hle
    exact ⟨Nat.mod_eq_of_lt (by omega), by rw [Nat.div_eq_of_lt (show 2 * r + t < b by omega)]⟩
/-- A binary digit is set in a list of digits that has zeros from there on down. -/
theorem set_bit {zs : List Nat} (hd : Ds zs) {q j : Nat} (hv : val zs = q * 2 ^ (j + 1)) (hj : j / 32 < zs.length) :
    val (zs.set (j / 32) (zs.getD (j / 32) 0 + 2 ^ (j % 32))) = (2 * q + 1) * 2 ^ j ∧ zs.getD (j / 32) 0 % 2 ^ (j % 32 + 1) = 0 ∧ zs.getD (j / 32) 0 + 2 ^ (j % 32) < 4294967296 := by
  have h1 := val_set (zs.getD (j / 32) 0 + 2 ^ (j % 32)) hj
  have hg : zs.getD (j / 32) 0 < 4294967296 := Ds.get hd _
  have hs := val_split zs (j / 32) (by omega)
  have hdr : val (zs.drop (j / 32)) = zs.getD (j / 32) 0 + 4294967296 * val (zs.drop (j / 32 + 1)) := by
    rw [List.drop_eq_getElem_cons hj]; simp [val, List.getD_eq_getElem?_getD, List.getElem?_eq_getElem hj]
  have hlt := val_lt (hd.take (j / 32))
  rw [List.length_take, Nat.min_eq_left (by omega)] at hlt
  have hm : zs.getD (j / 32) 0 % 2 ^ (j % 32 + 1) = 0 := by
    have e1 : val zs / 4294967296 ^ (j / 32) = val (zs.drop (j / 32)) := by
      rw [hs, Nat.add_comm, Nat.mul_add_div (Nat.pow_pos (by decide)), Nat.div_eq_of_lt hlt, Nat.add_zero]
    have e2 : val zs / 4294967296 ^ (j / 32) = q * 2 ^ (j % 32 + 1) := by
      rw [hv, B_pow, show j + 1 = (j % 32 + 1) + 32 * (j / 32) from by omega, Nat.pow_add, ← Nat.mul_assoc, Nat.mul_div_cancel _ (Nat.two_pow_pos _)]
    have e3 : zs.getD (j / 32) 0 = val (zs.drop (j / 32)) % 4294967296 := by rw [hdr]; omega
    rw [e3, ← e1, e2, show (4294967296 : Nat) = 2 ^ (j % 32 + 1) * 2 ^ (31 - j % 32) from by rw [← Nat.pow_add, show j % 32 + 1 + (31 - j % 32) = 32 from by omega], Nat.mod_mul_right_mod, Nat.mul_mod_left]
  have hlt2 : zs.getD (j / 32) 0 + 2 ^ (j % 32) < 4294967296 := by
    generalize zs.getD (j / 32) 0 = x at *
    have e : (4294967296 : Nat) = 2 ^ (j % 32 + 1) * 2 ^ (31 - j % 32) := by rw [← Nat.pow_add, show j % 32 + 1 + (31 - j % 32) = 32 from by omega]
    have hx : x = 2 ^ (j % 32 + 1) * (x / 2 ^ (j % 32 + 1)) := by have := Nat.div_add_mod x (2 ^ (j % 32 + 1)); omega
    have hq : x / 2 ^ (j % 32 + 1) < 2 ^ (31 - j % 32) := by
      apply Nat.div_lt_of_lt_mul; rw [← e]; exact hg
    have h2 : 2 ^ (j % 32 + 1) * (x / 2 ^ (j % 32 + 1) + 1) ≤ 4294967296 := by rw [e]; exact Nat.mul_le_mul_left _ hq
    rw [Nat.mul_add, ← hx, Nat.mul_one, Nat.pow_succ] at h2
    have := Nat.two_pow_pos (j % 32)
    omega
  refine ⟨?_, hm, hlt2⟩
  rw [Nat.mul_add] at h1
  have e4 : 4294967296 ^ (j / 32) * 2 ^ (j % 32) = 2 ^ j := by rw [B_pow, ← Nat.pow_add, show 32 * (j / 32) + j % 32 = j from by omega]
  rw [e4, hv] at h1
  have e5 : (2 * q + 1) * 2 ^ j = q * 2 ^ (j + 1) + 2 ^ j := by
    rw [Nat.add_mul, Nat.one_mul, Nat.pow_succ, Nat.mul_comm 2 q, Nat.mul_assoc, Nat.mul_comm 2]
  rw [e5]
  omega
theorem or_bit {d r : Nat} (h : d % 2 ^ (r + 1) = 0) : d ||| 2 ^ r = d + 2 ^ r := by
  have hd : d = 2 ^ (r + 1) * (d / 2 ^ (r + 1)) := by have := Nat.div_add_mod d (2 ^ (r + 1)); omega
  have := Nat.two_pow_add_eq_or_of_lt (i := r + 1) (b := 2 ^ r) (by rw [Nat.pow_succ]; have := Nat.two_pow_pos r; omega) (d / 2 ^ (r + 1))
  rw [← hd] at this
  exact this.symm

/-! The binary gcd -/
theorem gcd_half_left {x y h : Nat} (hg : Nat.gcd x y = h) (ho : h % 2 = 1) (hx : x % 2 = 0) : Nat.gcd (x / 2) y = h := by
  have hy : y % 2 = 1 := by
    rcases Nat.mod_two_eq_zero_or_one y with h0 | h0
    · have := Nat.dvd_gcd (Nat.dvd_of_mod_eq_zero hx) (Nat.dvd_of_mod_eq_zero h0)
      rw [hg] at this; have := Nat.mod_eq_zero_of_dvd this; omega
    · exact h0
  have hc : Nat.Coprime 2 y := by
    have hd := Nat.gcd_dvd_left 2 y
    have h2 := Nat.gcd_dvd_right 2 y
    have hle := Nat.le_of_dvd (by decide) hd
    have : Nat.gcd 2 y ≠ 2 := by intro h; rw [h] at h2; have := Nat.mod_eq_zero_of_dvd h2; omega
    have h0 : 0 < Nat.gcd 2 y := Nat.gcd_pos_of_pos_left _ (by decide)
    show Nat.gcd 2 y = 1
    omega
  have := Nat.Coprime.gcd_mul_left_cancel (x / 2) hc
  rw [show 2 * (x / 2) = x from by omega, hg] at this
  exact this.symm
theorem gcd_half_right {x y h : Nat} (hg : Nat.gcd x y = h) (ho : h % 2 = 1) (hy : y % 2 = 0) : Nat.gcd x (y / 2) = h := by
  rw [Nat.gcd_comm]; rw [Nat.gcd_comm] at hg; exact gcd_half_left hg ho hy
theorem gcd_sub {x y h : Nat} (hg : Nat.gcd x y = h) (hle : x ≤ y) : Nat.gcd x (y - x) = h := by
  rw [← hg]; exact Nat.gcd_sub_self_right hle
theorem gcd_odd {x y : Nat} (h : ¬ (x % 2 = 0 ∧ y % 2 = 0)) : Nat.gcd x y % 2 = 1 := by
  rcases Nat.mod_two_eq_zero_or_one (Nat.gcd x y) with h0 | h0
  · exfalso; apply h
    have hd := Nat.dvd_of_mod_eq_zero h0
    exact ⟨Nat.mod_eq_zero_of_dvd (Nat.dvd_trans hd (Nat.gcd_dvd_left x y)), Nat.mod_eq_zero_of_dvd (Nat.dvd_trans hd (Nat.gcd_dvd_right x y))⟩
  · exact h0
theorem gcd_halves {x y : Nat} (hx : x % 2 = 0) (hy : y % 2 = 0) : Nat.gcd x y = 2 * Nat.gcd (x / 2) (y / 2) := by
  have := Nat.gcd_mul_left 2 (x / 2) (y / 2)
  rw [show 2 * (x / 2) = x from by omega, show 2 * (y / 2) = y from by omega] at this
  exact this
theorem val_mod2 (a : Nat) : (dig a).getD 0 0 % 2 = a % 2 := by rw [getD_dig]; simp
theorem dig_length_pos {a : Nat} (h : 0 < a) : 0 < (dig a).length := by
  have : dig a ≠ [] := fun e => by have := dig_nil_iff.1 e; omega
  exact List.length_pos_iff.2 this
end Go.Proofs.YtgfkachfbnbikaaGreatDoor

namespace Go.Proofs.YtgfkachfbnbikaaGreatDoor
open Go.RowKit

theorem Tryz.info_u8 : (Tryz.prog.info? 5).map (fun i => (i.zero, i.size, i.bytes)) = some (some (.int .u8 0), 1, 1) := by kernel_rfl

def u8s (xs : List Nat) : List Value := xs.map fun (x : Nat) => .int .u8 (x : Int)
theorem u8s_length (xs : List Nat) : (u8s xs).length = xs.length := by simp [u8s]
theorem u8s_get (xs : List Nat) (j : Nat) (h : j < xs.length) : (u8s xs)[j]? = some (.int .u8 (xs.getD j 0 : Nat)) := by
  simp [u8s, List.getElem?_eq_getElem h, List.getD_eq_getElem?_getD]
/-- Each is a byte, and they are not too many. -/
def Db (xs : List Nat) : Prop := xs.length ≤ 1073741824 ∧ ∀ x ∈ xs, x < 256
/-- A row of bytes that the call owns. -/
def OB (base : Nat) (w : World) (v : Value) (xs : List Nat) : Prop := Db xs ∧ w.ownsRow base 5 1 v xs.length (u8s xs)
theorem OB.kept {b : Nat} {w w' : World} {v : Value} {xs : List Nat} (h : OB b w v xs) (hk : ∀ g, b ≤ g → g < w.heap.size → w'.heap[g]? = w.heap[g]?) : OB b w' v xs := by
  refine ⟨h.1, h.2.1, ?_⟩
  rcases h.2.2 with h' | ⟨g, cap, cur, h1, h2, h3, h4⟩
  · exact .inl h'
  · exact .inr ⟨g, cap, cur, h1, h2, (hk g h2 (Array.getElem?_eq_some_iff.1 h3).1).trans h3, h4⟩
theorem OB.ext {b : Nat} {w w' : World} {v : Value} {xs : List Nat} (h : OB b w v xs) (e : Ext w w') : OB b w' v xs := h.kept fun g _ hg => e.block g hg
theorem OB.mono {b b' : Nat} {w : World} {v : Value} {xs : List Nat} (h : OB b w v xs) (hb : b' ≤ b) : OB b' w v xs := by
  refine ⟨h.1, h.2.1, ?_⟩
  rcases h.2.2 with h' | ⟨g, cap, cur, h1, h2, h3⟩
  · exact .inl h'
  · exact .inr ⟨g, cap, cur, h1, Nat.le_trans hb h2, h3⟩
theorem OB.form {b : Nat} {w : World} {v : Value} {xs : List Nat} (h : OB b w v xs) : ∃ A c, v = .slice A xs.length c ∧ xs.length ≤ c := by
  rcases h.2.2 with ⟨h1, h2⟩ | ⟨g, cap, cur, h1, _, _, h4, _⟩
  · exact ⟨none, 0, by rw [h2]; exact h1, by omega⟩
  · exact ⟨_, _, h1, h4⟩
theorem OB.nil (b : Nat) (w : World) : OB b w (.slice none 0 0) [] := ⟨⟨by decide, by simp⟩, by simpa [u8s] using World.ownsRow_nil w b 5 1⟩
theorem OB.alloc {b : Nat} {w : World} {v : Value} {xs : List Nat} (h : OB b w v xs) (o : Obj) : OB b (w.alloc o) v xs := h.ext ((Ext.refl w).alloc o)
theorem OB.take {b : Nat} {w : World} {n c : Nat} {A} {xs : List Nat} (h : OB b w (.slice A n c) xs) (k : Nat) (hk : k ≤ xs.length) : OB b w (.slice A k c) (xs.take k) := by
  have hd := h.1
  refine ⟨⟨by have := hd.1; simp; omega, fun x hx => hd.2 x (List.mem_of_mem_take hx)⟩, by simp [u8s], ?_⟩
  have hl : (xs.take k).length = k := by simp; omega
  rcases h.2.2 with ⟨h1, h2⟩ | ⟨g, cap, cur, h1, h2, h3, h4, h5, h6, h7⟩
  · injection h1 with h1 h1' h1''
    have : k = 0 := by omega
    subst this
    exact .inl ⟨by rw [h1, h1''], by simp⟩
  · injection h1 with h1 h1' h1''
    subst h1 h1''
    refine .inr ⟨g, c, cur, by rw [hl], h2, h3, by omega, h5, h6, ?_⟩
    simp only [hl, Nat.mul_one] at h7 ⊢
    rw [show u8s (xs.take k) = (u8s xs).take k from by simp [u8s, List.map_take], ← h7, List.take_take]
    simp; omega
theorem OB.ext_grown {w0 W w1 : World} {b : Nat} {v : Value} {xs : List Nat} (HO : OB b W v xs) (hE : Ext w0 W) (hb : w0.heap.size ≤ b) (hg : W.grownBy w1 v.ownBlock) : Ext w0 w1 :=
  hE.grown hg fun k hk => Nat.le_trans hb (HO.2.lt k hk).1

section
variable {ops : Array Oper} {rest : List Oper} {o : Oper} {a : Act} {Q : Exit → Act → World → Prop}
/-- `append(v, y)` -/
theorem append_u8 {W : World} (base : Nat) (hgd : o.guard = none) (s x : Operand)
    (ho : o.op = .call { callee := .builtin .append, args := #[s, x], argTypes := #[120, 120] })
    (v : Value) (xs : List Nat) (y : Nat) (z : Int) (hz : z = (y : Int)) (HO : OB base W v xs) (hs : a.eval s = v) (hx : a.eval x = .slice (some ⟨W.heap.size, 0, none⟩) 1 1)
    (hy : y < 256) (hbase : base ≤ W.heap.size) (hl : xs.length < 1073741824)
    (h : ∀ v1 w1, OB base w1 v1 (xs ++ [y]) → W.grownBy w1 v.ownBlock → (v1.ownBlock = v.ownBlock ∨ ∃ g, v1.ownBlock = some g ∧ W.heap.size ≤ g) → wpList Tryz.prog ops Q rest (a.put o.dst v1) w1) :
    wpList Tryz.prog ops Q (o :: rest) a (W.alloc (.cells #[.int .u8 z] 5)) := by
  subst hz
  obtain ⟨i0, hi, hz0, hz1, hz2⟩ := info_parts Tryz.info_u8
  refine wpList_append_own_at (W.alloc (.cells #[.int .u8 y] 5)) hgd s x 120 ho base 5 i0 (.int .u8 0) 1 1 Tryz.underlying120 hi hz0 hz1 hz2 rfl (by omega) v xs.length (u8s xs) hs (HO.2.alloc _) ⟨W.heap.size, 0, none⟩ 1 1 [.int .u8 y] hx rfl
    (World.news_of_block (cs := #[.int .u8 y]) (t := 5) (fr := (0, 0)) (heap_alloc_new W _)) (by simp [Value.oneCell']) (by simp only [maxLen]; omega) (by omega) (by simp; omega) ?_
  intro v1 w1 hown hg _ hb
  have hg' := World.grownBy.trans (World.grownBy_alloc W _ v.ownBlock) hg
  refine h v1 w1 ⟨⟨by simp; omega, fun x hx => ?_⟩, ?_⟩ hg' (hb.imp id fun e => ⟨_, e, by simp⟩)
  · rcases List.mem_append.1 hx with hx | hx
    · exact HO.1.2 x hx
    · simp at hx; omega
  have e1 : (xs ++ [y]).length = xs.length + 1 := by simp
  have e2 : u8s (xs ++ [y]) = u8s xs ++ [.int .u8 y] := by simp [u8s]
  rw [e1, e2]; exact hown
end

theorem OB.row {b : Nat} {w : World} {v : Value} {xs : List Nat} (h : OB b w v xs) (hn : 0 < xs.length) :
    ∃ g c, v = .slice (some ⟨g, 0, none⟩) xs.length c ∧ b ≤ g ∧ g < w.heap.size ∧ xs.length ≤ c ∧ v.ownBlock = some g := by
  rcases h.2.2 with ⟨_, h2⟩ | ⟨g, cap, cur, h1, h2, h3, h4, _⟩
  · omega
  · exact ⟨g, cap, h1, h2, (Array.getElem?_eq_some_iff.1 h3).1, h4, by subst h1; rfl⟩
theorem OB.cell {b : Nat} {w : World} {g n c : Nat} {xs : List Nat} (h : OB b w (.slice (some ⟨g, 0, none⟩) n c) xs) (j : Nat) (hj : j < xs.length) : w.cell? ⟨g, j, none⟩ = some (.int .u8 ((xs.getD j 0 : Nat) : Int)) := by
  have := h.2.cells (g := g) rfl j _ (u8s_get xs j hj)
  rwa [add_plain] at this
theorem OB.free {b : Nat} {w : World} {g n c : Nat} {xs : List Nat} (h : OB b w (.slice (some ⟨g, 0, none⟩) n c) xs) (j : Nat) : w.frozen? ⟨g, j, none⟩ = false := by
  rcases h.2.2 with ⟨h', _⟩ | ⟨g', cap', cur, h', _, hh, _⟩
  · cases h'
  · injection h' with h'; injection h' with h'; injection h' with h'
    subst h'
    simp [World.frozen?, hh]
theorem OB.store {b : Nat} {w : World} {g n c : Nat} {xs : List Nat} (h : OB b w (.slice (some ⟨g, 0, none⟩) n c) xs) (j : Nat) {x : Nat} (hx : x < 256) :
    OB b (w.setCell ⟨g, j, none⟩ (.int .u8 (x : Int))) (.slice (some ⟨g, 0, none⟩) n c) (xs.set j x) := by
  have hn : n = xs.length := by
    rcases h.2.2 with ⟨h', _⟩ | ⟨g', cap', cur, h', _⟩
    · cases h'
    · injection h'
  subst hn
  have hs := (h.2.stored j (.int .u8 x)).1
  refine ⟨⟨by simp; exact h.1.1, fun y hy => ?_⟩, ?_⟩
  · rcases List.mem_or_eq_of_mem_set hy with hy | rfl
    · exact h.1.2 y hy
    · exact hx
  have e : u8s (xs.set j x) = (u8s xs).set j (.int .u8 x) := by simp [u8s, List.map_set]
  rw [e]; simpa using hs
theorem OB.set {b : Nat} {w : World} {v : Value} {xs : List Nat} (h : OB b w v xs) {p : Addr} (hp : p.block < b) (u : Value) : OB b (w.setCell p u) v xs :=
  h.kept fun g hg _ => Below.heap_setCell _ _ _ _ (by omega)
/-- `string(v)` -/
theorem OB.text {b : Nat} {w : World} {g n c : Nat} {xs : List Nat} (h : OB b w (.slice (some ⟨g, 0, none⟩) n c) xs) (l : List UInt8) (hl : l = xs.map UInt8.ofNat) :
    (convert 120 9 (.slice (some ⟨g, 0, none⟩) n c)).run Tryz.prog w = .ok (.string ⟨l.toArray⟩) w := by
  subst hl
  have hn : n = xs.length := by
    rcases h.2.2 with ⟨h', _⟩ | ⟨g', cap', cur, h', _⟩
    · cases h'
    · injection h'
  subst hn
  have := run_convert_bytes_back (P := Tryz.prog) w 120 9 5 ⟨g, 0, none⟩ c (xs.map UInt8.ofNat) Tryz.underlying120 Tryz.underlying5 Tryz.underlying9 (fun j hj => ?_)
  · simpa using this
  · have hj' : j < xs.length := by simpa using hj
    rw [add_plain, h.cell j hj', List.getElem_map, UInt8.toNat_ofNat']
    have hx := h.1.2 _ (List.getElem_mem hj')
    rw [List.getD_eq_getElem?_getD, List.getElem?_eq_getElem hj', Option.getD_some, Nat.mod_eq_of_lt (by omega)]

/-- Two rows that don't share a block. -/
def Apart (x out : Value) : Prop := x.ownBlock = none ∨ x.ownBlock ≠ out.ownBlock
theorem Apart.nil (x : Value) : Apart x (.slice none 0 0) := by
  cases hx : x.ownBlock with
  | none => exact .inl hx
  | some g => exact .inr (by rw [hx]; intro e; cases e)
theorem Apart.append {W : World} {b : Nat} {x out v1 : Value} {xs : List Nat} (h : Apart x out) (HO : OV b W x xs) (hv : v1.ownBlock = out.ownBlock ∨ ∃ g, v1.ownBlock = some g ∧ W.heap.size ≤ g) : Apart x v1 := by
  cases hx : x.ownBlock with
  | none => exact .inl hx
  | some g0 =>
    refine .inr fun e => ?_
    rcases hv with hv | ⟨g, hv, hg⟩
    · rcases h with h | h
      · rw [h] at hx; cases hx
      · exact h (e.trans hv)
    · rw [hx, hv] at e
      injection e with e
      have := (HO.2.lt g0 hx).2
      omega
theorem Apart.fresh {W W' : World} {b : Nat} {x out : Value} {xs zs : List Nat} (HO : OV W.heap.size W' x xs) (HB : OB b W out zs) : Apart x out := by
  cases hx : x.ownBlock with
  | none => exact .inl hx
  | some g0 =>
    refine .inr fun e => ?_
    have h1 := (HO.2.lt g0 hx).1
    have h2 := (HB.2.lt g0 (by rw [← e]; exact hx)).2
    omega
end Go.Proofs.YtgfkachfbnbikaaGreatDoor

namespace Go.Proofs.YtgfkachfbnbikaaGreatDoor
open Go.RowKit

set_option maxHeartbeats 1000000 in
theorem reverse_calls {w0 w : World} {b g c : Nat} {xs : List Nat} (h : OB b w (.slice (some ⟨g, 0, none⟩) xs.length c) xs) (he : Ext w0 w) (hg : w0.heap.size ≤ g) :
    Calls Tryz.prog 126 #[.slice (some ⟨g, 0, none⟩) xs.length c] w fun e w' => e = .returned (.tuple #[]) ∧ OB b w' (.slice (some ⟨g, 0, none⟩) xs.length c) xs.reverse ∧ Ext w0 w' := by
  have mixed : Tryz.prog.follows Departure.mixedOrders = true := by kernel_rfl
  have H := Aside.mk h
  have HE := Aside.mk he
  have hl : xs.length ≤ 1073741824 := h.1.1
  clear h he
  go_enter Tryz.func126, Tryz.ntmps126
  go_wp2
  go_loopw [2, 3] (fun i j wr => ∃ (k : Nat) (m : Int) (zs : List Nat), 2 * k ≤ xs.length + 1 ∧ i = .int .i64 (k : Int) ∧ j = .int .i64 m ∧ m = (xs.length : Int) - 1 - (k : Int) ∧ Aside (OB b wr (.slice (some ⟨g, 0, none⟩) xs.length c) zs) ∧ Aside (Ext w0 wr) ∧ Aside (RevAt xs zs k)) (fun i j _ => (intOf j - intOf i + 1).toNat)
  case atStart => exact ⟨0, _, xs, by omega, rfl, rfl, by simp, H, HE, ⟨RevAt.init xs⟩⟩
  case round =>
    obtain ⟨k, m, zs, hk, rfl, rfl, hm, HZ, HB, HR⟩ := hrel
    by_cases hlt : (k : Int) < m
    · obtain ⟨n, rfl⟩ : ∃ n : Nat, m = (n : Int) := ⟨m.toNat, by omega⟩
      have hkn : k < n := by omega
      have hnl : n < xs.length := by omega
      have hkl : k < xs.length := by omega
      have hnk : n + k + 1 = xs.length := by omega
      have hzc := HZ.out.cell k (by rw [HR.out.len]; omega)
      have hzf := HZ.out.free k
      have hzc' := HZ.out.cell n (by rw [HR.out.len]; omega)
      have hzf' := HZ.out.free n
      obtain ⟨x, hx⟩ : ∃ x, zs.getD k 0 = x := ⟨_, rfl⟩
      obtain ⟨y, hy⟩ : ∃ y, zs.getD n 0 = y := ⟨_, rfl⟩
      rw [hx] at hzc
      rw [hy] at hzc'
      have HX := Aside.mk hx
      have HY := Aside.mk hy
      clear hx hy hm
      go_wp2_with fail
      go_region_o
      go_wp2
      go_roundw
      case rel =>
        have hx8 : x < 256 := by rw [← HX.out]; exact HZ.out.1.2 _ (by rw [List.getD_eq_getElem?_getD, List.getElem?_eq_getElem (by rw [HR.out.len]; omega)]; exact List.getElem_mem _)
        have hy8 : y < 256 := by rw [← HY.out]; exact HZ.out.1.2 _ (by rw [List.getD_eq_getElem?_getD, List.getElem?_eq_getElem (by rw [HR.out.len]; omega)]; exact List.getElem_mem _)
        have hst := HR.out.step hkn hnk
        rw [HX.out, HY.out] at hst
        exact ⟨k + 1, (n : Int) - 1, (zs.set k y).set n x, by omega, by go_num, rfl, by omega, ⟨((HZ.out.ext (Ext.refl _).drew).store k hy8).store n hx8⟩, ⟨(HB.out.drew.set hg _).set hg _⟩, ⟨hst⟩⟩
      case measure => simp [intOf]; omega
    · go_wp2
      go_end0
      exact ⟨rfl, by rw [← HR.out.done (by omega)]; exact HZ.out, HB.out⟩

theorem OB.len {b : Nat} {w : World} {A : Option Addr} {n c : Nat} {xs : List Nat} (h : OB b w (.slice A n c) xs) : n = xs.length := by
  obtain ⟨A', c', e, _⟩ := h.form
  injection e
theorem reverse_n {w0 w : World} {b g n c : Nat} {xs : List Nat} (h : OB b w (.slice (some ⟨g, 0, none⟩) n c) xs) (he : Ext w0 w) (hg : w0.heap.size ≤ g) :
    Calls Tryz.prog 126 #[.slice (some ⟨g, 0, none⟩) n c] w fun e w' => e = .returned (.tuple #[]) ∧ OB b w' (.slice (some ⟨g, 0, none⟩) n c) xs.reverse ∧ Ext w0 w' := by
  obtain rfl := h.len
  exact reverse_calls h he hg
end Go.Proofs.YtgfkachfbnbikaaGreatDoor
