/- Plain arithmetic of lists of decimal digits, and of texts made of them. No program in sight. -/
import Derived.Test.YtgfkachfbnbikaaGreatDoorMath
namespace Go.Proofs.YtgfkachfbnbikaaGreatDoor

/-- The number of a list of decimal digits, the least first. -/
def v10 : List Nat → Nat
  | [] => 0
  | x :: xs => x + 10 * v10 xs
/-- The decimal digits of a number, the least first. -/
def d10 (n : Nat) : List Nat := if h : n = 0 then [] else (n % 10) :: d10 (n / 10)
termination_by n
decreasing_by omega
theorem d10_zero : d10 0 = [] := by rw [d10]; simp
theorem d10_pos {n : Nat} (h : n ≠ 0) : d10 n = (n % 10) :: d10 (n / 10) := by rw [d10]; simp [h]
theorem v10_d10 (n : Nat) : v10 (d10 n) = n := by
  induction n using Nat.strongRecOn with
  | _ n ih =>
    by_cases h : n = 0
    · subst h; rw [d10_zero]; rfl
    · rw [d10_pos h, v10, ih (n / 10) (by omega)]; omega
def D10 (xs : List Nat) : Prop := ∀ x ∈ xs, x < 10
theorem D10.nil : D10 [] := by intro x h; cases h
theorem D10.cons {x : Nat} {xs : List Nat} (hx : x < 10) (h : D10 xs) : D10 (x :: xs) := by
  intro y hy; rcases List.mem_cons.1 hy with rfl | hy
  · exact hx
  · exact h y hy
theorem D10.tail {x : Nat} {xs : List Nat} (h : D10 (x :: xs)) : D10 xs := fun y hy => h y (List.mem_cons_of_mem _ hy)
theorem D10.head {x : Nat} {xs : List Nat} (h : D10 (x :: xs)) : x < 10 := h x List.mem_cons_self
theorem D10.append {xs ys : List Nat} (h : D10 xs) (k : D10 ys) : D10 (xs ++ ys) := fun x hx => (List.mem_append.1 hx).elim (h x) (k x)
theorem D10.snoc {xs : List Nat} {x : Nat} (h : D10 xs) (k : x < 10) : D10 (xs ++ [x]) := h.append (D10.cons k D10.nil)
theorem D10.take {xs : List Nat} (h : D10 xs) (n : Nat) : D10 (xs.take n) := fun x hx => h x (List.mem_of_mem_take hx)
theorem d10_lt (n : Nat) : D10 (d10 n) := by
  induction n using Nat.strongRecOn with
  | _ n ih =>
    by_cases h : n = 0
    · subst h; rw [d10_zero]; exact D10.nil
    · rw [d10_pos h]; exact D10.cons (by omega) (ih _ (by omega))
theorem v10_append (xs ys : List Nat) : v10 (xs ++ ys) = v10 xs + 10 ^ xs.length * v10 ys := by
  induction xs with
  | nil => simp [v10]
  | cons x xs ih => simp only [List.cons_append, v10, ih, List.length_cons, Nat.pow_succ, Nat.mul_add]; rw [← Nat.mul_assoc, Nat.mul_comm 10 (10 ^ xs.length)]; omega
theorem v10_snoc (xs : List Nat) (x : Nat) : v10 (xs ++ [x]) = v10 xs + 10 ^ xs.length * x := by rw [v10_append]; simp [v10]
theorem v10_lt {xs : List Nat} (h : D10 xs) : v10 xs < 10 ^ xs.length := by
  induction xs with
  | nil => decide
  | cons x xs ih =>
    have h1 := ih h.tail
    have h2 := h.head
    simp only [v10, List.length_cons, Nat.pow_succ]
    omega
theorem v10_pos_of_nz {xs : List Nat} (h : Nz xs) (hx : xs ≠ []) : 0 < v10 xs := by
  induction xs with
  | nil => exact absurd rfl hx
  | cons x xs ih =>
    cases xs with
    | nil => have := h (by simp); simp at this; simp [v10]; omega
    | cons y ys => have := ih h.tail (by simp); simp only [v10] at this ⊢; omega
theorem d10_v10 {xs : List Nat} (hd : D10 xs) (hn : Nz xs) : d10 (v10 xs) = xs := by
  induction xs with
  | nil => simp [v10, d10_zero]
  | cons x xs ih =>
    have hp := v10_pos_of_nz hn (by simp)
    have hx := hd.head
    rw [d10_pos (by omega)]
    simp only [v10]
    rw [show (x + 10 * v10 xs) % 10 = x from by omega, show (x + 10 * v10 xs) / 10 = v10 xs from by omega, ih hd.tail hn.tail]
theorem nz_d10 (n : Nat) : Nz (d10 n) := by
  induction n using Nat.strongRecOn with
  | _ n ih =>
    by_cases h : n = 0
    · subst h; rw [d10_zero]; exact Nz.nil
    · rw [d10_pos h]
      intro _
      by_cases h2 : n / 10 = 0
      · rw [h2, d10_zero]; simp; omega
      · have := ih (n / 10) (by omega) (by rw [d10_pos h2]; simp)
        rw [d10_pos h2] at this ⊢
        simpa using this
theorem d10_length_le {n k : Nat} (h : n < 10 ^ k) : (d10 n).length ≤ k := by
  induction k generalizing n with
  | zero => have : n = 0 := by simpa using h
            subst this; simp [d10_zero]
  | succ k ih =>
    by_cases h0 : n = 0
    · subst h0; simp [d10_zero]
    · rw [d10_pos h0, List.length_cons]
      have : n / 10 < 10 ^ k := by rw [Nat.pow_succ] at h; omega
      have := ih this
      omega
theorem d10_nil_iff {n : Nat} : d10 n = [] ↔ n = 0 := ⟨fun h => by have := v10_d10 n; rw [h] at this; exact this.symm, fun h => by subst h; exact d10_zero⟩
theorem v10_take_succ (xs : List Nat) (i : Nat) (h : i < xs.length) : v10 (xs.take (i + 1)) = v10 (xs.take i) + 10 ^ i * xs.getD i 0 := by
  rw [take_succ_get xs i h, v10_snoc]; simp [Nat.min_eq_left (Nat.le_of_lt h)]
/-- Zeros at the end left out. -/
theorem trimTo_d10 {xs : List Nat} (hd : D10 xs) : ∀ n, n ≤ xs.length → trimTo xs n = d10 (v10 (xs.take n))
  | 0, _ => by simp [trimTo, v10, d10_zero]
  | n + 1, h => by
    simp only [trimTo]
    split
    · rename_i h0
      rw [trimTo_d10 hd n (by omega), v10_take_succ xs n (by omega), h0]; simp
    · rename_i h0
      rw [d10_v10 (hd.take _)]
      intro _
      rw [List.length_take, Nat.min_eq_left h, Nat.add_sub_cancel, take_succ_get xs n (by omega)]
      have : (xs.take n).length = n := by rw [List.length_take, Nat.min_eq_left (by omega)]
      conv => lhs; arg 2; rw [← this]
      rw [getD_append_last]
      exact h0

/-! Texts -/
/-- The sign of a decimal digit. -/
def chr (x : Nat) : UInt8 := UInt8.ofNat (48 + x)
theorem chr_nat {x : Nat} (h : x < 10) : (chr x).toNat = 48 + x := by
  unfold chr; rw [UInt8.toNat_ofNat']; omega
/-- The decimal digits of a number, as a text. -/
def dtext (a : Nat) : List UInt8 := if a = 0 then [48] else ((d10 a).map chr).reverse
/-- Is a byte the sign of a decimal digit? -/
def isd (c : UInt8) : Bool := decide (48 ≤ c.toNat) && decide (c.toNat ≤ 57)
/-- The number of a text of decimal digits. -/
def dval (l : List UInt8) : Nat := l.foldl (fun v c => 10 * v + (c.toNat - 48)) 0
theorem dval_nil : dval [] = 0 := rfl
theorem dval_snoc (l : List UInt8) (c : UInt8) : dval (l ++ [c]) = 10 * dval l + (c.toNat - 48) := by simp [dval]
/-- The error of a text that is to be a natural number. -/
def perr (l : List UInt8) : Nat := if 4900 < l.length then 3 else if l = [] ∨ (l.head? = some 48 ∧ 1 < l.length) then 5 else if l.all isd then 0 else 5

theorem dval_map_chr {xs : List Nat} (h : D10 xs) : dval ((xs.map chr).reverse) = v10 xs := by
  induction xs with
  | nil => rfl
  | cons x xs ih =>
    rw [List.map_cons, List.reverse_cons, dval_snoc, ih h.tail, chr_nat h.head, v10]; omega
theorem dval_dtext (a : Nat) : dval (dtext a) = a := by
  unfold dtext
  split
  · rename_i h; subst h; rfl
  · rw [dval_map_chr (d10_lt a), v10_d10]
theorem isd_chr {x : Nat} (h : x < 10) : isd (chr x) = true := by
  unfold isd; rw [chr_nat h]; simp; omega
theorem chr_of_isd {c : UInt8} (h : isd c = true) : chr (c.toNat - 48) = c ∧ c.toNat - 48 < 10 := by
  unfold isd at h
  simp only [Bool.and_eq_true, decide_eq_true_eq] at h
  refine ⟨?_, by omega⟩
  apply UInt8.toNat_inj.1
  rw [chr_nat (by omega)]; omega
theorem all_isd_chr {xs : List Nat} (h : D10 xs) : ((xs.map chr).reverse).all isd = true := by
  rw [List.all_eq_true]
  intro c hc
  rw [List.mem_reverse, List.mem_map] at hc
  obtain ⟨x, hx, rfl⟩ := hc
  exact isd_chr (h x hx)
theorem chars_of_all {l : List UInt8} (h : l.all isd = true) : ∃ xs, D10 xs ∧ l = (xs.map chr).reverse ∧ xs.length = l.length := by
  refine ⟨(l.map fun c => c.toNat - 48).reverse, ?_, ?_, by simp⟩
  · intro x hx
    rw [List.mem_reverse, List.mem_map] at hx
    obtain ⟨c, hc, rfl⟩ := hx
    exact (chr_of_isd (List.all_eq_true.1 h c hc)).2
  · rw [List.map_reverse, List.reverse_reverse, List.map_map]
    conv => lhs; rw [← List.map_id l]
    apply List.map_congr_left
    intro c hc
    exact ((chr_of_isd (List.all_eq_true.1 h c hc)).1).symm
theorem dtext_ne (a : Nat) : dtext a ≠ [] := by
  unfold dtext
  split
  · simp
  · rename_i h
    simp [d10_nil_iff, h]
theorem dtext_all (a : Nat) : (dtext a).all isd = true := by
  unfold dtext
  split
  · rfl
  · exact all_isd_chr (d10_lt a)
/-- A text that Parse takes is the text of its number. -/
theorem dtext_dval {l : List UInt8} (h : perr l = 0) : dtext (dval l) = l := by
  unfold perr at h
  split at h
  · omega
  · split at h
    · omega
    · split at h
      · rename_i h1 h2 h3
        obtain ⟨xs, hd, hl, hn⟩ := chars_of_all h3
        rw [not_or] at h2
        by_cases hz : v10 xs = 0
        · -- all digits are zeros: then there is one
          have h0 : dval l = 0 := by rw [hl, dval_map_chr hd, hz]
          rw [h0]
          cases l with
          | nil => exact absurd rfl h2.1
          | cons c l =>
            have hc : c = 48 := by
              cases hx : xs.reverse with
              | nil => rw [List.reverse_eq_nil_iff] at hx; subst hx; simp at hl
              | cons y ys =>
                have hxs : xs = ys.reverse ++ [y] := by rw [← List.reverse_reverse xs, hx, List.reverse_cons]
                rw [hxs, v10_snoc] at hz
                have hy : y = 0 := by
                  rcases Nat.eq_zero_or_pos y with h | h
                  · exact h
                  · have := Nat.mul_pos (Nat.pow_pos (n := ys.reverse.length) (show 0 < 10 by decide)) h; omega
                rw [← List.map_reverse, hx, hy] at hl
                simp at hl
                rw [hl.1]; rfl
            subst hc
            have : l = [] := by
              have h4 := h2.2
              simp at h4
              exact h4
            subst this
            rfl
        · unfold dtext
          rw [hl, dval_map_chr hd, if_neg hz, d10_v10 hd]
          intro hne hlast
          apply h2.2
          have hnl : 0 < xs.length := List.length_pos_iff.2 hne
          have hlast' : xs.getLast? = some 0 := by
            rw [List.getD_eq_getElem?_getD, List.getElem?_eq_getElem (show xs.length - 1 < xs.length by omega)] at hlast
            rw [List.getLast?_eq_getElem?, List.getElem?_eq_getElem (show xs.length - 1 < xs.length by omega)]
            simpa using hlast
          constructor
          · rw [hl, List.head?_reverse, List.getLast?_map, hlast']; rfl
          · rw [← hn]
            rcases Nat.lt_or_ge 1 xs.length with h | h
            · exact h
            · exfalso; apply hz
              have h1 : xs.length = 1 := by omega
              obtain ⟨z, hz'⟩ := List.length_eq_one_iff.1 h1
              subst hz'
              simp at hlast
              subst hlast; rfl
      · omega
theorem perr_dtext {a : Nat} (h : (dtext a).length ≤ 4900) : perr (dtext a) = 0 := by
  unfold perr
  rw [if_neg (by omega), if_neg, if_pos (dtext_all a)]
  rintro (h1 | ⟨h1, h2⟩)
  · exact dtext_ne a h1
  · unfold dtext at h1 h2
    split at h1
    · rename_i h0; rw [if_pos h0] at h2; simp at h2
    · rename_i h0
      have hn := nz_d10 a
      rw [List.head?_reverse, List.getLast?_map] at h1
      have hne : d10 a ≠ [] := fun h => h0 (d10_nil_iff.1 h)
      have hg : (d10 a).getLast? = some ((d10 a).getD ((d10 a).length - 1) 0) := by
        have := List.length_pos_iff.2 hne
        rw [List.getLast?_eq_getElem?, List.getD_eq_getElem?_getD, List.getElem?_eq_getElem (show (d10 a).length - 1 < (d10 a).length by omega)]; rfl
      rw [hg] at h1
      simp only [Option.map_some, Option.some.injEq] at h1
      have hlt : (d10 a).getD ((d10 a).length - 1) 0 < 10 := by
        have := List.length_pos_iff.2 hne
        rw [List.getD_eq_getElem?_getD, List.getElem?_eq_getElem (show (d10 a).length - 1 < (d10 a).length by omega)]
        exact d10_lt a _ (List.getElem_mem _)
      have h3 := chr_nat hlt
      rw [h1] at h3
      exact hn hne (by have : (48 : UInt8).toNat = 48 := rfl; omega)
theorem dtext_length {a k : Nat} (h : a < 10 ^ k) (hk : 0 < k) : (dtext a).length ≤ k := by
  unfold dtext
  split
  · simp; omega
  · simp; exact d10_length_le h
/-- A list that is being turned round in place: `i` places at each end are done. -/
structure RevAt (xs zs : List Nat) (i : Nat) : Prop where
  len : zs.length = xs.length
  get : ∀ j, j < xs.length → zs.getD j 0 = if j < i ∨ xs.length - i ≤ j then xs.getD (xs.length - 1 - j) 0 else xs.getD j 0
theorem RevAt.init (xs : List Nat) : RevAt xs xs 0 := ⟨rfl, fun j hj => by rw [if_neg]; omega⟩
theorem getD_set_at {xs : List Nat} {i j v : Nat} (hi : i < xs.length) : (xs.set i v).getD j 0 = if i = j then v else xs.getD j 0 := by
  simp only [List.getD_eq_getElem?_getD, List.getElem?_set]
  split
  · rename_i h; subst h; simp
  · rfl
theorem RevAt.step {xs zs : List Nat} {i k : Nat} (h : RevAt xs zs i) (hi : i < k) (hk : k + i + 1 = xs.length) :
    RevAt xs ((zs.set i (zs.getD k 0)).set k (zs.getD i 0)) (i + 1) := by
  refine ⟨by simp [h.len], fun j hj => ?_⟩
  rw [getD_set_at (by simp [h.len]; omega), getD_set_at (by rw [h.len]; omega)]
  have hl := h.len
  split
  · rename_i e; subst e
    rw [h.get i (by omega), if_neg (by omega), if_pos (by omega)]
    congr 1; omega
  · split
    · rename_i e; subst e
      rw [h.get k (by omega), if_neg (by omega), if_pos (by omega)]
      congr 1; omega
    · rw [h.get j hj]
      by_cases hc : j < i ∨ xs.length - i ≤ j
      · rw [if_pos hc, if_pos (by omega)]
      · rw [if_neg hc, if_neg (by omega)]
theorem RevAt.done {xs zs : List Nat} {i : Nat} (h : RevAt xs zs i) (hi : xs.length ≤ 2 * i + 1) : zs = xs.reverse := by
  apply List.ext_getElem
  · rw [h.len, List.length_reverse]
  · intro j h1 h2
    have hj : j < xs.length := by rw [← h.len]; exact h1
    have hg := h.get j hj
    rw [List.getD_eq_getElem?_getD, List.getElem?_eq_getElem h1, Option.getD_some] at hg
    rw [hg, List.getElem_reverse]
    split
    · rw [List.getD_eq_getElem?_getD, List.getElem?_eq_getElem (by omega), Option.getD_some]
    · have e : j = xs.length - 1 - j := by omega
      rw [List.getD_eq_getElem?_getD, List.getElem?_eq_getElem hj, Option.getD_some]
      congr 1
end Go.Proofs.YtgfkachfbnbikaaGreatDoor
