/- Plain arithmetic of lists of digits to the base 2^32, the least digit first. No program in sight. -/
namespace Go.Proofs.YtgfkachfbnbikaaGreatDoor

/-- The number of a list of digits. -/
def val : List Nat → Nat
  | [] => 0
  | x :: xs => x + 4294967296 * val xs

/-- The digits of a number. -/
def dig (n : Nat) : List Nat := if h : n = 0 then [] else (n % 4294967296) :: dig (n / 4294967296)
termination_by n
decreasing_by omega

theorem dig_zero : dig 0 = [] := by rw [dig]; simp
theorem dig_pos {n : Nat} (h : n ≠ 0) : dig n = (n % 4294967296) :: dig (n / 4294967296) := by rw [dig]; simp [h]

theorem val_dig (n : Nat) : val (dig n) = n := by
  induction n using Nat.strongRecOn with
  | _ n ih =>
    by_cases h : n = 0
    · subst h; rw [dig_zero]; rfl
    · rw [dig_pos h, val, ih (n / 4294967296) (by omega)]; omega

theorem dig_lt (n : Nat) : ∀ x ∈ dig n, x < 4294967296 := by
  induction n using Nat.strongRecOn with
  | _ n ih =>
    by_cases h : n = 0
    · subst h; rw [dig_zero]; simp
    · rw [dig_pos h]; intro x hx
      rcases List.mem_cons.1 hx with rfl | hx
      · omega
      · exact ih _ (by omega) x hx

/-- Digits, none of them too great. -/
def Ds (xs : List Nat) : Prop := ∀ x ∈ xs, x < 4294967296
theorem Ds.nil : Ds [] := by intro x h; cases h
theorem Ds.cons {x : Nat} {xs : List Nat} (hx : x < 4294967296) (h : Ds xs) : Ds (x :: xs) := by
  intro y hy; rcases List.mem_cons.1 hy with rfl | hy
  · exact hx
  · exact h y hy
theorem Ds.tail {x : Nat} {xs : List Nat} (h : Ds (x :: xs)) : Ds xs := fun y hy => h y (List.mem_cons_of_mem _ hy)
theorem Ds.head {x : Nat} {xs : List Nat} (h : Ds (x :: xs)) : x < 4294967296 := h x List.mem_cons_self
theorem Ds.append {xs ys : List Nat} (h : Ds xs) (k : Ds ys) : Ds (xs ++ ys) := fun x hx => (List.mem_append.1 hx).elim (h x) (k x)
theorem Ds.take {xs : List Nat} (h : Ds xs) (n : Nat) : Ds (xs.take n) := fun x hx => h x (List.mem_of_mem_take hx)
theorem Ds.drop {xs : List Nat} (h : Ds xs) (n : Nat) : Ds (xs.drop n) := fun x hx => h x (List.mem_of_mem_drop hx)
theorem Ds.set {xs : List Nat} (h : Ds xs) (i : Nat) {x : Nat} (hx : x < 4294967296) : Ds (xs.set i x) := fun y hy => (List.mem_or_eq_of_mem_set hy).elim (h y) (fun e => e ▸ hx)
theorem Ds.get {xs : List Nat} (h : Ds xs) (j : Nat) : xs.getD j 0 < 4294967296 := by
  rw [List.getD_eq_getElem?_getD]
  rcases Nat.lt_or_ge j xs.length with hj | hj
  · rw [List.getElem?_eq_getElem hj]; exact h _ (List.getElem_mem hj)
  · rw [List.getElem?_eq_none hj]; decide
theorem Ds.zeros (n : Nat) : Ds (List.replicate n 0) := by intro x hx; rw [(List.mem_replicate.1 hx).2]; decide
theorem ds_dig (n : Nat) : Ds (dig n) := dig_lt n

theorem val_append (xs ys : List Nat) : val (xs ++ ys) = val xs + 4294967296 ^ xs.length * val ys := by
  induction xs with
  | nil => simp [val]
  | cons x xs ih => simp only [List.cons_append, val, ih, List.length_cons, Nat.pow_succ, Nat.mul_add]; rw [← Nat.mul_assoc, Nat.mul_comm 4294967296 (4294967296 ^ xs.length)]; omega

theorem val_lt {xs : List Nat} (h : Ds xs) : val xs < 4294967296 ^ xs.length := by
  induction xs with
  | nil => decide
  | cons x xs ih =>
    have h1 := ih h.tail
    have h2 := h.head
    simp only [val, List.length_cons, Nat.pow_succ]
    omega

theorem val_zeros (n : Nat) : val (List.replicate n 0) = 0 := by
  induction n with
  | zero => rfl
  | succ n ih => simp [List.replicate_succ, val, ih]

/-- A list without a zero at its end. -/
def Nz (xs : List Nat) : Prop := xs ≠ [] → xs.getD (xs.length - 1) 0 ≠ 0
theorem Nz.nil : Nz [] := fun h => absurd rfl h
theorem Nz.tail {x : Nat} {xs : List Nat} (h : Nz (x :: xs)) : Nz xs := by
  intro hx
  have := h (by simp)
  cases xs with
  | nil => exact absurd rfl hx
  | cons y ys => simpa using this

theorem val_pos_of_nz {xs : List Nat} (h : Nz xs) (hx : xs ≠ []) : 0 < val xs := by
  induction xs with
  | nil => exact absurd rfl hx
  | cons x xs ih =>
    cases xs with
    | nil => have := h (by simp); simp at this; simp [val]; omega
    | cons y ys => have := ih h.tail (by simp); simp only [val] at this ⊢; omega

theorem dig_val {xs : List Nat} (hd : Ds xs) (hn : Nz xs) : dig (val xs) = xs := by
  induction xs with
  | nil => simp [val, dig_zero]
  | cons x xs ih =>
    have hp := val_pos_of_nz hn (by simp)
    have hx := hd.head
    rw [dig_pos (by omega)]
    simp only [val]
    rw [show (x + 4294967296 * val xs) % 4294967296 = x from by omega, show (x + 4294967296 * val xs) / 4294967296 = val xs from by omega, ih hd.tail hn.tail]

theorem nz_dig (n : Nat) : Nz (dig n) := by
  induction n using Nat.strongRecOn with
  | _ n ih =>
    by_cases h : n = 0
    · subst h; rw [dig_zero]; exact Nz.nil
    · rw [dig_pos h]
      intro _
      by_cases h2 : n / 4294967296 = 0
      · rw [h2, dig_zero]; simp; omega
      · have := ih (n / 4294967296) (by omega) (by rw [dig_pos h2]; simp)
        rw [dig_pos h2] at this ⊢
        simpa using this

theorem dig_length_le {n k : Nat} (h : n < 4294967296 ^ k) : (dig n).length ≤ k := by
  induction k generalizing n with
  | zero => have : n = 0 := by simpa using h
            subst this; simp [dig_zero]
  | succ k ih =>
    by_cases h0 : n = 0
    · subst h0; simp [dig_zero]
    · rw [dig_pos h0, List.length_cons]
      have : n / 4294967296 < 4294967296 ^ k := by rw [Nat.pow_succ] at h; omega
      have := ih this
      omega
theorem lt_of_dig_length {n k : Nat} (h : (dig n).length ≤ k) : n < 4294967296 ^ k := by
  have h1 := val_lt (ds_dig n)
  rw [val_dig] at h1
  exact Nat.lt_of_lt_of_le h1 (Nat.pow_le_pow_right (by decide) h)
theorem dig_length_iff {n k : Nat} : (dig n).length ≤ k ↔ n < 4294967296 ^ k := ⟨lt_of_dig_length, dig_length_le⟩
theorem dig_inj {a b : Nat} (h : dig a = dig b) : a = b := by rw [← val_dig a, h, val_dig]
theorem dig_nil_iff {n : Nat} : dig n = [] ↔ n = 0 := ⟨fun h => by have := val_dig n; rw [h] at this; exact this.symm, fun h => by subst h; exact dig_zero⟩

theorem getD_append_last (l : List Nat) (x d : Nat) : (l ++ [x]).getD l.length d = x := by simp
theorem val_concat (xs : List Nat) (x : Nat) : val (xs ++ [x]) = val xs + 4294967296 ^ xs.length * x := by rw [val_append]; simp [val]
theorem take_succ_get (xs : List Nat) (i : Nat) (h : i < xs.length) : xs.take (i + 1) = xs.take i ++ [xs.getD i 0] := by
  rw [List.take_succ_eq_append_getElem h]; simp [List.getD_eq_getElem?_getD, List.getElem?_eq_getElem h]
theorem val_take_succ (xs : List Nat) (i : Nat) (h : i < xs.length) : val (xs.take (i + 1)) = val (xs.take i) + 4294967296 ^ i * xs.getD i 0 := by
  rw [take_succ_get xs i h, val_concat]; simp [Nat.min_eq_left (Nat.le_of_lt h)]
theorem val_split (xs : List Nat) (i : Nat) (h : i ≤ xs.length) : val xs = val (xs.take i) + 4294967296 ^ i * val (xs.drop i) := by
  have := val_append (xs.take i) (xs.drop i)
  rw [List.take_append_drop] at this
  rw [this, List.length_take, Nat.min_eq_left h]

/-- Zeros at the end left out. -/
def trimTo (xs : List Nat) : Nat → List Nat
  | 0 => xs.take 0
  | n + 1 => if xs.getD n 0 = 0 then trimTo xs n else xs.take (n + 1)
theorem trimTo_dig {xs : List Nat} (hd : Ds xs) : ∀ n, n ≤ xs.length → trimTo xs n = dig (val (xs.take n))
  | 0, _ => by simp [trimTo, val, dig_zero]
  | n + 1, h => by
    simp only [trimTo]
    split
    · rename_i h0
      rw [trimTo_dig hd n (by omega), val_take_succ xs n (by omega), h0]; simp
    · rename_i h0
      rw [dig_val (hd.take _)]
      intro _
      rw [List.length_take, Nat.min_eq_left h, Nat.add_sub_cancel, take_succ_get xs n (by omega)]
      have : (xs.take n).length = n := by rw [List.length_take, Nat.min_eq_left (by omega)]
      conv => lhs; arg 2; rw [← this]
      rw [getD_append_last]
      exact h0
theorem val_take_all (xs : List Nat) : val (xs.take xs.length) = val xs := by rw [List.take_length]

theorem getD_ge {xs : List Nat} {i : Nat} (h : xs.length ≤ i) : xs.getD i 0 = 0 := by
  rw [List.getD_eq_getElem?_getD, List.getElem?_eq_none h]; rfl
theorem val_take_step (xs : List Nat) (i : Nat) : val (xs.take (i + 1)) = val (xs.take i) + 4294967296 ^ i * xs.getD i 0 := by
  rcases Nat.lt_or_ge i xs.length with h | h
  · exact val_take_succ xs i h
  · rw [getD_ge h, List.take_of_length_le h, List.take_of_length_le (by omega)]; simp
theorem val_take_ge {xs : List Nat} {n : Nat} (h : xs.length ≤ n) : val (xs.take n) = val xs := by rw [List.take_of_length_le h]

theorem val_set {xs : List Nat} {j : Nat} (d : Nat) (h : j < xs.length) : val (xs.set j d) + 4294967296 ^ j * xs.getD j 0 = val xs + 4294967296 ^ j * d := by
  induction xs generalizing j with
  | nil => simp at h
  | cons x xs ih =>
    cases j with
    | zero => simp [val]; omega
    | succ j =>
      have := ih (j := j) (by simpa using h)
      simp only [List.set_cons_succ, val, List.getD_cons_succ, Nat.pow_succ]
      have e : ∀ y, 4294967296 ^ j * 4294967296 * y = 4294967296 * (4294967296 ^ j * y) := fun y => by rw [Nat.mul_comm (4294967296 ^ j), Nat.mul_assoc]
      rw [e, e]
      omega
theorem getD_zero_of_val {xs : List Nat} {j : Nat} (h : val xs < 4294967296 ^ j) : xs.getD j 0 = 0 := by
  rcases Nat.lt_or_ge j xs.length with hj | hj
  · have h1 := val_set 0 hj
    rcases Nat.eq_zero_or_pos (xs.getD j 0) with h2 | h2
    · exact h2
    · have : 4294967296 ^ j * 1 ≤ 4294967296 ^ j * xs.getD j 0 := Nat.mul_le_mul_left _ h2
      omega
  · exact getD_ge hj
theorem getD_set_self {xs : List Nat} {j d : Nat} (h : j < xs.length) : (xs.set j d).getD j 0 = d := by simp [List.getD_eq_getElem?_getD, h]
theorem getD_set_ne {xs : List Nat} {i j d : Nat} (h : i ≠ j) : (xs.set i d).getD j 0 = xs.getD j 0 := by simp [List.getD_eq_getElem?_getD, List.getElem?_set_ne h]
theorem getD_le_of_val {xs : List Nat} {j B : Nat} (h : val xs < 4294967296 ^ j * B) : xs.getD j 0 < B := by
  rcases Nat.lt_or_ge j xs.length with hj | hj
  · have h1 := val_set 0 hj
    have h2 : 4294967296 ^ j * xs.getD j 0 < 4294967296 ^ j * B := by omega
    exact Nat.lt_of_mul_lt_mul_left h2
  · rw [getD_ge hj]
    rcases Nat.eq_zero_or_pos B with hB | hB
    · subst hB; simp at h
    · exact hB
theorem pow_split (n : Nat) (h : n ≤ 32) : 2 ^ (32 - n) * 2 ^ n = 4294967296 := by rw [← Nat.pow_add]; rw [show 32 - n + n = 32 from by omega]
/-- One digit of what is taken: `c` is carried, `l` is borrowed, `z` the product of digits, `lo` its lower half with what is carried. -/
theorem take_step {X X' W U P u u' c c' l l' z lo : Nat} (h : X + W = U + P * (c + l)) (hv : X' + P * u = X + P * u') (hT : c + z = lo + 4294967296 * c') (hu : u' + lo + l = u + 4294967296 * l') :
    X' + (W + P * z) = U + P * 4294967296 * (c' + l') := by
  have h1 : P * (c + z) = P * lo + P * 4294967296 * c' := by rw [hT, Nat.mul_add, Nat.mul_assoc]
  have h2 : P * (u' + lo + l) = P * u + P * 4294967296 * l' := by rw [hu, Nat.mul_add, Nat.mul_assoc]
  simp only [Nat.mul_add] at h1 h2 h ⊢
  omega
/-- One digit of what is given back. -/
theorem give_step {X X' W U P u u' v c c' : Nat} (h : X + P * c = U + W) (hv : X' + P * u = X + P * u') (hT : c + (u + v) = u' + 4294967296 * c') :
    X' + P * 4294967296 * c' = U + (W + P * v) := by
  have h1 : P * (c + (u + v)) = P * u' + P * 4294967296 * c' := by rw [hT, Nat.mul_add, Nat.mul_assoc]
  simp only [Nat.mul_add] at h1
  omega
theorem take_set_below (xs : List Nat) (i j d : Nat) (h : i ≤ j) : (xs.set j d).take i = xs.take i := by rw [List.take_set_of_le h]
theorem drop_set_above {xs ys : List Nat} {j : Nat} (d : Nat) (h : xs.drop j = ys.drop j) : (xs.set j d).drop (j + 1) = ys.drop (j + 1) := by
  have h1 : (xs.set j d).drop (j + 1) = xs.drop (j + 1) := by rw [List.drop_set]; simp
  rw [h1, ← List.drop_drop, h, List.drop_drop]

/-- One digit of a product: `z` is what stood there, `s` what comes. -/
theorem mul_step {V V' V0 W P a b c s z : Nat} (h : V + P * c = V0 + W) (hV : V' + P * z = V + P * (s % 4294967296)) (hs : c + (a * b + z) = s) :
    V' + P * 4294967296 * (s / 4294967296) = V0 + (W + P * (a * b)) := by
  have e : s = s % 4294967296 + 4294967296 * (s / 4294967296) := by omega
  have h2 : P * s = P * (s % 4294967296) + P * 4294967296 * (s / 4294967296) := by conv => lhs; rw [e, Nat.mul_add, ← Nat.mul_assoc]
  have h3 : P * s = P * c + P * (a * b) + P * z := by rw [← hs, Nat.mul_add, Nat.mul_add]; omega
  omega

/-- One digit of a sum. -/
theorem sum_step {X Y Z P a b c s d e : Nat} (h : X + Y = Z + P * c) (hs : a + b + c = s) (hd : s % 4294967296 = d) (he : s / 4294967296 = e) :
    (X + P * a) + (Y + P * b) = (Z + P * d) + (P * 4294967296) * e := by
  have h1 : s = d + 4294967296 * e := by omega
  have h2 : P * s = P * d + P * 4294967296 * e := by rw [h1, Nat.mul_add, Nat.mul_assoc]
  have h3 : P * s = P * a + P * b + P * c := by rw [← hs, Nat.mul_add, Nat.mul_add]
  omega
/-- One digit of a difference: `c` and `e` are what is borrowed. -/
theorem dif_step {X Y Z P a b c d e : Nat} (h : X + P * c = Z + Y) (hs : a + 4294967296 * e = d + b + c) :
    (X + P * a) + (P * 4294967296) * e = (Z + P * d) + (Y + P * b) := by
  have h1 : P * (a + 4294967296 * e) = P * (d + b + c) := by rw [hs]
  simp only [Nat.mul_add, ← Nat.mul_assoc] at h1
  omega
end Go.Proofs.YtgfkachfbnbikaaGreatDoor
