/- Words that the walks of this claim use: worlds that only grow, slices that read as lists of digits, rows that a call owns. Plain arithmetic of lists of digits to the base 2^32, the least digit first. No program in sight. Laws of make, append and store on slices of digits that the call owns, over this seat's program. -/
import Derived.WalkKit
import Derived.Deep.QuietTactic
import Derived.BigQuiet
import Derived.KernelRfl
import Derived.Laws.MakeOwn
import Derived.Laws.OwnMore
import Derived.OwnWalk
import Derived.Test.YtcbaipnphepbeaaGreatDoorProg
import Derived.Maps.AppendAt
import Derived.Deep.AppendLies
import Derived.WalkSpells
namespace Go.Proofs.YtcbaipnphepbeaaGreatDoor
open Go.RowKit

@[go_sem] theorem run_max_int (ats : Array TypeId) (ty : TypeId) (k : IntKind) (a b : Int) : Builtin.max_ ats ty #[.int k a, .int k b] = pure (.int k (max a b)) := by
  simp only [Builtin.max_, List.foldlM_cons, List.foldlM_nil, Builtin.max2, gt_iff_lt, bind_pure, Int.max_def]
  congr 2
  split <;> split <;> omega
@[go_sem] theorem run_min_int (ats : Array TypeId) (ty : TypeId) (k : IntKind) (a b : Int) : Builtin.min_ ats ty #[.int k a, .int k b] = pure (.int k (min a b)) := by
  simp only [Builtin.min_, List.foldlM_cons, List.foldlM_nil, Builtin.min2, bind_pure, Int.min_def]
  congr 2
  split <;> split <;> omega

theorem wrap_u64 (a : Int) : IntKind.u64.wrap a = a % 18446744073709551616 := by simp [IntKind.wrap, IntKind.signed, IntKind.bits]
theorem wrap_u32 (a : Int) : IntKind.u32.wrap a = a % 4294967296 := by simp [IntKind.wrap, IntKind.signed, IntKind.bits]
theorem wrap_i64 (a : Int) (h : -9223372036854775808 ≤ a) (h' : a ≤ 9223372036854775807) : IntKind.i64.wrap a = a := by simp [IntKind.wrap, IntKind.signed, IntKind.bits]; omega

theorem drewN3 (w : World) (a b c : Nat) : ∃ n, ((w.drewN a).drewN b).drewN c = w.drewN n := ⟨_, by rw [World.drewN_drewN, World.drewN_drewN]⟩
theorem or_shift32 (r x : Nat) (hr : r < 4294967296) (hx : x < 4294967296) : bits .or .u64 ((r : Int) * 4294967296) (x : Int) = ((r * 4294967296 + x : Nat) : Int) := by
  have e : ((r : Int) * 4294967296) = ((r * 4294967296 : Nat) : Int) := by omega
  rw [e, u64_or_nat _ _ (by omega) (by omega)]
  congr 1
  have := Nat.two_pow_add_eq_or_of_lt (i := 32) (b := x) (by omega) r
  rw [Nat.mul_comm] at this
  exact this.symm

theorem and_mask32 (T : Nat) (hT : T < 18446744073709551616) : bits .and .u64 (T : Int) 4294967295 = ((T % 4294967296 : Nat) : Int) := by
  have := bits_mask .u64 64 (by decide) (fun n h0 h1 => by rw [wrap_u64]; omega) 32 (by decide) (T : Int) (by omega) (by omega)
  simpa using this
theorem or_high (z m n : Nat) (hz : z < 2 ^ n) (h : m * 2 ^ n + z < 4294967296) : bits .or .u32 (z : Int) ((m * 2 ^ n : Nat) : Int) = ((m * 2 ^ n + z : Nat) : Int) := by
  rw [u32_or_nat _ _ (by omega) (by omega)]
  congr 1
  have := Nat.two_pow_add_eq_or_of_lt hz m
  rw [Nat.mul_comm] at this
  rw [Nat.or_comm]; exact this.symm
theorem or_low (z m n : Nat) (hz : z < 2 ^ n) (h : m * 2 ^ n + z < 4294967296) : bits .or .u32 ((m * 2 ^ n : Nat) : Int) (z : Int) = ((m * 2 ^ n + z : Nat) : Int) := by
  rw [u32_or_nat _ _ (by omega) (by omega)]
  congr 1
  have := Nat.two_pow_add_eq_or_of_lt hz m
  rw [Nat.mul_comm] at this
  exact this.symm

/-- A fact that the walk's simp doesn't look into. -/
structure Aside (p : Prop) : Prop where mk :: (out : p)

/-- `b` is `a`, grown: all that was there is as it was. -/
def Ext (a b : World) : Prop := Below a.heap.size a b
namespace Ext
theorem refl (a : World) : Ext a a := Below.refl _ _
theorem size {a b : World} (h : Ext a b) : a.heap.size ≤ b.heap.size := Below.size h
theorem trans {a b c : World} (h : Ext a b) (k : Ext b c) : Ext a c := Below.trans h (Below.mono k h.size)
theorem trans' {a b c : World} (k : Ext b c) (h : Ext a b) : Ext a c := h.trans k
theorem alloc {a b : World} (h : Ext a b) (o : Obj) : Ext a (b.alloc o) := Below.alloc h h.size o
theorem drew {a b : World} (h : Ext a b) : Ext a b.drew := Below.drew h
theorem drewN {a b : World} (h : Ext a b) (n : Nat) : Ext a (b.drewN n) := ⟨h.os, h.tape, h.output, h.size, h.block⟩
theorem set {a b : World} (h : Ext a b) {p : Addr} (hp : a.heap.size ≤ p.block) (v : Value) : Ext a (b.setCell p v) := Below.setCell h hp v
theorem grown {a b c : World} (h : Ext a b) {row : Option Nat} (hg : b.grownBy c row) (hr : ∀ k, row = some k → a.heap.size ≤ k) : Ext a c := Below.grown h hg h.size hr
theorem cell {a b : World} (h : Ext a b) {p : Addr} {v : Value} (hc : a.cell? p = some v) : b.cell? p = some v := (Below.cell h (World.block_lt_of_cell? a _ hc)).trans hc
theorem cells {a b : World} (h : Ext a b) : ∀ k o, k < a.heap.size → b.cell? ⟨k, o, none⟩ = a.cell? ⟨k, o, none⟩ := fun _ _ hk => Below.cell h hk
theorem frees {a b : World} (h : Ext a b) : ∀ k o, k < a.heap.size → b.frozen? ⟨k, o, none⟩ = a.frozen? ⟨k, o, none⟩ := fun _ _ hk => Below.frozen h hk
theorem of_drewN {a b : World} (h : ∃ n, b = a.drewN n) : Ext a b := by obtain ⟨n, rfl⟩ := h; exact (refl a).drewN n
end Ext

theorem add_plain (g j : Nat) : (⟨g, 0, none⟩ : Addr).add j = ⟨g, j, none⟩ := by unfold Addr.add; split <;> simp_all

/-- The cells from `A` on hold `cs`. -/
def Rd (w : World) (A : Option Addr) (cs : List Value) : Prop := ∀ j v, cs[j]? = some v → ∃ ad, A = some ad ∧ w.cell? (ad.add j) = some v
theorem Rd.cell1 {w : World} {ad : Addr} {cs : List Value} (h : Rd w (some ad) cs) (j : Nat) (v : Value) (hj : cs[j]? = some v) : w.cell? (ad.add j) = some v := by
  obtain ⟨ad', e, hc⟩ := h j v hj
  cases e
  exact hc
theorem Rd.ext {a b : World} {A : Option Addr} {cs : List Value} (h : Rd a A cs) (e : Ext a b) : Rd b A cs := fun j v hj => let ⟨ad, ha, hc⟩ := h j v hj; ⟨ad, ha, e.cell hc⟩

/-! Digits -/
def u32s (xs : List Nat) : List Value := xs.map fun (x : Nat) => .int .u32 (x : Int)
theorem u32s_get (xs : List Nat) (j : Nat) (h : j < xs.length) : (u32s xs)[j]? = some (.int .u32 (xs.getD j 0 : Nat)) := by
  simp [u32s, List.getElem?_eq_getElem h, List.getD_eq_getElem?_getD]

/-- Each is a digit, and they are not too many. -/
def Dg (xs : List Nat) : Prop := xs.length ≤ 1073741824 ∧ ∀ x ∈ xs, x < 4294967296
theorem Dg.get {xs : List Nat} (h : Dg xs) (j : Nat) : xs.getD j 0 < 4294967296 := by
  rw [List.getD_eq_getElem?_getD]
  rcases Nat.lt_or_ge j xs.length with hj | hj
  · rw [List.getElem?_eq_getElem hj]; exact h.2 _ (List.getElem_mem hj)
  · rw [List.getElem?_eq_none hj]; decide

/-- A slice that reads as digits. -/
def RV (w : World) (v : Value) (xs : List Nat) : Prop := ∃ A c, v = .slice A xs.length c ∧ xs.length ≤ c ∧ Dg xs ∧ Rd w A (u32s xs)
theorem RV.ext {a b : World} {v : Value} {xs : List Nat} (h : RV a v xs) (e : Ext a b) : RV b v xs := let ⟨A, c, h1, h2, h3, h4⟩ := h; ⟨A, c, h1, h2, h3, h4.ext e⟩
theorem RV.dg {a : World} {v : Value} {xs : List Nat} (h : RV a v xs) : Dg xs := let ⟨_, _, _, _, h3, _⟩ := h; h3
theorem Rd.at32 {w : World} {A : Option Addr} {xs : List Nat} (h : Rd w A (u32s xs)) (j : Nat) (hj : j < xs.length) : ∃ ad, A = some ad ∧ w.cell? (ad.add j) = some (.int .u32 (xs.getD j 0 : Nat)) := h j _ (u32s_get xs j hj)
theorem RV.at' {w : World} {A : Option Addr} {n c : Nat} {xs : List Nat} (h : RV w (.slice A n c) xs) (j : Nat) (hj : j < xs.length) : ∃ ad, A = some ad ∧ w.cell? (ad.add j) = some (.int .u32 (xs.getD j 0 : Nat)) := by
  obtain ⟨A', c', e, _, _, h4⟩ := h
  injection e with e1 e2 e3
  subst e1
  exact h4.at32 j hj
theorem RV.nil (w : World) : RV w (.slice none 0 0) [] := ⟨none, 0, rfl, Nat.le_refl _, ⟨by decide, by simp⟩, fun j v h => by simp [u32s] at h⟩

/-- A slice that the call owns: its block is `base` or later. -/
def OV (base : Nat) (w : World) (v : Value) (xs : List Nat) : Prop := Dg xs ∧ w.ownsRow base 89 1 v xs.length (u32s xs)
theorem OV.mono {b b' : Nat} {w : World} {v : Value} {xs : List Nat} (h : OV b w v xs) (hb : b' ≤ b) : OV b' w v xs := by
  refine ⟨h.1, h.2.1, ?_⟩
  rcases h.2.2 with h' | ⟨g, cap, cur, h1, h2, h3⟩
  · exact .inl h'
  · exact .inr ⟨g, cap, cur, h1, Nat.le_trans hb h2, h3⟩
theorem OV.kept {b : Nat} {w w' : World} {v : Value} {xs : List Nat} (h : OV b w v xs) (hk : ∀ g, b ≤ g → g < w.heap.size → w'.heap[g]? = w.heap[g]?) : OV b w' v xs := by
  refine ⟨h.1, h.2.1, ?_⟩
  rcases h.2.2 with h' | ⟨g, cap, cur, h1, h2, h3, h4⟩
  · exact .inl h'
  · exact .inr ⟨g, cap, cur, h1, h2, (hk g h2 (Array.getElem?_eq_some_iff.1 h3).1).trans h3, h4⟩
theorem OV.ext {b : Nat} {w w' : World} {v : Value} {xs : List Nat} (h : OV b w v xs) (e : Ext w w') : OV b w' v xs := h.kept fun g _ hg => e.block g hg
theorem OV.set {b : Nat} {w : World} {v : Value} {xs : List Nat} (h : OV b w v xs) {p : Addr} (hp : p.block < b) (u : Value) : OV b (w.setCell p u) v xs :=
  h.kept fun g hg _ => Below.heap_setCell _ _ _ _ (by omega)
theorem OV.form {b : Nat} {w : World} {v : Value} {xs : List Nat} (h : OV b w v xs) : ∃ A c, v = .slice A xs.length c ∧ xs.length ≤ c := by
  rcases h.2.2 with ⟨h1, h2⟩ | ⟨g, cap, cur, h1, _, _, h4, _⟩
  · exact ⟨none, 0, by rw [h2]; exact h1, by omega⟩
  · exact ⟨_, _, h1, h4⟩
theorem OV.rv {b : Nat} {w : World} {v : Value} {xs : List Nat} (h : OV b w v xs) : RV w v xs := by
  rcases h.2.2 with ⟨h1, h2⟩ | ⟨g, cap, cur, h1, h2, h3, h4, _⟩
  · have : xs = [] := List.eq_nil_of_length_eq_zero h2
    subst this; subst h1; exact RV.nil w
  · refine ⟨_, _, h1, h4, h.1, fun j v hj => ⟨_, rfl, h.2.cells (g := g) (by subst h1; rfl) j v hj⟩⟩
theorem OV.nil (b : Nat) (w : World) : OV b w (.slice none 0 0) [] := ⟨⟨by decide, by simp⟩, by simpa [u32s] using World.ownsRow_nil w b 89 1⟩
theorem OV.alloc {b : Nat} {w : World} {v : Value} {xs : List Nat} (h : OV b w v xs) (o : Obj) : OV b (w.alloc o) v xs := h.ext ((Ext.refl w).alloc o)

end Go.Proofs.YtcbaipnphepbeaaGreatDoor

namespace Go.Proofs.YtcbaipnphepbeaaGreatDoor

/-- The number of a list of digits. -/
def val : List Nat → Nat
  | [] => 0
  | x :: xs => x + 4294967296 * val xs

/-- The digits of a number. -/
def dig (n : Nat) : List Nat := if h : n = 0 then [] else (n % 4294967296) :: dig (n / 4294967296)
termination_by n
decreasing_by omega

theorem dig_zero : dig 0 = [] := by rw [dig]; simp
theorem dig_pos {n : Nat} (h : n ≠ 0) : dig n = (n % 4294967296) :: dig (n / 4294967296) := by rw [dig]; simp [h]

theorem val_dig (n : Nat) : val (dig n) = n := by
  induction n using Nat.strongRecOn with
  | _ n ih =>
    by_cases h : n = 0
    · subst h; rw [dig_zero]; rfl
    · rw [dig_pos h, val, ih (n / 4294967296) (by omega)]; omega

theorem dig_lt (n : Nat) : ∀ x ∈ dig n, x < 4294967296 := by
  induction n using Nat.strongRecOn with
  | _ n ih =>
    by_cases h : n = 0
    · subst h; rw [dig_zero]; simp
    · rw [dig_pos h]; intro x hx
      rcases List.mem_cons.1 hx with rfl | hx
      · omega
      · exact ih _ (by omega) x hx

/-- Digits, none of them too great. -/
def Ds (xs : List Nat) : Prop := ∀ x ∈ xs, x < 4294967296
theorem Ds.nil : Ds [] := by intro x h; cases h
theorem Ds.cons {x : Nat} {xs : List Nat} (hx : x < 4294967296) (h : Ds xs) : Ds (x :: xs) := by
  intro y hy; rcases List.mem_cons.1 hy with rfl | hy
  · exact hx
  · exact h y hy
theorem Ds.tail {x : Nat} {xs : List Nat} (h : Ds (x :: xs)) : Ds xs := fun y hy => h y (List.mem_cons_of_mem _ hy)
theorem Ds.head {x : Nat} {xs : List Nat} (h : Ds (x :: xs)) : x < 4294967296 := h x List.mem_cons_self
theorem Ds.append {xs ys : List Nat} (h : Ds xs) (k : Ds ys) : Ds (xs ++ ys) := fun x hx => (List.mem_append.1 hx).elim (h x) (k x)
theorem Ds.take {xs : List Nat} (h : Ds xs) (n : Nat) : Ds (xs.take n) := fun x hx => h x (List.mem_of_mem_take hx)
theorem Ds.drop {xs : List Nat} (h : Ds xs) (n : Nat) : Ds (xs.drop n) := fun x hx => h x (List.mem_of_mem_drop hx)
theorem Ds.set {xs : List Nat} (h : Ds xs) (i : Nat) {x : Nat} (hx : x < 4294967296) : Ds (xs.set i x) := fun y hy => (List.mem_or_eq_of_mem_set hy).elim (h y) (fun e => e ▸ hx)
theorem Ds.get {xs : List Nat} (h : Ds xs) (j : Nat) : xs.getD j 0 < 4294967296 := by
  rw [List.getD_eq_getElem?_getD]
  rcases Nat.lt_or_ge j xs.length with hj | hj
  · rw [List.getElem?_eq_getElem hj]; exact h _ (List.getElem_mem hj)
  · rw [List.getElem?_eq_none hj]; decide
theorem Ds.zeros (n : Nat) : Ds (List.replicate n 0) := by intro x hx; rw [(List.mem_replicate.1 hx).2]; decide
theorem ds_dig (n : Nat) : Ds (dig n) := dig_lt n

theorem val_append (xs ys : List Nat) : val (xs ++ ys) = val xs + 4294967296 ^ xs.length * val ys := by
  induction xs with
  | nil => simp [val]
  | cons x xs ih => simp only [List.cons_append, val, ih, List.length_cons, Nat.pow_succ, Nat.mul_add]; rw [← Nat.mul_assoc, Nat.mul_comm 4294967296 (4294967296 ^ xs.length)]; omega

theorem val_lt {xs : List Nat} (h : Ds xs) : val xs < 4294967296 ^ xs.length := by
  induction xs with
  | nil => decide
  | cons x xs ih =>
    have h1 := ih h.tail
    have h2 := h.head
    simp only [val, List.length_cons, Nat.pow_succ]
    omega

theorem val_zeros (n : Nat) : val (List.replicate n 0) = 0 := by
  induction n with
  | zero => rfl
  | succ n ih => simp [List.replicate_succ, val, ih]

/-- A list without a zero at its end. -/
def Nz (xs : List Nat) : Prop := xs ≠ [] → xs.getD (xs.length - 1) 0 ≠ 0
theorem Nz.nil : Nz [] := fun h => absurd rfl h
theorem Nz.tail {x : Nat} {xs : List Nat} (h : Nz (x :: xs)) : Nz xs := by
  intro hx
  have := h (by simp)
  cases xs with
  | nil => exact absurd rfl hx
  | cons y ys => simpa using this

theorem val_pos_of_nz {xs : List Nat} (h : Nz xs) (hx : xs ≠ []) : 0 < val xs := by
  induction xs with
  | nil => exact absurd rfl hx
  | cons x xs ih =>
    cases xs with
    | nil => have := h (by simp); simp at this; simp [val]; omega
    | cons y ys => have := ih h.tail (by simp); simp only [val] at this ⊢; omega

theorem dig_val {xs : List Nat} (hd : Ds xs) (hn : Nz xs) : dig (val xs) = xs := by
  induction xs with
  | nil => simp [val, dig_zero]
  | cons x xs ih =>
    have hp := val_pos_of_nz hn (by simp)
    have hx := hd.head
    rw [dig_pos (by omega)]
    simp only [val]
    rw [show (x + 4294967296 * val xs) % 4294967296 = x from by omega, show (x + 4294967296 * val xs) / 4294967296 = val xs from by omega, ih hd.tail hn.tail]

theorem nz_dig (n : Nat) : Nz (dig n) := by
  induction n using Nat.strongRecOn with
  | _ n ih =>
    by_cases h : n = 0
    · subst h; rw [dig_zero]; exact Nz.nil
    · rw [dig_pos h]
      intro _
      by_cases h2 : n / 4294967296 = 0
      · rw [h2, dig_zero]; simp; omega
      · have := ih (n / 4294967296) (by omega) (by rw [dig_pos h2]; simp)
        rw [dig_pos h2] at this ⊢
        simpa using this

theorem dig_length_le {n k : Nat} (h : n < 4294967296 ^ k) : (dig n).length ≤ k := by
  induction k generalizing n with
  | zero => have : n = 0 := by simpa using h
            subst this; simp [dig_zero]
  | succ k ih =>
    by_cases h0 : n = 0
    · subst h0; simp [dig_zero]
    · rw [dig_pos h0, List.length_cons]
      have : n / 4294967296 < 4294967296 ^ k := by rw [Nat.pow_succ] at h; omega
      have := ih this
      omega
theorem lt_of_dig_length {n k : Nat} (h : (dig n).length ≤ k) : n < 4294967296 ^ k := by
  have h1 := val_lt (ds_dig n)
  rw [val_dig] at h1
  exact Nat.lt_of_lt_of_le h1 (Nat.pow_le_pow_right (by decide) h)
theorem dig_length_iff {n k : Nat} : (dig n).length ≤ k ↔ n < 4294967296 ^ k := ⟨lt_of_dig_length, dig_length_le⟩
theorem dig_inj {a b : Nat} (h : dig a = dig b) : a = b := by rw [← val_dig a, h, val_dig]
theorem dig_nil_iff {n : Nat} : dig n = [] ↔ n = 0 := ⟨fun h => by have := val_dig n; rw [h] at this; exact this.symm, fun h => by subst h; exact dig_zero⟩

theorem getD_append_last (l : List Nat) (x d : Nat) : (l ++ [x]).getD l.length d = x := by simp
theorem val_concat (xs : List Nat) (x : Nat) : val (xs ++ [x]) = val xs + 4294967296 ^ xs.length * x := by rw [val_append]; simp [val]
theorem take_succ_get (xs : List Nat) (i : Nat) (h : i < xs.length) : xs.take (i + 1) = xs.take i ++ [xs.getD i 0] := by
  rw [List.take_succ_eq_append_getElem h]; simp [List.getD_eq_getElem?_getD, List.getElem?_eq_getElem h]
theorem val_take_succ (xs : List Nat) (i : Nat) (h : i < xs.length) : val (xs.take (i + 1)) = val (xs.take i) + 4294967296 ^ i * xs.getD i 0 := by
  rw [take_succ_get xs i h, val_concat]; simp [Nat.min_eq_left (Nat.le_of_lt h)]
theorem val_split (xs : List Nat) (i : Nat) (h : i ≤ xs.length) : val xs = val (xs.take i) + 4294967296 ^ i * val (xs.drop i) := by
  have := val_append (xs.take i) (xs.drop i)
  rw [List.take_append_drop] at this
  rw [this, List.length_take, Nat.min_eq_left h]

/-- Zeros at the end left out. -/
def trimTo (xs : List Nat) : Nat → List Nat
  | 0 => xs.take 0
  | n + 1 => if xs.getD n 0 = 0 then trimTo xs n else xs.take (n + 1)
theorem trimTo_dig {xs : List Nat} (hd : Ds xs) : ∀ n, n ≤ xs.length → trimTo xs n = dig (val (xs.take n))
  | 0, _ => by simp [trimTo, val, dig_zero]
  | n + 1, h => by
    simp only [trimTo]
    split
    · rename_i h0
      rw [trimTo_dig hd n (by omega), val_take_succ xs n (by omega), h0]; simp
    · rename_i h0
      rw [dig_val (hd.take _)]
      intro _
      rw [List.length_take, Nat.min_eq_left h, Nat.add_sub_cancel, take_succ_get xs n (by omega)]
      have : (xs.take n).length = n := by rw [List.length_take, Nat.min_eq_left (by omega)]
      conv => lhs; arg 2; rw [← this]
      rw [getD_append_last]
      exact h0
theorem val_take_all (xs : List Nat) : val (xs.take xs.length) = val xs := by rw [List.take_length]

theorem getD_ge {xs : List Nat} {i : Nat} (h : xs.length ≤ i) : xs.getD i 0 = 0 := by
  rw [List.getD_eq_getElem?_getD, List.getElem?_eq_none h]; rfl
theorem val_take_step (xs : List Nat) (i : Nat) : val (xs.take (i + 1)) = val (xs.take i) + 4294967296 ^ i * xs.getD i 0 := by
  rcases Nat.lt_or_ge i xs.length with h | h
  · exact val_take_succ xs i h
  · rw [getD_ge h, List.take_of_length_le h, List.take_of_length_le (by omega)]; simp
theorem val_take_ge {xs : List Nat} {n : Nat} (h : xs.length ≤ n) : val (xs.take n) = val xs := by rw [List.take_of_length_le h]

theorem val_set {xs : List Nat} {j : Nat} (d : Nat) (h : j < xs.length) : val (xs.set j d) + 4294967296 ^ j * xs.getD j 0 = val xs + 4294967296 ^ j * d := by
  induction xs generalizing j with
  | nil => simp at h
  | cons x xs ih =>
    cases j with
    | zero => simp [val]; omega
    | succ j =>
      have := ih (j := j) (by simpa using h)
      simp only [List.set_cons_succ, val, List.getD_cons_succ, Nat.pow_succ]
      have e : ∀ y, 4294967296 ^ j * 4294967296 * y = 4294967296 * (4294967296 ^ j * y) := fun y => by rw [Nat.mul_comm (4294967296 ^ j), Nat.mul_assoc]
      rw [e, e]
      omega
theorem getD_zero_of_val {xs : List Nat} {j : Nat} (h : val xs < 4294967296 ^ j) : xs.getD j 0 = 0 := by
  rcases Nat.lt_or_ge j xs.length with hj | hj
  · have h1 := val_set 0 hj
    rcases Nat.eq_zero_or_pos (xs.getD j 0) with h2 | h2
    · exact h2
    · have : 4294967296 ^ j * 1 ≤ 4294967296 ^ j * xs.getD j 0 := Nat.mul_le_mul_left _ h2
      omega
  · exact getD_ge hj
theorem getD_set_self {xs : List Nat} {j d : Nat} (h : j < xs.length) : (xs.set j d).getD j 0 = d := by simp [List.getD_eq_getElem?_getD, h]
theorem getD_set_ne {xs : List Nat} {i j d : Nat} (h : i ≠ j) : (xs.set i d).getD j 0 = xs.getD j 0 := by simp [List.getD_eq_getElem?_getD, List.getElem?_set_ne h]
theorem getD_le_of_val {xs : List Nat} {j B : Nat} (h : val xs < 4294967296 ^ j * B) : xs.getD j 0 < B := by
  rcases Nat.lt_or_ge j xs.length with hj | hj
  · have h1 := val_set 0 hj
    have h2 : 4294967296 ^ j * xs.getD j 0 < 4294967296 ^ j * B := by omega
    exact Nat.lt_of_mul_lt_mul_left h2
  · rw [getD_ge hj]
    rcases Nat.eq_zero_or_pos B with hB | hB
    · subst hB; simp at h
    · exact hB
theorem pow_split (n : Nat) (h : n ≤ 32) : 2 ^ (32 - n) * 2 ^ n = 4294967296 := by rw [← Nat.pow_add]; rw [show 32 - n + n = 32 from by omega]
/-- One digit of what is taken: `c` is carried, `l` is borrowed, `z` the product of digits, `lo` its lower half with what is carried. -/
theorem take_step {X X' W U P u u' c c' l l' z lo : Nat} (h : X + W = U + P * (c + l)) (hv : X' + P * u = X + P * u') (hT : c + z = lo + 4294967296 * c') (hu : u' + lo + l = u + 4294967296 * l') :
    X' + (W + P * z) = U + P * 4294967296 * (c' + l') := by
  have h1 : P * (c + z) = P * lo + P * 4294967296 * c' := by rw [hT, Nat.mul_add, Nat.mul_assoc]
  have h2 : P * (u' + lo + l) = P * u + P * 4294967296 * l' := by rw [hu, Nat.mul_add, Nat.mul_assoc]
  simp only [Nat.mul_add] at h1 h2 h ⊢
  omega
/-- One digit of what is given back. -/
theorem give_step {X X' W U P u u' v c c' : Nat} (h : X + P * c = U + W) (hv : X' + P * u = X + P * u') (hT : c + (u + v) = u' + 4294967296 * c') :
    X' + P * 4294967296 * c' = U + (W + P * v) := by
  have h1 : P * (c + (u + v)) = P * u' + P * 4294967296 * c' := by rw [hT, Nat.mul_add, Nat.mul_assoc]
  simp only [Nat.mul_add] at h1
  omega
theorem take_set_below (xs : List Nat) (i j d : Nat) (h : i ≤ j) : (xs.set j d).take i = xs.take i := by rw [List.take_set_of_le h]
theorem drop_set_above {xs ys : List Nat} {j : Nat} (d : Nat) (h : xs.drop j = ys.drop j) : (xs.set j d).drop (j + 1) = ys.drop (j + 1) := by
  have h1 : (xs.set j d).drop (j + 1) = xs.drop (j + 1) := by rw [List.drop_set]; simp
  rw [h1, ← List.drop_drop, h, List.drop_drop]

/-- One digit of a difference: `c` and `e` are what is borrowed. -/
theorem dif_step {X Y Z P a b c d e : Nat} (h : X + P * c = Z + Y) (hs : a + 4294967296 * e = d + b + c) :
    (X + P * a) + (P * 4294967296) * e = (Z + P * d) + (Y + P * b) := by
  have h1 : P * (a + 4294967296 * e) = P * (d + b + c) := by rw [hs]
  simp only [Nat.mul_add, ← Nat.mul_assoc] at h1
  omega
end Go.Proofs.YtcbaipnphepbeaaGreatDoor

namespace Go.Proofs.YtcbaipnphepbeaaGreatDoor
open Go.RowKit

theorem Tryz.info_u32 : (Tryz.prog.info? 89).map (fun i => (i.zero, i.size, i.bytes)) = some (some (.int .u32 0), 1, 4) := by kernel_rfl

theorem Dg.ds {xs : List Nat} (h : Dg xs) : Ds xs := h.2
theorem OV.take {b : Nat} {w : World} {n c : Nat} {A} {xs : List Nat} (h : OV b w (.slice A n c) xs) (k : Nat) (hk : k ≤ xs.length) : OV b w (.slice A k c) (xs.take k) := by
  have hd := h.1
  refine ⟨⟨by have := hd.1; simp; omega, (Ds.take hd.2 k)⟩, by simp [u32s], ?_⟩
  have hl : (xs.take k).length = k := by simp; omega
  rcases h.2.2 with ⟨h1, h2⟩ | ⟨g, cap, cur, h1, h2, h3, h4, h5, h6, h7⟩
  · injection h1 with h1 h1' h1''
    have : k = 0 := by omega
    subst this
    exact .inl ⟨by rw [h1, h1''], by simp⟩
  · injection h1 with h1 h1' h1''
    subst h1 h1''
    refine .inr ⟨g, c, cur, by rw [hl], h2, h3, by omega, h5, h6, ?_⟩
    simp only [hl, Nat.mul_one] at h7 ⊢
    rw [show u32s (xs.take k) = (u32s xs).take k from by simp [u32s, List.map_take], ← h7, List.take_take]
    simp; omega

theorem OV.ext_grown {w0 W w1 : World} {b : Nat} {v : Value} {xs : List Nat} (HO : OV b W v xs) (hE : Ext w0 W) (hb : w0.heap.size ≤ b) (hg : W.grownBy w1 v.ownBlock) : Ext w0 w1 :=
  hE.grown hg fun k hk => Nat.le_trans hb (HO.2.lt k hk).1
theorem OV.other {W w1 : World} {b : Nat} {v : Value} {xs : List Nat} (HO : OV b W v xs) {row : Option Nat} (hg : W.grownBy w1 row) (hne : v.ownBlock = none ∨ v.ownBlock ≠ row) : OV b w1 v xs := ⟨HO.1, HO.2.kept hg hne⟩

section
variable {ops : Array Oper} {rest : List Oper} {o : Oper} {a : Act} {Q : Exit → Act → World → Prop}

/-- `append(v, y)` -/
theorem append_u32 {W : World} (base : Nat) (hgd : o.guard = none) (s x : Operand)
    (ho : o.op = .call { callee := .builtin .append, args := #[s, x], argTypes := #[81, 81] })
    (v : Value) (xs : List Nat) (y : Nat) (z : Int) (hz : z = (y : Int)) (HO : OV base W v xs) (hs : a.eval s = v) (hx : a.eval x = .slice (some ⟨W.heap.size, 0, none⟩) 1 1)
    (hy : y < 4294967296) (hbase : base ≤ W.heap.size) (hl : xs.length < 1073741824)
    (h : ∀ v1 w1, OV base w1 v1 (xs ++ [y]) → W.grownBy w1 v.ownBlock → wpList Tryz.prog ops Q rest (a.put o.dst v1) w1) :
    wpList Tryz.prog ops Q (o :: rest) a (W.alloc (.cells #[.int .u32 z] 89)) := by
  subst hz
  obtain ⟨i0, hi, hz0, hz1, hz2⟩ := info_parts Tryz.info_u32
  refine wpList_append_own_at (W.alloc (.cells #[.int .u32 y] 89)) hgd s x 81 ho base 89 i0 (.int .u32 0) 1 4 Tryz.underlying81 hi hz0 hz1 hz2 rfl (by omega) v xs.length (u32s xs) hs (HO.2.alloc _) ⟨W.heap.size, 0, none⟩ 1 1 [.int .u32 y] hx rfl
    (World.news_of_block (cs := #[.int .u32 y]) (t := 89) (fr := (0, 0)) (heap_alloc_new W _)) (by simp [Value.oneCell']) (by simp only [maxLen]; omega) (by omega) (by simp; omega) ?_
  intro v1 w1 hown hg _ _
  have hg' := World.grownBy.trans (World.grownBy_alloc W _ v.ownBlock) hg
  refine h v1 w1 ⟨⟨by simp; omega, Ds.append HO.1.2 (Ds.cons hy Ds.nil)⟩, ?_⟩ hg'
  have e1 : (xs ++ [y]).length = xs.length + 1 := by simp
  have e2 : u32s (xs ++ [y]) = u32s xs ++ [.int .u32 y] := by simp [u32s]
  rw [e1, e2]; exact hown

/-- `append(v, ys...)` -/
theorem append_row_u32 {W : World} (base : Nat) (hgd : o.guard = none) (s x : Operand)
    (ho : o.op = .call { callee := .builtin .append, args := #[s, x], argTypes := #[81, 81] })
    (v : Value) (xs ys : List Nat) (ad : Addr) (m c : Nat) (HO : OV base W v xs) (HR : RV W (.slice (some ad) m c) ys) (hs : a.eval s = v) (hx : a.eval x = .slice (some ad) m c)
    (hbase : base ≤ W.heap.size) (hl : xs.length + ys.length ≤ 1073741824)
    (h : ∀ v1 w1, OV base w1 v1 (xs ++ ys) → W.grownBy w1 v.ownBlock → wpList Tryz.prog ops Q rest (a.put o.dst v1) w1) :
    wpList Tryz.prog ops Q (o :: rest) a W := by
  obtain ⟨i0, hi, hz0, hz1, hz2⟩ := info_parts Tryz.info_u32
  obtain ⟨A', c', e, _, hd, hr⟩ := HR
  injection e with e1 e2 e3
  subst e1 e2
  refine wpList_append_own_at W hgd s x 81 ho base 89 i0 (.int .u32 0) 1 4 Tryz.underlying81 hi hz0 hz1 hz2 rfl (by omega) v xs.length (u32s xs) hs HO.2 ad ys.length c (u32s ys) hx (by simp [u32s])
    (Rd.cell1 hr) (by intro u hu; simp only [u32s, List.mem_map] at hu; obtain ⟨x, _, rfl⟩ := hu; rfl) (by simp only [maxLen]; omega) (by omega) hbase ?_
  intro v1 w1 hown hg _ _
  refine h v1 w1 ⟨⟨by simp; omega, Ds.append HO.1.2 hd.2⟩, ?_⟩ hg
  have e1 : (xs ++ ys).length = xs.length + ys.length := by simp
  have e2 : u32s (xs ++ ys) = u32s xs ++ u32s ys := by simp [u32s]
  rw [e1, e2]; exact hown

/-- `make([]uint32, n)` -/
theorem make_u32 (w : World) (hg : o.guard = none) (l c : Operand) (hop : o.op = Op.makeSlice 81 l c) (n : Nat) (L C : Int)
    (hl : a.eval l = .int .i64 L) (hc : a.eval c = .int .i64 C) (hL : L = (n : Int)) (hC : C = (n : Int)) (hn : n ≤ 1073741824)
    (hK : ∀ w' v, OV w.heap.size w' v (List.replicate n 0) → Ext w w' → v = .slice (some ⟨w.heap.size, 0, none⟩) n n → wpList Tryz.prog ops Q rest (a.put o.dst v) w') :
    wpList Tryz.prog ops Q (o :: rest) a w := by
  obtain ⟨i0, hi, hz0, hz1, hz2⟩ := info_parts Tryz.info_u32
  refine wpList_make_full w hg l c 81 hop w.heap.size 89 i0 (.int .u32 0) 1 Tryz.underlying81 hi hz0 hz1 .i64 .i64 L C n hl hc hL hC (by rw [hz2]; omega) (by simp only [maxLen]; omega) (Nat.le_refl _) ?_
  intro w' ho hgr
  refine hK w' _ ⟨⟨by simp; omega, Ds.zeros n⟩, ?_⟩ ((Ext.refl w).grown hgr (by simp)) rfl
  have e : (madeCells (Value.int IntKind.u32 0).cells (n * 1)).toList = u32s (List.replicate n 0) := by
    apply List.ext_getElem
    · simp [u32s, madeCells]
    · intro i h1 h2
      simp [u32s, madeCells, Value.cells, Nat.mod_one]
  rw [e] at ho
  simpa using ho

end

/-- A row that is owned: where it lies, what its cells hold, and what a store makes of it. -/
theorem OV.row {b : Nat} {w : World} {v : Value} {xs : List Nat} (h : OV b w v xs) (hn : 0 < xs.length) :
    ∃ g c, v = .slice (some ⟨g, 0, none⟩) xs.length c ∧ b ≤ g ∧ g < w.heap.size ∧ xs.length ≤ c ∧ v.ownBlock = some g := by
  rcases h.2.2 with ⟨_, h2⟩ | ⟨g, cap, cur, h1, h2, h3, h4, _⟩
  · omega
  · exact ⟨g, cap, h1, h2, (Array.getElem?_eq_some_iff.1 h3).1, h4, by subst h1; rfl⟩
theorem OV.cell {b : Nat} {w : World} {g n c : Nat} {xs : List Nat} (h : OV b w (.slice (some ⟨g, 0, none⟩) n c) xs) (j : Nat) (hj : j < xs.length) : w.cell? ⟨g, j, none⟩ = some (.int .u32 ((xs.getD j 0 : Nat) : Int)) := by
  have := h.2.cells (g := g) rfl j _ (u32s_get xs j hj)
  rwa [add_plain] at this
theorem OV.free {b : Nat} {w : World} {g n c : Nat} {xs : List Nat} (h : OV b w (.slice (some ⟨g, 0, none⟩) n c) xs) (j : Nat) : w.frozen? ⟨g, j, none⟩ = false := by
  rcases h.2.2 with ⟨h', _⟩ | ⟨g', cap', cur, h', _, hh, _⟩
  · cases h'
  · injection h' with h'; injection h' with h'; injection h' with h'
    subst h'
    simp [World.frozen?, hh]
theorem OV.store {b : Nat} {w : World} {g n c : Nat} {xs : List Nat} (h : OV b w (.slice (some ⟨g, 0, none⟩) n c) xs) (j : Nat) {x : Nat} (hx : x < 4294967296) :
    OV b (w.setCell ⟨g, j, none⟩ (.int .u32 (x : Int))) (.slice (some ⟨g, 0, none⟩) n c) (xs.set j x) := by
  have hn : n = xs.length := by
    rcases h.2.2 with ⟨h', _⟩ | ⟨g', cap', cur, h', _⟩
    · cases h'
    · injection h'
  subst hn
  have hs := (h.2.stored j (.int .u32 x)).1
  refine ⟨⟨by simp; exact h.1.1, Ds.set h.1.2 j hx⟩, ?_⟩
  have e : u32s (xs.set j x) = (u32s xs).set j (.int .u32 x) := by simp [u32s, List.map_set]
  rw [e]; simpa using hs

theorem OV.lit (w : World) (xs : List Nat) (hl : xs.length ≤ 1073741824) (hd : Ds xs) :
    OV w.heap.size (w.alloc (.cells (u32s xs).toArray 89)) (.slice (some ⟨w.heap.size, 0, none⟩) xs.length xs.length) xs := by
  have h := World.ownsRow_lit (base := w.heap.size) (e := 89) (size := 1) w (u32s xs).toArray xs.length (Nat.le_refl _) (by simp only [maxLen]; omega) (by simp [u32s])
  exact ⟨⟨hl, hd⟩, by simpa using h⟩

set_option maxHeartbeats 400000 in
/-- slices.Clone of digits. -/
theorem clone_calls {w : World} {u : Value} {xs : List Nat} (hu : RV w u xs) :
    Calls Tryz.prog 129 #[u] w fun e w' => ∃ r, e = .returned r ∧ OV w.heap.size w' r xs ∧ Ext w w' := by
  obtain ⟨A, c, rfl, hc, hd, hr⟩ := id hu
  have HU := Aside.mk hu
  have hl : xs.length ≤ 1073741824 := hd.1
  cases A with
  | none =>
    have hx : xs = [] := by
      cases xs with
      | nil => rfl
      | cons x xs => obtain ⟨ad, e, _⟩ := hr 0 _ (u32s_get (x :: xs) 0 (by simp)); cases e
    subst hx
    clear hu hd hr
    have he : ∀ W : World, (binOp .eql 81 (.slice none (0 : Nat) c) (.slice none 0 0)).run Tryz.prog W = .ok (.bool true) W := fun W => by simpa using Lib.run_eql_slice_nil (P := Tryz.prog) W 81 89 none 0 c 0 0 Tryz.underlying81
    go_enter Tryz.func129, Tryz.ntmps129
    go_wp2
    go_ret
    exact ⟨.slice none 0 0, rfl, OV.nil _ _, Ext.refl _⟩
  | some ad =>
    clear hu hd hr
    have h0 : OV w.heap.size (w.alloc (.cells #[] 89)) (.slice (some ⟨w.heap.size, 0, none⟩) 0 0) [] := OV.lit w [] (by simp) Ds.nil
    have H0 := Aside.mk h0
    have he : ∀ W : World, (binOp .eql 81 (.slice (some ad) xs.length c) (.slice none 0 0)).run Tryz.prog W = .ok (.bool false) W := fun W => by simpa using Lib.run_eql_slice_nil (P := Tryz.prog) W 81 89 (some ad) xs.length c 0 0 Tryz.underlying81
    clear h0
    go_enter Tryz.func129, Tryz.ntmps129
    go_wp2_with (at_builtin; (refine append_row_u32 w.heap.size rfl _ _ rfl _ [] xs ad xs.length c H0.out (HU.out.ext ((Ext.refl _).alloc _)) rfl rfl (by simp) (by simpa using hl) ?_; intro v1 w1 ho hg; have HO := Aside.mk ho; have HB := Aside.mk (H0.out.ext_grown ((Ext.refl w).alloc _) (Nat.le_refl _) hg); clear ho hg))
    go_ret
    exact ⟨v1, rfl, HO.out, HB.out⟩
end Go.Proofs.YtcbaipnphepbeaaGreatDoor
