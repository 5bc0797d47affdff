/- Words that the walks of this claim use: worlds that only grow, slices that read as lists of digits, rows that a call owns. -/
import Derived.WalkKit
import Derived.Deep.QuietTactic
import Derived.BigQuiet
import Derived.KernelRfl
import Derived.Laws.MakeOwn
import Derived.Laws.OwnMore
import Derived.OwnWalk
namespace Go.Proofs.YtgfkachfbnbikaaGreatDoor
open Go.RowKit

@[go_sem] theorem run_max_int (ats : Array TypeId) (ty : TypeId) (k : IntKind) (a b : Int) : Builtin.max_ ats ty #[.int k a, .int k b] = pure (.int k (max a b)) := by
  simp only [Builtin.max_, List.foldlM_cons, List.foldlM_nil, Builtin.max2, gt_iff_lt, bind_pure, Int.max_def]
  congr 2
  split <;> split <;> omega
@[go_sem] theorem run_min_int (ats : Array TypeId) (ty : TypeId) (k : IntKind) (a b : Int) : Builtin.min_ ats ty #[.int k a, .int k b] = pure (.int k (min a b)) := by
  simp only [Builtin.min_, List.foldlM_cons, List.foldlM_nil, Builtin.min2, bind_pure, Int.min_def]
  congr 2
  split <;> split <;> omega

theorem wrap_u64 (a : Int) : IntKind.u64.wrap a = a % 18446744073709551616 := by simp [IntKind.wrap, IntKind.signed, IntKind.bits]
theorem wrap_u32 (a : Int) : IntKind.u32.wrap a = a % 4294967296 := by simp [IntKind.wrap, IntKind.signed, IntKind.bits]
theorem wrap_i64 (a : Int) (h : -9223372036854775808 ≤ a) (h' : a ≤ 9223372036854775807) : IntKind.i64.wrap a = a := by simp [IntKind.wrap, IntKind.signed, IntKind.bits]; omega

theorem drewN3 (w : World) (a b c : Nat) : ∃ n, ((w.drewN a).drewN b).drewN c = w.drewN n := ⟨_, by rw [World.drewN_drewN, World.drewN_drewN]⟩
theorem or_shift32 (r x : Nat) (hr : r < 4294967296) (hx : x < 4294967296) : bits .or .u64 ((r : Int) * 4294967296) (x : Int) = ((r * 4294967296 + x : Nat) : Int) := by
  have e : ((r : Int) * 4294967296) = ((r * 4294967296 : Nat) : Int) := by omega
  rw [e, u64_or_nat _ _ (by omega) (by omega)]
  congr 1
  have := Nat.two_pow_add_eq_or_of_lt (i := 32) (b := x) (by omega) r
  rw [Nat.mul_comm] at this
  exact this.symm

theorem and_mask32 (T : Nat) (hT : T < 18446744073709551616) : bits .and .u64 (T : Int) 4294967295 = ((T % 4294967296 : Nat) : Int) := by
  have := bits_mask .u64 64 (by decide) (fun n h0 h1 => by rw [wrap_u64]; omega) 32 (by decide) (T : Int) (by omega) (by omega)
  simpa using this
theorem or_high (z m n : Nat) (hz : z < 2 ^ n) (h : m * 2 ^ n + z < 4294967296) : bits .or .u32 (z : Int) ((m * 2 ^ n : Nat) : Int) = ((m * 2 ^ n + z : Nat) : Int) := by
  rw [u32_or_nat _ _ (by omega) (by omega)]
  congr 1
  have := Nat.two_pow_add_eq_or_of_lt hz m
  rw [Nat.mul_comm] at this
  rw [Nat.or_comm]; exact this.symm
theorem or_low (z m n : Nat) (hz : z < 2 ^ n) (h : m * 2 ^ n + z < 4294967296) : bits .or .u32 ((m * 2 ^ n : Nat) : Int) (z : Int) = ((m * 2 ^ n + z : Nat) : Int) := by
  rw [u32_or_nat _ _ (by omega) (by omega)]
  congr 1
  have := Nat.two_pow_add_eq_or_of_lt hz m
  rw [Nat.mul_comm] at this
  exact this.symm

/-- A fact that the walk's simp doesn't look into. -/
structure Aside (p : Prop) : Prop where mk :: (out : p)

/-- `b` is `a`, grown: all that was there is as it was. -/
def Ext (a b : World) : Prop := Below a.heap.size a b
namespace Ext
theorem refl (a : World) : Ext a a := Below.refl _ _
theorem size {a b : World} (h : Ext a b) : a.heap.size ≤ b.heap.size := Below.size h
theorem trans {a b c : World} (h : Ext a b) (k : Ext b c) : Ext a c := Below.trans h (Below.mono k h.size)
theorem trans' {a b c : World} (k : Ext b c) (h : Ext a b) : Ext a c := h.trans k
theorem alloc {a b : World} (h : Ext a b) (o : Obj) : Ext a (b.alloc o) := Below.alloc h h.size o
theorem drew {a b : World} (h : Ext a b) : Ext a b.drew := Below.drew h
theorem drewN {a b : World} (h : Ext a b) (n : Nat) : Ext a (b.drewN n) := ⟨h.os, h.tape, h.output, h.size, h.block⟩
theorem set {a b : World} (h : Ext a b) {p : Addr} (hp : a.heap.size ≤ p.block) (v : Value) : Ext a (b.setCell p v) := Below.setCell h hp v
theorem grown {a b c : World} (h : Ext a b) {row : Option Nat} (hg : b.grownBy c row) (hr : ∀ k, row = some k → a.heap.size ≤ k) : Ext a c := Below.grown h hg h.size hr
theorem cell {a b : World} (h : Ext a b) {p : Addr} {v : Value} (hc : a.cell? p = some v) : b.cell? p = some v := (Below.cell h (World.block_lt_of_cell? a _ hc)).trans hc
theorem cells {a b : World} (h : Ext a b) : ∀ k o, k < a.heap.size → b.cell? ⟨k, o, none⟩ = a.cell? ⟨k, o, none⟩ := fun _ _ hk => Below.cell h hk
theorem frees {a b : World} (h : Ext a b) : ∀ k o, k < a.heap.size → b.frozen? ⟨k, o, none⟩ = a.frozen? ⟨k, o, none⟩ := fun _ _ hk => Below.frozen h hk
theorem of_drewN {a b : World} (h : ∃ n, b = a.drewN n) : Ext a b := by obtain ⟨n, rfl⟩ := h; exact (refl a).drewN n
end Ext

theorem add_plain (g j : Nat) : (⟨g, 0, none⟩ : Addr).add j = ⟨g, j, none⟩ := by unfold Addr.add; split <;> simp_all

/-- The cells from `A` on hold `cs`. -/
def Rd (w : World) (A : Option Addr) (cs : List Value) : Prop := ∀ j v, cs[j]? = some v → ∃ ad, A = some ad ∧ w.cell? (ad.add j) = some v
theorem Rd.cell1 {w : World} {ad : Addr} {cs : List Value} (h : Rd w (some ad) cs) (j : Nat) (v : Value) (hj : cs[j]? = some v) : w.cell? (ad.add j) = some v := by
  obtain ⟨ad', e, hc⟩ := h j v hj
  cases e
  exact hc
theorem Rd.ext {a b : World} {A : Option Addr} {cs : List Value} (h : Rd a A cs) (e : Ext a b) : Rd b A cs := fun j v hj => let ⟨ad, ha, hc⟩ := h j v hj; ⟨ad, ha, e.cell hc⟩

/-! Digits -/
def u32s (xs : List Nat) : List Value := xs.map fun (x : Nat) => .int .u32 (x : Int)
theorem u32s_length (xs : List Nat) : (u32s xs).length = xs.length := by simp [u32s]
theorem u32s_get (xs : List Nat) (j : Nat) (h : j < xs.length) : (u32s xs)[j]? = some (.int .u32 (xs.getD j 0 : Nat)) := by
  simp [u32s, List.getElem?_eq_getElem h, List.getD_eq_getElem?_getD]

/-- Each is a digit, and they are not too many. -/
def Dg (xs : List Nat) : Prop := xs.length ≤ 1073741824 ∧ ∀ x ∈ xs, x < 4294967296
theorem Dg.get {xs : List Nat} (h : Dg xs) (j : Nat) : xs.getD j 0 < 4294967296 := by
  rw [List.getD_eq_getElem?_getD]
  rcases Nat.lt_or_ge j xs.length with hj | hj
  · rw [List.getElem?_eq_getElem hj]; exact h.2 _ (List.getElem_mem hj)
  · rw [List.getElem?_eq_none hj]; decide

/-- A slice that reads as digits. -/
def RV (w : World) (v : Value) (xs : List Nat) : Prop := ∃ A c, v = .slice A xs.length c ∧ xs.length ≤ c ∧ Dg xs ∧ Rd w A (u32s xs)
theorem RV.ext {a b : World} {v : Value} {xs : List Nat} (h : RV a v xs) (e : Ext a b) : RV b v xs := let ⟨A, c, h1, h2, h3, h4⟩ := h; ⟨A, c, h1, h2, h3, h4.ext e⟩
theorem RV.dg {a : World} {v : Value} {xs : List Nat} (h : RV a v xs) : Dg xs := let ⟨_, _, _, _, h3, _⟩ := h; h3
theorem Rd.at32 {w : World} {A : Option Addr} {xs : List Nat} (h : Rd w A (u32s xs)) (j : Nat) (hj : j < xs.length) : ∃ ad, A = some ad ∧ w.cell? (ad.add j) = some (.int .u32 (xs.getD j 0 : Nat)) := h j _ (u32s_get xs j hj)
theorem RV.at' {w : World} {A : Option Addr} {n c : Nat} {xs : List Nat} (h : RV w (.slice A n c) xs) (j : Nat) (hj : j < xs.length) : ∃ ad, A = some ad ∧ w.cell? (ad.add j) = some (.int .u32 (xs.getD j 0 : Nat)) := by
  obtain ⟨A', c', e, _, _, h4⟩ := h
  injection e with e1 e2 e3
  subst e1
  exact h4.at32 j hj
theorem RV.nil (w : World) : RV w (.slice none 0 0) [] := ⟨none, 0, rfl, Nat.le_refl _, ⟨by decide, by simp⟩, fun j v h => by simp [u32s] at h⟩

/-- A slice that the call owns: its block is `base` or later. -/
def OV (base : Nat) (w : World) (v : Value) (xs : List Nat) : Prop := Dg xs ∧ w.ownsRow base 46 1 v xs.length (u32s xs)
theorem OV.mono {b b' : Nat} {w : World} {v : Value} {xs : List Nat} (h : OV b w v xs) (hb : b' ≤ b) : OV b' w v xs := by
  refine ⟨h.1, h.2.1, ?_⟩
  rcases h.2.2 with h' | ⟨g, cap, cur, h1, h2, h3⟩
  · exact .inl h'
  · exact .inr ⟨g, cap, cur, h1, Nat.le_trans hb h2, h3⟩
theorem OV.kept {b : Nat} {w w' : World} {v : Value} {xs : List Nat} (h : OV b w v xs) (hk : ∀ g, b ≤ g → g < w.heap.size → w'.heap[g]? = w.heap[g]?) : OV b w' v xs := by
  refine ⟨h.1, h.2.1, ?_⟩
  rcases h.2.2 with h' | ⟨g, cap, cur, h1, h2, h3, h4⟩
  · exact .inl h'
  · exact .inr ⟨g, cap, cur, h1, h2, (hk g h2 (Array.getElem?_eq_some_iff.1 h3).1).trans h3, h4⟩
theorem OV.ext {b : Nat} {w w' : World} {v : Value} {xs : List Nat} (h : OV b w v xs) (e : Ext w w') : OV b w' v xs := h.kept fun g _ hg => e.block g hg
theorem OV.set {b : Nat} {w : World} {v : Value} {xs : List Nat} (h : OV b w v xs) {p : Addr} (hp : p.block < b) (u : Value) : OV b (w.setCell p u) v xs :=
  h.kept fun g hg _ => Below.heap_setCell _ _ _ _ (by omega)
theorem OV.form {b : Nat} {w : World} {v : Value} {xs : List Nat} (h : OV b w v xs) : ∃ A c, v = .slice A xs.length c ∧ xs.length ≤ c := by
  rcases h.2.2 with ⟨h1, h2⟩ | ⟨g, cap, cur, h1, _, _, h4, _⟩
  · exact ⟨none, 0, by rw [h2]; exact h1, by omega⟩
  · exact ⟨_, _, h1, h4⟩
theorem OV.rv {b : Nat} {w : World} {v : Value} {xs : List Nat} (h : OV b w v xs) : RV w v xs := by
  rcases h.2.2 with ⟨h1, h2⟩ | ⟨g, cap, cur, h1, h2, h3, h4, _⟩
  · have : xs = [] := List.eq_nil_of_length_eq_zero h2
    subst this; subst h1; exact RV.nil w
  · refine ⟨_, _, h1, h4, h.1, fun j v hj => ⟨_, rfl, h.2.cells (g := g) (by subst h1; rfl) j v hj⟩⟩
theorem OV.nil (b : Nat) (w : World) : OV b w (.slice none 0 0) [] := ⟨⟨by decide, by simp⟩, by simpa [u32s] using World.ownsRow_nil w b 46 1⟩
theorem OV.alloc {b : Nat} {w : World} {v : Value} {xs : List Nat} (h : OV b w v xs) (o : Obj) : OV b (w.alloc o) v xs := h.ext ((Ext.refl w).alloc o)

end Go.Proofs.YtgfkachfbnbikaaGreatDoor
