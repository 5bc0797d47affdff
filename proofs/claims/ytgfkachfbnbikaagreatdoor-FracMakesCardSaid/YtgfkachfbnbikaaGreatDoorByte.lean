/- Rows of bytes that the call owns: append, store, and the string made of them. -/
import Derived.Test.YtgfkachfbnbikaaGreatDoorLaw
import Derived.Test.YtgfkachfbnbikaaGreatDoorDec
import Derived.Laws.IdiomStrings
namespace Go.Proofs.YtgfkachfbnbikaaGreatDoor
open Go.RowKit

theorem Tryz.info_u8 : (Tryz.prog.info? 5).map (fun i => (i.zero, i.size, i.bytes)) = some (some (.int .u8 0), 1, 1) := by kernel_rfl

def u8s (xs : List Nat) : List Value := xs.map fun (x : Nat) => .int .u8 (x : Int)
theorem u8s_length (xs : List Nat) : (u8s xs).length = xs.length := by simp [u8s]
theorem u8s_get (xs : List Nat) (j : Nat) (h : j < xs.length) : (u8s xs)[j]? = some (.int .u8 (xs.getD j 0 : Nat)) := by
  simp [u8s, List.getElem?_eq_getElem h, List.getD_eq_getElem?_getD]
/-- Each is a byte, and they are not too many. -/
def Db (xs : List Nat) : Prop := xs.length ≤ 1073741824 ∧ ∀ x ∈ xs, x < 256
/-- A row of bytes that the call owns. -/
def OB (base : Nat) (w : World) (v : Value) (xs : List Nat) : Prop := Db xs ∧ w.ownsRow base 5 1 v xs.length (u8s xs)
theorem OB.kept {b : Nat} {w w' : World} {v : Value} {xs : List Nat} (h : OB b w v xs) (hk : ∀ g, b ≤ g → g < w.heap.size → w'.heap[g]? = w.heap[g]?) : OB b w' v xs := by
  refine ⟨h.1, h.2.1, ?_⟩
  rcases h.2.2 with h' | ⟨g, cap, cur, h1, h2, h3, h4⟩
  · exact .inl h'
  · exact .inr ⟨g, cap, cur, h1, h2, (hk g h2 (Array.getElem?_eq_some_iff.1 h3).1).trans h3, h4⟩
theorem OB.ext {b : Nat} {w w' : World} {v : Value} {xs : List Nat} (h : OB b w v xs) (e : Ext w w') : OB b w' v xs := h.kept fun g _ hg => e.block g hg
theorem OB.mono {b b' : Nat} {w : World} {v : Value} {xs : List Nat} (h : OB b w v xs) (hb : b' ≤ b) : OB b' w v xs := by
  refine ⟨h.1, h.2.1, ?_⟩
  rcases h.2.2 with h' | ⟨g, cap, cur, h1, h2, h3⟩
  · exact .inl h'
  · exact .inr ⟨g, cap, cur, h1, Nat.le_trans hb h2, h3⟩
theorem OB.form {b : Nat} {w : World} {v : Value} {xs : List Nat} (h : OB b w v xs) : ∃ A c, v = .slice A xs.length c ∧ xs.length ≤ c := by
  rcases h.2.2 with ⟨h1, h2⟩ | ⟨g, cap, cur, h1, _, _, h4, _⟩
  · exact ⟨none, 0, by rw [h2]; exact h1, by omega⟩
  · exact ⟨_, _, h1, h4⟩
theorem OB.nil (b : Nat) (w : World) : OB b w (.slice none 0 0) [] := ⟨⟨by decide, by simp⟩, by simpa [u8s] using World.ownsRow_nil w b 5 1⟩
theorem OB.alloc {b : Nat} {w : World} {v : Value} {xs : List Nat} (h : OB b w v xs) (o : Obj) : OB b (w.alloc o) v xs := h.ext ((Ext.refl w).alloc o)
theorem OB.take {b : Nat} {w : World} {n c : Nat} {A} {xs : List Nat} (h : OB b w (.slice A n c) xs) (k : Nat) (hk : k ≤ xs.length) : OB b w (.slice A k c) (xs.take k) := by
  have hd := h.1
  refine ⟨⟨by have := hd.1; simp; omega, fun x hx => hd.2 x (List.mem_of_mem_take hx)⟩, by simp [u8s], ?_⟩
  have hl : (xs.take k).length = k := by simp; omega
  rcases h.2.2 with ⟨h1, h2⟩ | ⟨g, cap, cur, h1, h2, h3, h4, h5, h6, h7⟩
  · injection h1 with h1 h1' h1''
    have : k = 0 := by omega
    subst this
    exact .inl ⟨by rw [h1, h1''], by simp⟩
  · injection h1 with h1 h1' h1''
    subst h1 h1''
    refine .inr ⟨g, c, cur, by rw [hl], h2, h3, by omega, h5, h6, ?_⟩
    simp only [hl, Nat.mul_one] at h7 ⊢
    rw [show u8s (xs.take k) = (u8s xs).take k from by simp [u8s, List.map_take], ← h7, List.take_take]
    simp; omega
theorem OB.ext_grown {w0 W w1 : World} {b : Nat} {v : Value} {xs : List Nat} (HO : OB b W v xs) (hE : Ext w0 W) (hb : w0.heap.size ≤ b) (hg : W.grownBy w1 v.ownBlock) : Ext w0 w1 :=
  hE.grown hg fun k hk => Nat.le_trans hb (HO.2.lt k hk).1

section
variable {ops : Array Oper} {rest : List Oper} {o : Oper} {a : Act} {Q : Exit → Act → World → Prop}
/-- `append(v, y)` -/
theorem append_u8 {W : World} (base : Nat) (hgd : o.guard = none) (s x : Operand)
    (ho : o.op = .call { callee := .builtin .append, args := #[s, x], argTypes := #[120, 120] })
    (v : Value) (xs : List Nat) (y : Nat) (z : Int) (hz : z = (y : Int)) (HO : OB base W v xs) (hs : a.eval s = v) (hx : a.eval x = .slice (some ⟨W.heap.size, 0, none⟩) 1 1)
    (hy : y < 256) (hbase : base ≤ W.heap.size) (hl : xs.length < 1073741824)
    (h : ∀ v1 w1, OB base w1 v1 (xs ++ [y]) → W.grownBy w1 v.ownBlock → (v1.ownBlock = v.ownBlock ∨ ∃ g, v1.ownBlock = some g ∧ W.heap.size ≤ g) → wpList Tryz.prog ops Q rest (a.put o.dst v1) w1) :
    wpList Tryz.prog ops Q (o :: rest) a (W.alloc (.cells #[.int .u8 z] 5)) := by
  subst hz
  obtain ⟨i0, hi, hz0, hz1, hz2⟩ := info_parts Tryz.info_u8
  refine wpList_append_own_at (W.alloc (.cells #[.int .u8 y] 5)) hgd s x 120 ho base 5 i0 (.int .u8 0) 1 1 Tryz.underlying120 hi hz0 hz1 hz2 rfl (by omega) v xs.length (u8s xs) hs (HO.2.alloc _) ⟨W.heap.size, 0, none⟩ 1 1 [.int .u8 y] hx rfl
    (World.news_of_block (cs := #[.int .u8 y]) (t := 5) (fr := (0, 0)) (heap_alloc_new W _)) (by simp [Value.oneCell']) (by simp only [maxLen]; omega) (by omega) (by simp; omega) ?_
  intro v1 w1 hown hg _ hb
  have hg' := World.grownBy.trans (World.grownBy_alloc W _ v.ownBlock) hg
  refine h v1 w1 ⟨⟨by simp; omega, fun x hx => ?_⟩, ?_⟩ hg' (hb.imp id fun e => ⟨_, e, by simp⟩)
  · rcases List.mem_append.1 hx with hx | hx
    · exact HO.1.2 x hx
    · simp at hx; omega
  have e1 : (xs ++ [y]).length = xs.length + 1 := by simp
  have e2 : u8s (xs ++ [y]) = u8s xs ++ [.int .u8 y] := by simp [u8s]
  rw [e1, e2]; exact hown
end

theorem OB.row {b : Nat} {w : World} {v : Value} {xs : List Nat} (h : OB b w v xs) (hn : 0 < xs.length) :
    ∃ g c, v = .slice (some ⟨g, 0, none⟩) xs.length c ∧ b ≤ g ∧ g < w.heap.size ∧ xs.length ≤ c ∧ v.ownBlock = some g := by
  rcases h.2.2 with ⟨_, h2⟩ | ⟨g, cap, cur, h1, h2, h3, h4, _⟩
  · omega
  · exact ⟨g, cap, h1, h2, (Array.getElem?_eq_some_iff.1 h3).1, h4, by subst h1; rfl⟩
theorem OB.cell {b : Nat} {w : World} {g n c : Nat} {xs : List Nat} (h : OB b w (.slice (some ⟨g, 0, none⟩) n c) xs) (j : Nat) (hj : j < xs.length) : w.cell? ⟨g, j, none⟩ = some (.int .u8 ((xs.getD j 0 : Nat) : Int)) := by
  have := h.2.cells (g := g) rfl j _ (u8s_get xs j hj)
  rwa [add_plain] at this
theorem OB.free {b : Nat} {w : World} {g n c : Nat} {xs : List Nat} (h : OB b w (.slice (some ⟨g, 0, none⟩) n c) xs) (j : Nat) : w.frozen? ⟨g, j, none⟩ = false := by
  rcases h.2.2 with ⟨h', _⟩ | ⟨g', cap', cur, h', _, hh, _⟩
  · cases h'
  · injection h' with h'; injection h' with h'; injection h' with h'
    subst h'
    simp [World.frozen?, hh]
theorem OB.store {b : Nat} {w : World} {g n c : Nat} {xs : List Nat} (h : OB b w (.slice (some ⟨g, 0, none⟩) n c) xs) (j : Nat) {x : Nat} (hx : x < 256) :
    OB b (w.setCell ⟨g, j, none⟩ (.int .u8 (x : Int))) (.slice (some ⟨g, 0, none⟩) n c) (xs.set j x) := by
  have hn : n = xs.length := by
    rcases h.2.2 with ⟨h', _⟩ | ⟨g', cap', cur, h', _⟩
    · cases h'
    · injection h'
  subst hn
  have hs := (h.2.stored j (.int .u8 x)).1
  refine ⟨⟨by simp; exact h.1.1, fun y hy => ?_⟩, ?_⟩
  · rcases List.mem_or_eq_of_mem_set hy with hy | rfl
    · exact h.1.2 y hy
    · exact hx
  have e : u8s (xs.set j x) = (u8s xs).set j (.int .u8 x) := by simp [u8s, List.map_set]
  rw [e]; simpa using hs
theorem OB.set {b : Nat} {w : World} {v : Value} {xs : List Nat} (h : OB b w v xs) {p : Addr} (hp : p.block < b) (u : Value) : OB b (w.setCell p u) v xs :=
  h.kept fun g hg _ => Below.heap_setCell _ _ _ _ (by omega)
/-- `string(v)` -/
theorem OB.text {b : Nat} {w : World} {g n c : Nat} {xs : List Nat} (h : OB b w (.slice (some ⟨g, 0, none⟩) n c) xs) (l : List UInt8) (hl : l = xs.map UInt8.ofNat) :
    (convert 120 9 (.slice (some ⟨g, 0, none⟩) n c)).run Tryz.prog w = .ok (.string ⟨l.toArray⟩) w := by
  subst hl
  have hn : n = xs.length := by
    rcases h.2.2 with ⟨h', _⟩ | ⟨g', cap', cur, h', _⟩
    · cases h'
    · injection h'
  subst hn
  have := run_convert_bytes_back (P := Tryz.prog) w 120 9 5 ⟨g, 0, none⟩ c (xs.map UInt8.ofNat) Tryz.underlying120 Tryz.underlying5 Tryz.underlying9 (fun j hj => ?_)
  · simpa using this
  · have hj' : j < xs.length := by simpa using hj
    rw [add_plain, h.cell j hj', List.getElem_map, UInt8.toNat_ofNat']
    have hx := h.1.2 _ (List.getElem_mem hj')
    rw [List.getD_eq_getElem?_getD, List.getElem?_eq_getElem hj', Option.getD_some, Nat.mod_eq_of_lt (by omega)]

/-- Two rows that don't share a block. -/
def Apart (x out : Value) : Prop := x.ownBlock = none ∨ x.ownBlock ≠ out.ownBlock
theorem Apart.nil (x : Value) : Apart x (.slice none 0 0) := by
  cases hx : x.ownBlock with
  | none => exact .inl hx
  | some g => exact .inr (by rw [hx]; intro e; cases e)
theorem Apart.append {W : World} {b : Nat} {x out v1 : Value} {xs : List Nat} (h : Apart x out) (HO : OV b W x xs) (hv : v1.ownBlock = out.ownBlock ∨ ∃ g, v1.ownBlock = some g ∧ W.heap.size ≤ g) : Apart x v1 := by
  cases hx : x.ownBlock with
  | none => exact .inl hx
  | some g0 =>
    refine .inr fun e => ?_
    rcases hv with hv | ⟨g, hv, hg⟩
    · rcases h with h | h
      · rw [h] at hx; cases hx
      · exact h (e.trans hv)
    · rw [hx, hv] at e
      injection e with e
      have := (HO.2.lt g0 hx).2
      omega
theorem Apart.fresh {W W' : World} {b : Nat} {x out : Value} {xs zs : List Nat} (HO : OV W.heap.size W' x xs) (HB : OB b W out zs) : Apart x out := by
  cases hx : x.ownBlock with
  | none => exact .inl hx
  | some g0 =>
    refine .inr fun e => ?_
    have h1 := (HO.2.lt g0 hx).1
    have h2 := (HB.2.lt g0 (by rw [← e]; exact hx)).2
    omega
end Go.Proofs.YtgfkachfbnbikaaGreatDoor
