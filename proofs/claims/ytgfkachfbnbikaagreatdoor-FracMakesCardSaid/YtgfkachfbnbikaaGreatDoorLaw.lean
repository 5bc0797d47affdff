/- Laws of make, append and store on slices of digits that the call owns, over this seat's program. -/
import Derived.Test.YtgfkachfbnbikaaGreatDoorProg
import Derived.Test.YtgfkachfbnbikaaGreatDoorBase
import Derived.Test.YtgfkachfbnbikaaGreatDoorMath
import Derived.Maps.AppendAt
import Derived.Deep.AppendLies
import Derived.WalkSpells
namespace Go.Proofs.YtgfkachfbnbikaaGreatDoor
open Go.RowKit

theorem Tryz.info_u32 : (Tryz.prog.info? 46).map (fun i => (i.zero, i.size, i.bytes)) = some (some (.int .u32 0), 1, 4) := by kernel_rfl

theorem Dg.of {xs : List Nat} (h : xs.length ≤ 1073741824) (hd : Ds xs) : Dg xs := ⟨h, hd⟩
theorem Dg.ds {xs : List Nat} (h : Dg xs) : Ds xs := h.2
theorem dg_dig {n : Nat} (h : n < 4294967296 ^ 1073741824) : Dg (dig n) := ⟨dig_length_le h, ds_dig n⟩
theorem dg_dig' {n k : Nat} (h : n < 4294967296 ^ k) (hk : k ≤ 1073741824) : Dg (dig n) := ⟨Nat.le_trans (dig_length_le h) hk, ds_dig n⟩

theorem OV.take {b : Nat} {w : World} {n c : Nat} {A} {xs : List Nat} (h : OV b w (.slice A n c) xs) (k : Nat) (hk : k ≤ xs.length) : OV b w (.slice A k c) (xs.take k) := by
  have hd := h.1
  refine ⟨⟨by have := hd.1; simp; omega, (Ds.take hd.2 k)⟩, by simp [u32s], ?_⟩
  have hl : (xs.take k).length = k := by simp; omega
  rcases h.2.2 with ⟨h1, h2⟩ | ⟨g, cap, cur, h1, h2, h3, h4, h5, h6, h7⟩
  · injection h1 with h1 h1' h1''
    have : k = 0 := by omega
    subst this
    exact .inl ⟨by rw [h1, h1''], by simp⟩
  · injection h1 with h1 h1' h1''
    subst h1 h1''
    refine .inr ⟨g, c, cur, by rw [hl], h2, h3, by omega, h5, h6, ?_⟩
    simp only [hl, Nat.mul_one] at h7 ⊢
    rw [show u32s (xs.take k) = (u32s xs).take k from by simp [u32s, List.map_take], ← h7, List.take_take]
    simp; omega

theorem OV.ext_grown {w0 W w1 : World} {b : Nat} {v : Value} {xs : List Nat} (HO : OV b W v xs) (hE : Ext w0 W) (hb : w0.heap.size ≤ b) (hg : W.grownBy w1 v.ownBlock) : Ext w0 w1 :=
  hE.grown hg fun k hk => Nat.le_trans hb (HO.2.lt k hk).1
theorem OV.other {W w1 : World} {b : Nat} {v : Value} {xs : List Nat} (HO : OV b W v xs) {row : Option Nat} (hg : W.grownBy w1 row) (hne : v.ownBlock = none ∨ v.ownBlock ≠ row) : OV b w1 v xs := ⟨HO.1, HO.2.kept hg hne⟩

section
variable {ops : Array Oper} {rest : List Oper} {o : Oper} {a : Act} {Q : Exit → Act → World → Prop}

/-- `append(v, y)` -/
theorem append_u32 {W : World} (base : Nat) (hgd : o.guard = none) (s x : Operand)
    (ho : o.op = .call { callee := .builtin .append, args := #[s, x], argTypes := #[22, 22] })
    (v : Value) (xs : List Nat) (y : Nat) (z : Int) (hz : z = (y : Int)) (HO : OV base W v xs) (hs : a.eval s = v) (hx : a.eval x = .slice (some ⟨W.heap.size, 0, none⟩) 1 1)
    (hy : y < 4294967296) (hbase : base ≤ W.heap.size) (hl : xs.length < 1073741824)
    (h : ∀ v1 w1, OV base w1 v1 (xs ++ [y]) → W.grownBy w1 v.ownBlock → wpList Tryz.prog ops Q rest (a.put o.dst v1) w1) :
    wpList Tryz.prog ops Q (o :: rest) a (W.alloc (.cells #[.int .u32 z] 46)) := by
  subst hz
  obtain ⟨i0, hi, hz0, hz1, hz2⟩ := info_parts Tryz.info_u32
  refine wpList_append_own_at (W.alloc (.cells #[.int .u32 y] 46)) hgd s x 22 ho base 46 i0 (.int .u32 0) 1 4 Tryz.underlying22 hi hz0 hz1 hz2 rfl (by omega) v xs.length (u32s xs) hs (HO.2.alloc _) ⟨W.heap.size, 0, none⟩ 1 1 [.int .u32 y] hx rfl
    (World.news_of_block (cs := #[.int .u32 y]) (t := 46) (fr := (0, 0)) (heap_alloc_new W _)) (by simp [Value.oneCell']) (by simp only [maxLen]; omega) (by omega) (by simp; omega) ?_
  intro v1 w1 hown hg _ _
  have hg' := World.grownBy.trans (World.grownBy_alloc W _ v.ownBlock) hg
  refine h v1 w1 ⟨⟨by simp; omega, Ds.append HO.1.2 (Ds.cons hy Ds.nil)⟩, ?_⟩ hg'
  have e1 : (xs ++ [y]).length = xs.length + 1 := by simp
  have e2 : u32s (xs ++ [y]) = u32s xs ++ [.int .u32 y] := by simp [u32s]
  rw [e1, e2]; exact hown

/-- `append(v, ys...)` -/
theorem append_row_u32 {W : World} (base : Nat) (hgd : o.guard = none) (s x : Operand)
    (ho : o.op = .call { callee := .builtin .append, args := #[s, x], argTypes := #[22, 22] })
    (v : Value) (xs ys : List Nat) (ad : Addr) (m c : Nat) (HO : OV base W v xs) (HR : RV W (.slice (some ad) m c) ys) (hs : a.eval s = v) (hx : a.eval x = .slice (some ad) m c)
    (hbase : base ≤ W.heap.size) (hl : xs.length + ys.length ≤ 1073741824)
    (h : ∀ v1 w1, OV base w1 v1 (xs ++ ys) → W.grownBy w1 v.ownBlock → wpList Tryz.prog ops Q rest (a.put o.dst v1) w1) :
    wpList Tryz.prog ops Q (o :: rest) a W := by
  obtain ⟨i0, hi, hz0, hz1, hz2⟩ := info_parts Tryz.info_u32
  obtain ⟨A', c', e, _, hd, hr⟩ := HR
  injection e with e1 e2 e3
  subst e1 e2
  refine wpList_append_own_at W hgd s x 22 ho base 46 i0 (.int .u32 0) 1 4 Tryz.underlying22 hi hz0 hz1 hz2 rfl (by omega) v xs.length (u32s xs) hs HO.2 ad ys.length c (u32s ys) hx (by simp [u32s])
    (Rd.cell1 hr) (by intro u hu; simp only [u32s, List.mem_map] at hu; obtain ⟨x, _, rfl⟩ := hu; rfl) (by simp only [maxLen]; omega) (by omega) hbase ?_
  intro v1 w1 hown hg _ _
  refine h v1 w1 ⟨⟨by simp; omega, Ds.append HO.1.2 hd.2⟩, ?_⟩ hg
  have e1 : (xs ++ ys).length = xs.length + ys.length := by simp
  have e2 : u32s (xs ++ ys) = u32s xs ++ u32s ys := by simp [u32s]
  rw [e1, e2]; exact hown

/-- `make([]uint32, n)` -/
theorem make_u32 (w : World) (hg : o.guard = none) (l c : Operand) (hop : o.op = Op.makeSlice 22 l c) (n : Nat) (L C : Int)
    (hl : a.eval l = .int .i64 L) (hc : a.eval c = .int .i64 C) (hL : L = (n : Int)) (hC : C = (n : Int)) (hn : n ≤ 1073741824)
    (hK : ∀ w' v, OV w.heap.size w' v (List.replicate n 0) → Ext w w' → v = .slice (some ⟨w.heap.size, 0, none⟩) n n → wpList Tryz.prog ops Q rest (a.put o.dst v) w') :
    wpList Tryz.prog ops Q (o :: rest) a w := by
  obtain ⟨i0, hi, hz0, hz1, hz2⟩ := info_parts Tryz.info_u32
  refine wpList_make_full w hg l c 22 hop w.heap.size 46 i0 (.int .u32 0) 1 Tryz.underlying22 hi hz0 hz1 .i64 .i64 L C n hl hc hL hC (by rw [hz2]; omega) (by simp only [maxLen]; omega) (Nat.le_refl _) ?_
  intro w' ho hgr
  refine hK w' _ ⟨⟨by simp; omega, Ds.zeros n⟩, ?_⟩ ((Ext.refl w).grown hgr (by simp)) rfl
  have e : (madeCells (Value.int IntKind.u32 0).cells (n * 1)).toList = u32s (List.replicate n 0) := by
    apply List.ext_getElem
    · simp [u32s, madeCells]
    · intro i h1 h2
      simp [u32s, madeCells, Value.cells, Nat.mod_one]
  rw [e] at ho
  simpa using ho

/-- `make([]uint32, 0, n)` -/
theorem make0_u32 (w : World) (hg : o.guard = none) (l c : Operand) (hop : o.op = Op.makeSlice 22 l c) (n : Nat) (C : Int)
    (hl : a.eval l = .int .i64 0) (hc : a.eval c = .int .i64 C) (hC : C = (n : Int)) (hn : n ≤ 1073741824)
    (hK : ∀ w' v, OV w.heap.size w' v [] → Ext w w' → v = .slice (some ⟨w.heap.size, 0, none⟩) 0 n → wpList Tryz.prog ops Q rest (a.put o.dst v) w') :
    wpList Tryz.prog ops Q (o :: rest) a w := by
  obtain ⟨i0, hi, hz0, hz1, hz2⟩ := info_parts Tryz.info_u32
  refine wpList_make_own w hg l c 22 hop w.heap.size 46 i0 (.int .u32 0) 1 Tryz.underlying22 hi hz0 hz1 .i64 .i64 C n hl hc hC (by rw [hz2]; omega) (by simp only [maxLen]; omega) (Nat.le_refl _) ?_
  intro w' ho hgr
  exact hK w' _ ⟨⟨by decide, Ds.nil⟩, by simpa [u32s] using ho⟩ ((Ext.refl w).grown hgr (by simp)) rfl
end

/-- A row that is owned: where it lies, what its cells hold, and what a store makes of it. -/
theorem OV.row {b : Nat} {w : World} {v : Value} {xs : List Nat} (h : OV b w v xs) (hn : 0 < xs.length) :
    ∃ g c, v = .slice (some ⟨g, 0, none⟩) xs.length c ∧ b ≤ g ∧ g < w.heap.size ∧ xs.length ≤ c ∧ v.ownBlock = some g := by
  rcases h.2.2 with ⟨_, h2⟩ | ⟨g, cap, cur, h1, h2, h3, h4, _⟩
  · omega
  · exact ⟨g, cap, h1, h2, (Array.getElem?_eq_some_iff.1 h3).1, h4, by subst h1; rfl⟩
theorem OV.cell {b : Nat} {w : World} {g n c : Nat} {xs : List Nat} (h : OV b w (.slice (some ⟨g, 0, none⟩) n c) xs) (j : Nat) (hj : j < xs.length) : w.cell? ⟨g, j, none⟩ = some (.int .u32 ((xs.getD j 0 : Nat) : Int)) := by
  have := h.2.cells (g := g) rfl j _ (u32s_get xs j hj)
  rwa [add_plain] at this
theorem OV.free {b : Nat} {w : World} {g n c : Nat} {xs : List Nat} (h : OV b w (.slice (some ⟨g, 0, none⟩) n c) xs) (j : Nat) : w.frozen? ⟨g, j, none⟩ = false := by
  rcases h.2.2 with ⟨h', _⟩ | ⟨g', cap', cur, h', _, hh, _⟩
  · cases h'
  · injection h' with h'; injection h' with h'; injection h' with h'
    subst h'
    simp [World.frozen?, hh]
theorem OV.store {b : Nat} {w : World} {g n c : Nat} {xs : List Nat} (h : OV b w (.slice (some ⟨g, 0, none⟩) n c) xs) (j : Nat) {x : Nat} (hx : x < 4294967296) :
    OV b (w.setCell ⟨g, j, none⟩ (.int .u32 (x : Int))) (.slice (some ⟨g, 0, none⟩) n c) (xs.set j x) := by
  have hn : n = xs.length := by
    rcases h.2.2 with ⟨h', _⟩ | ⟨g', cap', cur, h', _⟩
    · cases h'
    · injection h'
  subst hn
  have hs := (h.2.stored j (.int .u32 x)).1
  refine ⟨⟨by simp; exact h.1.1, Ds.set h.1.2 j hx⟩, ?_⟩
  have e : u32s (xs.set j x) = (u32s xs).set j (.int .u32 x) := by simp [u32s, List.map_set]
  rw [e]; simpa using hs

theorem OV.lit (w : World) (xs : List Nat) (hl : xs.length ≤ 1073741824) (hd : Ds xs) :
    OV w.heap.size (w.alloc (.cells (u32s xs).toArray 46)) (.slice (some ⟨w.heap.size, 0, none⟩) xs.length xs.length) xs := by
  have h := World.ownsRow_lit (base := w.heap.size) (e := 46) (size := 1) w (u32s xs).toArray xs.length (Nat.le_refl _) (by simp only [maxLen]; omega) (by simp [u32s])
  exact ⟨⟨hl, hd⟩, by simpa using h⟩

set_option maxHeartbeats 400000 in
/-- slices.Clone of digits. -/
theorem clone_calls {w : World} {u : Value} {xs : List Nat} (hu : RV w u xs) :
    Calls Tryz.prog 124 #[u] w fun e w' => ∃ r, e = .returned r ∧ OV w.heap.size w' r xs ∧ Ext w w' := by
  obtain ⟨A, c, rfl, hc, hd, hr⟩ := id hu
  have HU := Aside.mk hu
  have hl : xs.length ≤ 1073741824 := hd.1
  cases A with
  | none =>
    have hx : xs = [] := by
      cases xs with
      | nil => rfl
      | cons x xs => obtain ⟨ad, e, _⟩ := hr 0 _ (u32s_get (x :: xs) 0 (by simp)); cases e
    subst hx
    clear hu hd hr
    have he : ∀ W : World, (binOp .eql 22 (.slice none (0 : Nat) c) (.slice none 0 0)).run Tryz.prog W = .ok (.bool true) W := fun W => by simpa using Lib.run_eql_slice_nil (P := Tryz.prog) W 22 46 none 0 c 0 0 Tryz.underlying22
    go_enter Tryz.func124, Tryz.ntmps124
    go_wp2
    go_ret
    exact ⟨.slice none 0 0, rfl, OV.nil _ _, Ext.refl _⟩
  | some ad =>
    clear hu hd hr
    have h0 : OV w.heap.size (w.alloc (.cells #[] 46)) (.slice (some ⟨w.heap.size, 0, none⟩) 0 0) [] := OV.lit w [] (by simp) Ds.nil
    have H0 := Aside.mk h0
    have he : ∀ W : World, (binOp .eql 22 (.slice (some ad) xs.length c) (.slice none 0 0)).run Tryz.prog W = .ok (.bool false) W := fun W => by simpa using Lib.run_eql_slice_nil (P := Tryz.prog) W 22 46 (some ad) xs.length c 0 0 Tryz.underlying22
    clear h0
    go_enter Tryz.func124, Tryz.ntmps124
    go_wp2_with (at_builtin; (refine append_row_u32 w.heap.size rfl _ _ rfl _ [] xs ad xs.length c H0.out (HU.out.ext ((Ext.refl _).alloc _)) rfl rfl (by simp) (by simpa using hl) ?_; intro v1 w1 ho hg; have HO := Aside.mk ho; have HB := Aside.mk (H0.out.ext_grown ((Ext.refl w).alloc _) (Nat.le_refl _) hg); clear ho hg))
    go_ret
    exact ⟨v1, rfl, HO.out, HB.out⟩
end Go.Proofs.YtgfkachfbnbikaaGreatDoor
