/- The reader of shape.Read: its box, the row of its words, and what stays as it was. append to an empty literal: new memory, in whatever order. Contracts of shape: none, zero, Zero. Contracts of shape: reader.take. Contracts of shape: reader.take of an array. -/
import Derived.Test.YtcbaipnphepbeaaGreatDoorNm
import Derived.Deep.RegionHeld3
import Derived.Deep.DrawnRows
import Derived.Test.YtcbaipnphepbeaaGreatDoorNh
namespace Go.Proofs.YtcbaipnphepbeaaGreatDoor
open Go.RowKit

/-- append, and where the new slice lies. -/
theorem run_append_so2 {α : Type} {R : World → List Value → α → Prop} {W : World} {t e ty : TypeId} {k : Nat} {base : Nat} (hT : ElemT t e k)
    {v y : Value} {l m : List α} (HO : SO base e k R W v l) (HS : SV k R W y m) (hone : ∀ c a, R W c a → ∀ u ∈ c, u.oneCell' = true)
    (hst : ∀ w1, W.grownBy w1 v.ownBlock → ∀ c a, R W c a → R w1 c a) (hbase : base ≤ W.heap.size) (hl : l.length + m.length ≤ 1073741824) :
    ∃ v1 w1, (Builtin.append_ #[t, t] ty #[v, y]).run Tryz.prog W = .ok v1 w1 ∧ SO base e k R w1 v1 (l ++ m) ∧ W.grownBy w1 v.ownBlock ∧ (v1.ownBlock = v.ownBlock ∨ v1.ownBlock = some W.heap.size) := by
  obtain ⟨i0, z, b, hi, hz0, hz1, hz2, hz3, hb⟩ := hT.info
  have hk := hT.pos
  obtain ⟨xs, how, hl0, hr⟩ := HO
  obtain ⟨A, c, ys, rfl, hc, hm, hsp, hrd, hr2⟩ := id HS
  cases A with
  | some ad =>
    have hall : ∀ {ys : List Value} {m : List α}, Rows k (R W) ys m → ∀ u ∈ ys, u.oneCell' = true := by
      intro ys m
      induction m generalizing ys with
      | nil => intro h u hu; cases (show ys = [] from h); cases hu
      | cons b m ih =>
        rintro ⟨c, t, rfl, hc, ha, h⟩ u hu
        rcases List.mem_append.1 hu with hu | hu
        · exact hone c b ha u hu
        · exact ih h u hu
    have h1 : (l.length + m.length) * b ≤ 1073741824 * 100 := Nat.mul_le_mul hl hb
    obtain ⟨v1, w1, h2, h3, h4, -, h5⟩ := run_append_own_at (P := Tryz.prog) W base t ty e i0 z k b hT.und hi hz0 hz1 hz2 hz3 hk v l.length xs how ad m.length c ys hr2.length
      (Rd.cell1 hrd) (hall hr2) (by simp only [maxLen]; omega) (by omega) hbase
    exact ⟨v1, w1, h2, ⟨xs ++ ys, by rw [List.length_append]; exact h3, by rw [List.length_append]; exact hl, (hr.mono fun c a => hst w1 h4 c a).append (hr2.mono fun c a => hst w1 h4 c a)⟩, h4, h5⟩
  | none =>
    obtain rfl := HS.none_nil hk
    have hrun := run_append_none base t ty e i0 k hT.und hi v l.length c xs how
    exact ⟨v, W, hrun, by rw [List.append_nil]; exact ⟨xs, how, hl0, hr⟩, ⟨rfl, rfl, rfl, Nat.le_refl _, fun _ _ _ => rfl⟩, .inl rfl⟩
theorem step_append_so2 {α : Type} {R : World → List Value → α → Prop} {W : World} {t e : TypeId} {k : Nat} {ops : Array Oper} {o : Oper} {a : Act} {K : Act → World → Prop} {Q : Exit → Act → World → Prop} {E : Prop} (base : Nat) (hT : ElemT t e k)
    (hg : o.guard = none) (s x : Operand) (ho : o.op = .call { callee := .builtin .append, args := #[s, x], argTypes := #[t, t] })
    (v y : Value) (l m : List α) (HO : SO base e k R W v l) (HS : SV k R W y m) (hone : ∀ c a, R W c a → ∀ u ∈ c, u.oneCell' = true)
    (hst : ∀ w1, W.grownBy w1 v.ownBlock → ∀ c a, R W c a → R w1 c a)
    (hs : a.eval s = v) (hx : a.eval x = y) (hbase : base ≤ W.heap.size) (hl : l.length + m.length ≤ 1073741824)
    (h : ∀ v1 w1, SO base e k R w1 v1 (l ++ m) → W.grownBy w1 v.ownBlock → (v1.ownBlock = v.ownBlock ∨ v1.ownBlock = some W.heap.size) → K (a.put o.dst v1) w1) :
    if Region.wanted o (yielded ops a.tmps) = true then Oper.wp Tryz.prog o a W K Q else E := by
  have hw : Region.wanted o (yielded ops a.tmps) = true := by simp [Region.wanted, hg]
  rw [if_pos hw]
  obtain ⟨v1, w1, hrun, h2, h3, h4⟩ := run_append_so2 (ty := o.type) hT HO HS hone hst hbase hl
  unfold Oper.wp
  simp [execOp, ho, resolve, invoke, builtin, hs, hx, hrun, Result.andThen]
  exact h v1 w1 h2 h3 h4

/-- Bytes as a string. -/
def bs (l : List UInt8) : ByteArray := ⟨l.toArray⟩
theorem bs_size (l : List UInt8) : (bs l).size = l.length := by show l.toArray.size = _; simp
theorem bs_data (l : List UInt8) : (bs l).data.toList = l := rfl
/-- The reader's box. -/
abbrev RBox (w : World) (rb : Nat) (s : ByteArray) (v : Value) : Prop :=
  w.cell? ⟨rb, 0, none⟩ = some (.string s) ∧ w.cell? ⟨rb, 1, none⟩ = some v ∧ w.frozen? ⟨rb, 0, none⟩ = false ∧ w.frozen? ⟨rb, 1, none⟩ = false
/-- The row of its words. -/
structure Rdr (base : Nat) (w : World) (rb : Nat) (v : Value) (ws : List (List UInt8)) : Prop where
  low : base ≤ rb
  lt : rb < w.heap.size
  row : SO base 9 1 StrC w v (ws.map bs)
  ne : v.ownBlock ≠ some rb
/-- All but the reader's box and its words' row is as it was. -/
structure FR (base rb : Nat) (v v' : Value) (w w' : World) : Prop where
  below : Below base w w'
  other : ∀ g, g < w.heap.size → g ≠ rb → v.ownBlock ≠ some g → w'.heap[g]? = w.heap[g]?
  own : ∀ k, v'.ownBlock = some k → v.ownBlock = some k ∨ w.heap.size ≤ k
theorem FR.trans {base rb : Nat} {v v' v'' : Value} {a b c : World} (h : FR base rb v v' a b) (k : FR base rb v' v'' b c) : FR base rb v v'' a c :=
  ⟨h.below.trans k.below, fun g hg hr hv => (k.other g (Nat.lt_of_lt_of_le hg h.below.size) hr (fun e => by rcases h.own g e with h' | h'; exact hv h'; omega)).trans (h.other g hg hr hv),
    fun g hg => by
      rcases k.own g hg with h' | h'
      · exact h.own g h'
      · exact .inr (Nat.le_trans h.below.size h')⟩
theorem FR.of_ext {base rb : Nat} {v : Value} {w w' : World} (hb : base ≤ w.heap.size) (e : Ext w w') : FR base rb v v w w' :=
  ⟨Below.mono e hb, fun g hg _ _ => e.block g hg, fun _ h => .inl h⟩
theorem FR.set {base rb : Nat} {v : Value} {w : World} (hb : base ≤ rb) (j : Nat) (x : Value) : FR base rb v v w (w.setCell ⟨rb, j, none⟩ x) :=
  ⟨Below.setCell (Below.refl _ _) hb x, fun _ _ hr _ => Below.heap_setCell _ _ _ _ hr, fun _ h => .inl h⟩
theorem FR.grown {base rb : Nat} {v v1 : Value} {w w1 : World} (hb : base ≤ w.heap.size) (hlow : ∀ k, v.ownBlock = some k → base ≤ k) (hg : w.grownBy w1 v.ownBlock) (ho : v1.ownBlock = v.ownBlock ∨ v1.ownBlock = some w.heap.size) : FR base rb v v1 w w1 :=
  ⟨Below.grown (Below.refl _ _) hg hb hlow, fun g h1 _ h2 => hg.block g h1 (fun e => h2 e.symm), fun k hk => by
    rcases ho with h | h
    · exact .inl (h ▸ hk)
    · rw [h] at hk; injection hk with hk; exact .inr (Nat.le_of_eq hk)⟩
theorem RBox.lt {w : World} {rb : Nat} {s : ByteArray} {v : Value} (h : RBox w rb s v) : rb < w.heap.size := World.block_lt_of_cell? w ⟨rb, 0, none⟩ h.1
theorem RBox.same {w w' : World} {rb : Nat} {s : ByteArray} {v : Value} (h : RBox w rb s v) (e : w'.heap[rb]? = w.heap[rb]?) : RBox w' rb s v :=
  ⟨(World.cell?_of_block (a := ⟨rb, 0, none⟩) e).trans h.1, (World.cell?_of_block (a := ⟨rb, 1, none⟩) e).trans h.2.1, (World.frozen?_of_block (a := ⟨rb, 0, none⟩) e).trans h.2.2.1, (World.frozen?_of_block (a := ⟨rb, 1, none⟩) e).trans h.2.2.2⟩
theorem RBox.ext {w w' : World} {rb : Nat} {s : ByteArray} {v : Value} (e : Ext w w') (h : RBox w rb s v) : RBox w' rb s v := h.same (e.block _ h.lt)
theorem RBox.put0 {w : World} {rb : Nat} {s : ByteArray} {v : Value} (h : RBox w rb s v) (t : ByteArray) : RBox (w.setCell ⟨rb, 0, none⟩ (.string t)) rb t v :=
  ⟨World.cell?_setCell_same _ _ _ h.1, (World.cell?_setCell_other _ _ _ _ (by intro hh; injection hh with _ hh; omega)).trans h.2.1, by rw [World.frozen?_setCell]; exact h.2.2.1, by rw [World.frozen?_setCell]; exact h.2.2.2⟩
theorem RBox.put1 {w : World} {rb : Nat} {s : ByteArray} {v : Value} (h : RBox w rb s v) (x : Value) : RBox (w.setCell ⟨rb, 1, none⟩ x) rb s x :=
  ⟨(World.cell?_setCell_other _ _ _ _ (by intro hh; injection hh with _ hh; omega)).trans h.1, World.cell?_setCell_same _ _ _ h.2.1, by rw [World.frozen?_setCell]; exact h.2.2.1, by rw [World.frozen?_setCell]; exact h.2.2.2⟩
/-- An owned row outlives a store into another block. -/
theorem ownsRow_set {w : World} {base : Nat} {e : TypeId} {k n : Nat} {v : Value} {xs : List Value} (h : w.ownsRow base e k v n xs) {p : Addr} (hp : v.ownBlock ≠ some p.block) (u : Value) : (w.setCell p u).ownsRow base e k v n xs := by
  refine ⟨h.1, ?_⟩
  rcases h.2 with h' | ⟨g, cap, cur, rfl, h2, h3, h4⟩
  · exact .inl h'
  · refine .inr ⟨g, cap, cur, rfl, h2, ?_, h4⟩
    rw [Below.heap_setCell _ _ _ _ (by intro e; exact hp (congrArg some e))]
    exact h3
theorem SO.setNe {α : Type} {base : Nat} {e : TypeId} {k : Nat} {R : World → List Value → α → Prop} {w : World} {v : Value} {l : List α} (h : SO base e k R w v l) {p : Addr} (hp : v.ownBlock ≠ some p.block) (u : Value) (hR : ∀ c a, R w c a → R (w.setCell p u) c a) : SO base e k R (w.setCell p u) v l :=
  let ⟨xs, ho, hl, hr⟩ := h; ⟨xs, ownsRow_set ho hp u, hl, hr.mono hR⟩
theorem Rdr.ext {base rb : Nat} {w w' : World} {v : Value} {ws : List (List UInt8)} (h : Rdr base w rb v ws) (e : Ext w w') : Rdr base w' rb v ws := ⟨h.low, Nat.lt_of_lt_of_le h.lt e.size, h.row.ext StrC.ext e, h.ne⟩
theorem Rdr.set {base rb : Nat} {w : World} {v : Value} {ws : List (List UInt8)} (h : Rdr base w rb v ws) (j : Nat) (x : Value) : Rdr base (w.setCell ⟨rb, j, none⟩ x) rb v ws :=
  ⟨h.low, by have := h.lt; simpa [World.setCell] using this, h.row.setNe (p := ⟨rb, j, none⟩) h.ne x (fun _ _ h => h), h.ne⟩
/-- A row of ints of the call's own outlives what the reader does. -/
theorem SO.fr {α : Type} {b base rb : Nat} {e : TypeId} {k : Nat} {R : World → List Value → α → Prop} {w w' : World} {x v v' : Value} {l : List α} {ws : List (List UInt8)} (h : SO b e k R w x l) (hb : rb < b) (hr : Rdr base w rb v ws) (hne : e ≠ 9) (hf : FR base rb v v' w w') (hR : ∀ c a, R w c a → R w' c a) : SO b e k R w' x l := by
  obtain ⟨xs', ho', _⟩ := hr.row
  obtain ⟨xs, ho, hl, hrr⟩ := h
  refine ⟨xs, ⟨ho.1, ?_⟩, hl, hrr.mono hR⟩
  have hn := ownsRow_ne ho ho' hne
  rcases ho.2 with h' | ⟨g, cap, cur, rfl, h2, h3, h4⟩
  · exact .inl h'
  · refine .inr ⟨g, cap, cur, rfl, h2, ?_, h4⟩
    have hg : g < w.heap.size := (Array.getElem?_eq_some_iff.1 h3).1
    rw [hf.other g hg (by omega) (by
      rcases hn with hn | hn
      · cases hn
      · exact fun e => hn e.symm)]
    exact h3
/-- What take leaves. -/
def TakeP (base rb : Nat) (w : World) (v : Value) (ws : List (List UInt8)) (res : Option (List Int × List UInt8 × List (List UInt8))) (e : Ending) (w' : World) : Prop :=
  match res with
  | none => e = .returned (.tuple #[.slice none 0 0, .bool false]) ∧ Below base w w'
  | some (dims, r, nw) => ∃ x v', e = .returned (.tuple #[x, .bool true]) ∧ SO w.heap.size 3 1 IntC w' x dims ∧ RBox w' rb (bs r) v' ∧ Rdr base w' rb v' (ws ++ nw) ∧ FR base rb v v' w w'

/-! CutPrefix -/
theorem cut_yes {w : World} {s p : ByteArray} {t : List UInt8} (h : s.data.toList = p.data.toList ++ t) :
    Calls Tryz.prog 78 #[.string s, .string p] w fun e w' => e = .returned (.tuple #[.string (bs t), .bool true]) ∧ w = w' := by
  refine (Tryz.strings_CutPrefix s p w).mono ?_
  rintro e w' ⟨rfl, rfl⟩
  have h1 : Lib.hasPrefix s.data.toList p.data.toList = true := by unfold Lib.hasPrefix; rw [h]; simp
  refine ⟨?_, rfl⟩
  unfold Lib.trimPrefix
  rw [h1, if_pos rfl, h]
  simp [bs]
theorem cut_no {w : World} {s p : ByteArray} (h : Lib.hasPrefix s.data.toList p.data.toList = false) :
    Calls Tryz.prog 78 #[.string s, .string p] w fun e w' => e = .returned (.tuple #[.string s, .bool false]) ∧ w = w' := by
  refine (Tryz.strings_CutPrefix s p w).mono ?_
  rintro e w' ⟨rfl, rfl⟩
  refine ⟨?_, rfl⟩
  unfold Lib.trimPrefix
  rw [h, if_neg (by decide)]
theorem cut1_yes {w : World} {c : UInt8} {t : List UInt8} : Calls Tryz.prog 78 #[.string (bs (c :: t)), .string ⟨#[c]⟩] w fun e w' => e = .returned (.tuple #[.string (bs t), .bool true]) ∧ w = w' := cut_yes rfl
theorem cut1_no {w : World} {c : UInt8} {s : List UInt8} (h : s.head? ≠ some c) : Calls Tryz.prog 78 #[.string (bs s), .string ⟨#[c]⟩] w fun e w' => e = .returned (.tuple #[.string (bs s), .bool false]) ∧ w = w' := cut_no (by
  rw [bs_data]
  show List.isPrefixOf [c] s = false
  cases s with
  | nil => rfl
  | cons d t =>
    have : c ≠ d := fun e => h (by rw [e]; rfl)
    simp [List.isPrefixOf, this])
theorem cut2_no {w : World} {s : List UInt8} (h : ∀ t, s ≠ 44 :: 32 :: t) : Calls Tryz.prog 78 #[.string (bs s), .string ⟨#[44, 32]⟩] w fun e w' => e = .returned (.tuple #[.string (bs s), .bool false]) ∧ w = w' := cut_no (by
  rw [bs_data]
  show List.isPrefixOf [44, 32] s = false
  match s, h with
  | [], _ => rfl
  | [d], _ => simp [List.isPrefixOf]
  | d :: e :: t, h =>
    simp only [List.isPrefixOf, Bool.and_true]
    by_cases h1 : (44 : UInt8) = d
    · by_cases h2 : (32 : UInt8) = e
      · subst h1 h2; exact absurd rfl (h t)
      · simp [h2]
    · simp [h1])
theorem cut2_yes {w : World} {t : List UInt8} : Calls Tryz.prog 78 #[.string (bs (44 :: 32 :: t)), .string ⟨#[44, 32]⟩] w fun e w' => e = .returned (.tuple #[.string (bs t), .bool true]) ∧ w = w' := cut_yes rfl
/-- IndexAny of the two bytes that end a word, for texts of a kind. -/
structure IA (P : List UInt8 → Prop) : Prop where
  drop : ∀ l n, P l → P (l.drop n)
  calls : ∀ l w, P l → l.length ≤ 20000 → Calls Tryz.prog 113 #[.string (bs l), .string ⟨#[44, 125]⟩] w fun e w' => e = .returned (.int .i64 (Lib.indexAny l [44, 125])) ∧ Ext w w'
/-- Bytes below 128. -/
def Ascii (l : List UInt8) : Prop := ∀ b ∈ l, b.toNat < 128
theorem ia_ascii : IA Ascii where
  drop l n h b hb := h b (List.mem_of_mem_drop hb)
  calls l w h hl := by
    refine (Tryz.strings_IndexAny_laid (bs l) ⟨#[44, 125]⟩ w (by rw [bs_size]; omega) (by decide) (fun j b hb => h b (List.mem_of_getElem? hb)) (fun j b hb => by
      have : b ∈ ([44, 125] : List UInt8) := List.mem_of_getElem? hb
      simp only [List.mem_cons, List.not_mem_nil, or_false] at this
      rcases this with rfl | rfl <;> decide)).mono ?_
    rintro e w' ⟨rfl, he⟩
    exact ⟨rfl, he⟩
end Go.Proofs.YtcbaipnphepbeaaGreatDoor

namespace Go.Proofs.YtcbaipnphepbeaaGreatDoor
open Go.RowKit

/-- A slice that reads as a list, wherever it lies. -/
def SW {α : Type} (k : Nat) (R : World → List Value → α → Prop) (w : World) (v : Value) (l : List α) : Prop :=
  ∃ A c xs, v = .slice A l.length c ∧ l.length ≤ 1073741824 ∧ Rd w A xs ∧ Rows k (R w) xs l
theorem SV.sw {α : Type} {k : Nat} {R : World → List Value → α → Prop} {w : World} {v : Value} {l : List α} (h : SV k R w v l) : SW k R w v l :=
  let ⟨A, c, xs, h1, _, h3, _, h5, h6⟩ := h; ⟨A, c, xs, h1, h3, h5, h6⟩
/-- A row of digits. -/
def U32C (_ : World) (c : List Value) (n : Nat) : Prop := c = [.int .u32 (n : Int)]
theorem U32C.ext : Grows U32C := fun _ _ _ _ _ h => h
theorem rows_u32 : ∀ (xs : List Nat) (w : World), Rows 1 (U32C w) (u32s xs) xs
  | [], _ => rfl
  | d :: t, w => ⟨[.int .u32 (d : Int)], u32s t, rfl, rfl, rfl, rows_u32 t w⟩
theorem rows_u32_eq : ∀ {xs : List Nat} {cs : List Value} {w : World}, Rows 1 (U32C w) cs xs → cs = u32s xs
  | [], _, _, h => h
  | d :: t, cs, w, h => by
    obtain ⟨c, u, rfl, _, rfl, h⟩ := h
    rw [rows_u32_eq h]; rfl
theorem RV.sw {w : World} {v : Value} {xs : List Nat} (h : RV w v xs) : SW 1 U32C w v xs :=
  let ⟨A, c, h1, _, h3, h4⟩ := h; ⟨A, c, _, h1, h3.1, h4, rows_u32 xs w⟩
theorem SO.ov {b : Nat} {w : World} {v : Value} {xs : List Nat} (h : SO b 89 1 U32C w v xs) (hd : Ds xs) : OV b w v xs := by
  obtain ⟨cs, ho, hl, hr⟩ := h
  rw [rows_u32_eq hr] at ho
  exact ⟨⟨hl, hd⟩, ho⟩
theorem elemU32 : ElemT 81 89 1 := ElemT.of Tryz.underlying81 Tryz.info_u32 rfl (by decide) (by decide)

theorem run_lit {α : Type} {R : World → List Value → α → Prop} {W : World} {t e ty : TypeId} {k base g0 : Nat} (hT : ElemT t e k) (hR : Grows R)
    {y : Value} {m : List α} (HO : SO base e k R W (.slice (some ⟨g0, 0, none⟩) 0 0) []) (HS : SW k R W y m) (hbase : base ≤ W.heap.size) :
    ∃ v1 w1, (Builtin.append_ #[t, t] ty #[.slice (some ⟨g0, 0, none⟩) 0 0, y]).run Tryz.prog W = .ok v1 w1 ∧ SO base e k R w1 v1 m ∧ Ext W w1 := by
  obtain ⟨i0, z, b, hi, hz0, hz1, hz2, hz3, hb⟩ := hT.info
  have hk := hT.pos
  obtain ⟨A, c, ys, rfl, hm, hrd, hr2⟩ := HS
  have hyl := hr2.length
  cases m with
  | nil =>
    refine ⟨_, W, ?_, HO, Ext.refl W⟩
    cases A with
    | none => simp [Builtin.append_, run_underlying hT.und, sizeOf, typeInfo, hi, Builtin.lenOf, Builtin.firstCells, storeCells]
    | some ad => simp [Builtin.append_, run_underlying hT.und, sizeOf, typeInfo, hi, Builtin.lenOf, Builtin.firstCells, storeCells, loadCells, loadCellsFrom]
  | cons a m =>
    have hys : 0 < ys.length := by rw [hyl, List.length_cons]; exact Nat.mul_pos (Nat.succ_pos _) hk
    obtain ⟨ad, rfl, _⟩ := hrd 0 _ (List.getElem?_eq_getElem hys)
    have h1 : (a :: m).length * b ≤ 1073741824 * 100 := Nat.mul_le_mul hm hb
    obtain ⟨v1, w1, h2, h3, h4⟩ := run_append_arg_grows (P := Tryz.prog) W t ty e i0 z k b hT.und hi hz0 hz1 hz2 hz3 hk ⟨g0, 0, none⟩ 0 0 [] (by simp) (fun j u hj => by simp at hj) ad (a :: m).length c ys hyl
      (Rd.cell1 hrd) (by simp) (by simp only [maxLen]; simp at hm ⊢; omega) (by rw [Nat.zero_add]; omega)
    have he : Ext W w1 := (Ext.refl W).grown h4 (fun _ h => by cases h)
    refine ⟨v1, w1, h2, ⟨ys, ?_, hm, hr2.mono fun c a h => hR _ _ c a he h⟩, he⟩
    rw [Nat.zero_add, List.nil_append] at h3
    refine ⟨h3.1, ?_⟩
    rcases h3.2 with h | ⟨g, cap, cur, q1, q2, q3⟩
    · exact .inl h
    · exact .inr ⟨g, cap, cur, q1, Nat.le_trans hbase q2, q3⟩
/-- At a step of a region that draws. -/
theorem step_lit {α : Type} {R : World → List Value → α → Prop} {W : World} {t e : TypeId} {k base g0 : Nat} {ops : Array Oper} {o : Oper} {a : Act} {K : Act → World → Prop} {Q : Exit → Act → World → Prop} {E : Prop} (hT : ElemT t e k) (hR : Grows R)
    (hg : o.guard = none) (s x : Operand) (ho : o.op = .call { callee := .builtin .append, args := #[s, x], argTypes := #[t, t] })
    (y : Value) (m : List α) (hs : a.eval s = .slice (some ⟨g0, 0, none⟩) 0 0) (hx : a.eval x = y) (HO : SO base e k R W (.slice (some ⟨g0, 0, none⟩) 0 0) []) (HS : SW k R W y m) (hbase : base ≤ W.heap.size)
    (h : ∀ v1 w1, SO base e k R w1 v1 m → Ext W w1 → K (a.put o.dst v1) w1) :
    if Region.wanted o (yielded ops a.tmps) = true then Oper.wp Tryz.prog o a W K Q else E := by
  have hw : Region.wanted o (yielded ops a.tmps) = true := by simp [Region.wanted, hg]
  rw [if_pos hw]
  obtain ⟨v1, w1, hrun, h2, h3⟩ := run_lit (ty := o.type) hT hR HO HS hbase
  unfold Oper.wp
  simp [execOp, ho, resolve, invoke, builtin, hs, hx, hrun, Result.andThen]
  exact h v1 w1 h2 h3
section
variable {ops : Array Oper} {rest : List Oper} {o : Oper} {a : Act} {Q : Exit → Act → World → Prop}
end
/-! The literal's block, in later worlds. -/
theorem lit_new {W : World} {g : Nat} {o : Obj} (h : W.heap.size = g) : (W.alloc o).heap[g]? = some o := by subst h; exact heap_alloc_new W o
theorem lit_old {W : World} {g : Nat} {o o' : Obj} (h : W.heap[g]? = some o) : (W.alloc o').heap[g]? = some o := by
  rw [Below.heap_alloc _ _ _ (Array.getElem?_eq_some_iff.1 h).1]; exact h
theorem lit_drew {W : World} {g : Nat} {o : Obj} (h : W.heap[g]? = some o) : W.drew.heap[g]? = some o := h
theorem lit_ext {W W' : World} {g : Nat} {o : Obj} (e : Aside (Ext W W')) (h : W.heap[g]? = some o) : W'.heap[g]? = some o := by
  rw [e.out.block g (Array.getElem?_eq_some_iff.1 h).1]; exact h
theorem lit_at {α : Type} {R : World → List Value → α → Prop} {W : World} {e : TypeId} {k base g0 : Nat} (h : W.heap[g0]? = some (.cells #[] e)) (hb : base ≤ g0) : SO base e k R W (.slice (some ⟨g0, 0, none⟩) 0 0) ([] : List α) :=
  ⟨[], ⟨by simp, .inr ⟨g0, 0, #[], rfl, hb, h, Nat.le_refl _, by simp [maxLen], by simp, by simp⟩⟩, by simp, rfl⟩
end Go.Proofs.YtcbaipnphepbeaaGreatDoor

namespace Go.Proofs.YtcbaipnphepbeaaGreatDoor
open Go.RowKit

/-- The number 0. -/
def q0 : Rq := ⟨0, false, [], [1]⟩
theorem none_calls {w : World} :
    Calls Tryz.prog 126 #[] w fun e w' => ∃ r, e = .returned r ∧ RO w.heap.size w' r q0 ∧ Ext w w' := by
  go_enter Tryz.func126, Tryz.ntmps126
  go_wp2
  refine bodyPost_ret (v := .agg #[.int .i64 0, .bool false, .slice none 0 0, .slice (some ⟨w.heap.size + 1, 0, none⟩) 1 1]) (by simp [results, Tryz.results126, go_sem]) rfl ⟨_, rfl, ⟨_, _, rfl, OV.nil _ _, ?_⟩, ((Ext.refl w).alloc _).alloc _⟩
  have h := OV.lit (w.alloc (.cells #[.int .i64 0, .bool false, .slice none 0 0, .slice (some ⟨w.heap.size + 1, 0, none⟩) 1 1] 83)) [1] (by decide) (Ds.cons (by decide) Ds.nil)
  have e : (w.alloc (.cells #[.int .i64 0, .bool false, .slice none 0 0, .slice (some ⟨w.heap.size + 1, 0, none⟩) 1 1] 83)).heap.size = w.heap.size + 1 := by simp
  rw [e] at h
  exact h.mono (Nat.le_succ _)
/-- The zero of a type. -/
def zeroQ (k : Int) (ds : List Int) : Vq := ⟨k, ds, if k = 1 then List.replicate (prodI ds).toNat q0 else [], if k = 1 then [] else List.replicate (prodI ds).toNat ⟨0, false⟩⟩
/-- A struct of four cells that can be stored to, in block g. -/
abbrev B4 (w : World) (g : Nat) (x0 x1 x2 x3 : Value) : Prop :=
  (w.cell? ⟨g, 0, none⟩ = some x0 ∧ w.cell? ⟨g, 1, none⟩ = some x1 ∧ w.cell? ⟨g, 2, none⟩ = some x2 ∧ w.cell? ⟨g, 3, none⟩ = some x3) ∧
  (w.frozen? ⟨g, 0, none⟩ = false ∧ w.frozen? ⟨g, 1, none⟩ = false ∧ w.frozen? ⟨g, 2, none⟩ = false ∧ w.frozen? ⟨g, 3, none⟩ = false)
theorem B4.lt {w : World} {g : Nat} {x0 x1 x2 x3 : Value} (h : B4 w g x0 x1 x2 x3) : g < w.heap.size := World.block_lt_of_cell? w ⟨g, 0, none⟩ h.1.1
theorem B4.below {w w1 : World} {g n : Nat} {x0 x1 x2 x3 : Value} (h : B4 w g x0 x1 x2 x3) (hg : g < n) (b : Below n w w1) : B4 w1 g x0 x1 x2 x3 := by
  obtain ⟨⟨h1, h2, h3, h4⟩, f1, f2, f3, f4⟩ := h
  have hc : ∀ {j : Nat} {v : Value}, w.cell? ⟨g, j, none⟩ = some v → w1.cell? ⟨g, j, none⟩ = some v := fun h => (Below.cell b hg).trans h
  have hf : ∀ {j : Nat}, w.frozen? ⟨g, j, none⟩ = false → w1.frozen? ⟨g, j, none⟩ = false := fun h => (Below.frozen b hg).trans h
  exact ⟨⟨hc h1, hc h2, hc h3, hc h4⟩, hf f1, hf f2, hf f3, hf f4⟩
theorem B4.ext {w w1 : World} {g : Nat} {x0 x1 x2 x3 : Value} (h : B4 w g x0 x1 x2 x3) (e : Ext w w1) : B4 w1 g x0 x1 x2 x3 := h.below h.lt e
theorem B4.new {w : World} {g : Nat} (hg : g = w.heap.size) (x0 x1 x2 x3 : Value) (t : TypeId) : B4 (w.alloc (.cells #[x0, x1, x2, x3] t)) g x0 x1 x2 x3 := by
  subst hg
  exact ⟨⟨cell_new rfl rfl, cell_new rfl rfl, cell_new rfl rfl, cell_new rfl rfl⟩, by simp, by simp, by simp, by simp⟩
theorem B4.other {w : World} {g : Nat} {x0 x1 x2 x3 : Value} (h : B4 w g x0 x1 x2 x3) {p : Addr} (hp : p.block ≠ g) (v : Value) : B4 (w.setCell p v) g x0 x1 x2 x3 := by
  obtain ⟨⟨h1, h2, h3, h4⟩, f1, f2, f3, f4⟩ := h
  have hc : ∀ {j : Nat} {u : Value}, w.cell? ⟨g, j, none⟩ = some u → (w.setCell p v).cell? ⟨g, j, none⟩ = some u := fun h => (World.cell?_setCell_other _ _ _ v (by rintro rfl; exact hp rfl)).trans h
  exact ⟨⟨hc h1, hc h2, hc h3, hc h4⟩, by rw [World.frozen?_setCell]; exact f1, by rw [World.frozen?_setCell]; exact f2, by rw [World.frozen?_setCell]; exact f3, by rw [World.frozen?_setCell]; exact f4⟩
theorem B4.put {w : World} {g : Nat} {x0 x1 x2 x3 : Value} (h : B4 w g x0 x1 x2 x3) (j : Nat) (v : Value) :
    B4 (w.setCell ⟨g, j, none⟩ v) g (if j = 0 then v else x0) (if j = 1 then v else x1) (if j = 2 then v else x2) (if j = 3 then v else x3) := by
  obtain ⟨⟨h1, h2, h3, h4⟩, f1, f2, f3, f4⟩ := h
  have hc : ∀ {k : Nat} {u : Value}, w.cell? ⟨g, k, none⟩ = some u → (w.setCell ⟨g, j, none⟩ v).cell? ⟨g, k, none⟩ = some (if j = k then v else u) := by
    intro k u h
    by_cases hk : j = k
    · subst hk; rw [if_pos rfl]; exact World.cell?_setCell_same _ _ v h
    · rw [if_neg hk]; exact (World.cell?_setCell_other _ _ _ v (by intro hh; injection hh with _ hh; omega)).trans h
  exact ⟨⟨hc h1, hc h2, hc h3, hc h4⟩, by rw [World.frozen?_setCell]; exact f1, by rw [World.frozen?_setCell]; exact f2, by rw [World.frozen?_setCell]; exact f3, by rw [World.frozen?_setCell]; exact f4⟩
/-- A box of a type and a result of four cells. -/
abbrev KZ (w : World) (x0 x1 : Value) (w' : World) : Prop :=
  Aside (Ext w w') ∧ (w'.cell? ⟨w.heap.size, 0, none⟩ = some x0 ∧ w'.cell? ⟨w.heap.size, 1, none⟩ = some x1) ∧
    (Fits w' ⟨w.heap.size + 1, 0, none⟩ ∧ Fits w' ⟨w.heap.size + 1, 1, none⟩ ∧ Fits w' ⟨w.heap.size + 1, 2, none⟩ ∧ Fits w' ⟨w.heap.size + 1, 3, none⟩)
theorem KZ.below {w w1 w2 : World} {x0 x1 : Value} (h : KZ w x0 x1 w1) (b : Below (w.heap.size + 2) w1 w2) : KZ w x0 x1 w2 := by
  obtain ⟨h0, ⟨h1, h2⟩, ⟨h5, h6, h7, h8⟩⟩ := h
  have hc : ∀ {g j : Nat} {v : Value}, g < w.heap.size + 2 → w1.cell? ⟨g, j, none⟩ = some v → w2.cell? ⟨g, j, none⟩ = some v := fun hg h => (Below.cell b hg).trans h
  have hf : ∀ {g j : Nat}, g < w.heap.size + 2 → w1.frozen? ⟨g, j, none⟩ = false → w2.frozen? ⟨g, j, none⟩ = false := fun hg h => (Below.frozen b hg).trans h
  have hF : ∀ {g j : Nat}, g < w.heap.size + 2 → Fits w1 ⟨g, j, none⟩ → Fits w2 ⟨g, j, none⟩ := fun hg h => Fits.of (hc hg h.1) (hf hg h.2)
  exact ⟨⟨Below.trans h0.out (Below.mono b (by omega))⟩, ⟨hc (by omega) h1, hc (by omega) h2⟩, ⟨hF (by omega) h5, hF (by omega) h6, hF (by omega) h7, hF (by omega) h8⟩⟩
theorem KZ.lt {w w1 : World} {x0 x1 : Value} (h : KZ w x0 x1 w1) : w.heap.size + 2 ≤ w1.heap.size := World.block_lt_of_cell? w1 ⟨w.heap.size + 1, 0, none⟩ h.2.2.1.1
theorem KZ.ext {w w1 w2 : World} {x0 x1 : Value} (e : Ext w1 w2) (h : KZ w x0 x1 w1) : KZ w x0 x1 w2 := h.below (Below.mono e h.lt)
theorem KZ.init (w : World) (x0 x1 z0 z1 z2 z3 : Value) (t t' : TypeId) : KZ w x0 x1 ((w.alloc (.cells #[x0, x1] t)).alloc (.cells #[z0, z1, z2, z3] t')) :=
  ⟨⟨((Ext.refl w).alloc _).alloc _⟩, ⟨cell_old (cell_new rfl rfl), cell_old (cell_new rfl rfl)⟩,
    ⟨fits_new (v := z0) (by simp) rfl, fits_new (v := z1) (by simp) rfl, fits_new (v := z2) (by simp) rfl, fits_new (v := z3) (by simp) rfl⟩⟩
end Go.Proofs.YtcbaipnphepbeaaGreatDoor

namespace Go.Proofs.YtcbaipnphepbeaaGreatDoor
open Go.RowKit
attribute [local go_sem ↓] Go.wp_at_zero Go.wp_at_succ

theorem TakeP.bad {base rb : Nat} {w w' : World} {v : Value} {ws : List (List UInt8)} (h : Below base w w') : TakeP base rb w v ws none (.returned (.tuple #[.slice none 0 0, .bool false])) w' := ⟨rfl, h⟩
theorem TakeP.ok {base rb : Nat} {w w' : World} {v v' x : Value} {ws nw : List (List UInt8)} {dims : List Int} {r : List UInt8} (h1 : SO w.heap.size 3 1 IntC w' x dims) (h2 : RBox w' rb (bs r) v') (h3 : Rdr base w' rb v' (ws ++ nw)) (h4 : FR base rb v v' w w') :
    TakeP base rb w v ws (some (dims, r, nw)) (.returned (.tuple #[x, .bool true])) w' := ⟨x, v', rfl, h1, h2, h3, h4⟩
theorem bs_to {l : List UInt8} {n : Nat} : (bs l).extract 0 n = bs (l.take n) := by
  apply ByteArray.ext
  show ((bs l).extract 0 n).data = (l.take n).toArray
  rw [ByteArray.data_extract]
  show l.toArray.extract 0 n = _
  simp
theorem bs_from {l : List UInt8} {n k : Nat} (hk : k = l.length) : (bs l).extract n k = bs (l.drop n) := by
  subst hk
  apply ByteArray.ext
  show ((bs l).extract n l.length).data = (l.drop n).toArray
  rw [ByteArray.data_extract]
  show l.toArray.extract n l.length = _
  simp
  rw [List.take_of_length_le (by simp)]
theorem take_word_len (l : List UInt8) : l.take (wordT l).length = wordT l ∧ l.drop (wordT l).length = restT l := by
  have h := word_rest l
  generalize wordT l = a at *
  generalize restT l = b at *
  subst h
  exact ⟨List.take_left' rfl, List.drop_left' rfl⟩
set_option maxRecDepth 10000 in
set_option maxHeartbeats 2000000 in
theorem take_word {P : List UInt8 → Prop} (hI : IA P) {base rb : Nat} {w : World} {v : Value} {ws : List (List UInt8)} {l : List UInt8} {deep : Int} (hb : RBox w rb (bs l) v) (hr : Rdr base w rb v ws) (hP : P l) (hl : l.length ≤ 20000) (hws : ws.length < 1073741824) (h : l.head? ≠ some 123) :
    Calls Tryz.prog 75 #[.pointer (some ⟨rb, 0, none⟩), .int .i64 deep] w (TakeP base rb w v ws (some ([], restT l, [wordT l]))) := by
  have HR := Aside.mk hr
  have HC0 := Aside.mk (cut1_no (w := w) h)
  have hia := hI.calls l w hP hl
  rw [indexAny_sep] at hia
  have hn := wordT_len l
  have e1 := bs_to (l := l) (n := (wordT l).length)
  have e2 := bs_from (l := l) (n := (wordT l).length) (bs_size l)
  rw [(take_word_len l).1] at e1
  rw [(take_word_len l).2] at e2
  have hsz := bs_size l
  obtain ⟨n, hn'⟩ : ∃ n, (wordT l).length = n := ⟨_, rfl⟩
  obtain ⟨s0, hs0⟩ : ∃ s, bs l = s := ⟨_, rfl⟩
  obtain ⟨sw, hsw⟩ : ∃ s, bs (wordT l) = s := ⟨_, rfl⟩
  have HSW := Aside.mk hsw
  have HL : Aside ((ws.map bs).length + [sw].length ≤ 1073741824) := ⟨by simp; omega⟩
  obtain ⟨nw1, hnw1⟩ : ∃ n, (ws.map bs ++ [sw]).length = n := ⟨_, rfl⟩
  have HLEN := Aside.mk hnw1
  have HNE : Aside (some rb ≠ v.ownBlock) := ⟨fun e => hr.ne e.symm⟩
  rw [hs0] at hb HC0 hia e1 e2 hsz
  rw [hn'] at hn hia e1 e2
  rw [hsw] at e1
  by_cases h0 : restT l = []
  · rw [if_pos h0] at hia
    have HIA := Aside.mk hia
    have hn0 : n = s0.size := by
      have := congrArg List.length (word_rest l)
      rw [List.length_append, h0, hn'] at this
      rw [hsz, ← this]; rfl
    subst hn0
    have HRS : Aside (bs (restT l) = ByteArray.empty) := ⟨by rw [h0]; rfl⟩
    have E1 := Aside.mk e1
    have hz : s0.size ≤ 20000 := by omega
    clear hr hia hn e2 hsz hn' hs0 hsw hnw1 h h0 hP hl hws
    go_enter Tryz.func75, Tryz.ntmps75
    go_wp2_with (first | (go_at_call 78; with_reducible refine HC0.out.mono ?_; rintro e w' ⟨rfl, rfl⟩) | (go_at_call 113; with_reducible refine HIA.out.mono ?_; rintro e w1 ⟨rfl, he⟩; have hb1 := RBox.ext he hb; have HE := Aside.mk he; clear he))
    have HO : Aside (SO base 9 1 StrC (w1.alloc (.cells #[.string sw] 9)).drew v (ws.map bs)) := ⟨HR.out.row.ext StrC.ext ((HE.out.alloc _).drew)⟩
    have HS1 : Aside (SV 1 StrC (w1.alloc (.cells #[.string sw] 9)).drew (.slice (some ⟨w1.heap.size, 0, none⟩) 1 1) [sw]) := ⟨one_str.ext StrC.ext ((Ext.refl _).drew)⟩
    have hbW : RBox (w1.alloc (.cells #[.string sw] 9)).drew rb s0 v := RBox.ext (((Ext.refl w1).alloc _).drew) hb1
    have HB1 : Aside (base ≤ (w1.alloc (.cells #[.string sw] 9)).drew.heap.size) := ⟨Nat.le_trans HR.out.low (Nat.le_of_lt hbW.lt)⟩
    have hb1' : RBox w1.drew rb s0 v := RBox.ext ((Ext.refl w1).drew) hb1
    go_region_law ((refine step_append_so2 (R := StrC) (W := (w1.alloc (.cells #[.string sw] 9)).drew) base elemStr rfl (.tmp 41) (.tmp 48) rfl v (.slice (some ⟨w1.heap.size, 0, none⟩) 1 1) (ws.map bs) [sw] HO.out HS1.out StrC.one (fun _ _ _ _ h => h) (by simp [Act.eval]) (by simp [Act.eval]) HB1.out HL.out ?_; rintro v1 w4 ho hg hw; have hb4 := RBox.same hbW (hg.block rb (RBox.lt hbW) HNE.out); obtain ⟨A5, c5, rfl, _⟩ := ho.sv.form; rw [HLEN.out] at ho hw ⊢; have HO4 := Aside.mk ho; have HG := Aside.mk hg; have HW := Aside.mk hw; clear ho hg hw))
    all_goals
      go_wp2_with fail
      go_ret2
      have HF : FR base rb v (.slice A5 nw1 c5) w w4 := (FR.of_ext (Nat.le_trans HR.out.low (Nat.le_of_lt HR.out.lt)) ((HE.out.alloc _).drew)).trans (FR.grown HB1.out HO.out.low HG.out HW.out)
      have HRD : Rdr base w4 rb (.slice A5 nw1 c5) (ws ++ [wordT l]) := ⟨HR.out.low, Nat.lt_of_lt_of_le hbW.lt HG.out.size, by rw [List.map_append, List.map_cons, List.map_nil, HSW.out]; exact HO4.out, by
        rcases HW.out with h | h
        · rw [h]; exact HR.out.ne
        · rw [h]; intro e; injection e with e; exact absurd hbW.lt (by omega)⟩
      exact TakeP.ok SO.nil (by rw [HRS.out]; exact (hb4.put1 _).put0 _) ((HRD.set 1 _).set 0 _) ((HF.trans (FR.set HR.out.low 1 _)).trans (FR.set HR.out.low 0 _))
  · rw [if_neg h0] at hia
    have HIA := Aside.mk hia
    have hz : s0.size ≤ 20000 := by omega
    have hz2 : n ≤ s0.size := by omega
    have HRS : Aside (bs (restT l) = s0.extract n s0.size) := ⟨e2.symm⟩
    clear hr hia hn e2 hsz hn' hs0 hsw hnw1 h h0 hP hl hws
    go_enter Tryz.func75, Tryz.ntmps75
    go_wp2_with (first | (go_at_call 78; with_reducible refine HC0.out.mono ?_; rintro e w' ⟨rfl, rfl⟩) | (go_at_call 113; with_reducible refine HIA.out.mono ?_; rintro e w1 ⟨rfl, he⟩; have hb1 := RBox.ext he hb; have HE := Aside.mk he; clear he))
    have HO : Aside (SO base 9 1 StrC (w1.alloc (.cells #[.string sw] 9)).drew v (ws.map bs)) := ⟨HR.out.row.ext StrC.ext ((HE.out.alloc _).drew)⟩
    have HS1 : Aside (SV 1 StrC (w1.alloc (.cells #[.string sw] 9)).drew (.slice (some ⟨w1.heap.size, 0, none⟩) 1 1) [sw]) := ⟨one_str.ext StrC.ext ((Ext.refl _).drew)⟩
    have hbW : RBox (w1.alloc (.cells #[.string sw] 9)).drew rb s0 v := RBox.ext (((Ext.refl w1).alloc _).drew) hb1
    have HB1 : Aside (base ≤ (w1.alloc (.cells #[.string sw] 9)).drew.heap.size) := ⟨Nat.le_trans HR.out.low (Nat.le_of_lt hbW.lt)⟩
    have hb1' : RBox w1.drew rb s0 v := RBox.ext ((Ext.refl w1).drew) hb1
    go_region_law ((refine step_append_so2 (R := StrC) (W := (w1.alloc (.cells #[.string sw] 9)).drew) base elemStr rfl (.tmp 41) (.tmp 48) rfl v (.slice (some ⟨w1.heap.size, 0, none⟩) 1 1) (ws.map bs) [sw] HO.out HS1.out StrC.one (fun _ _ _ _ h => h) (by simp [Act.eval]) (by simp [Act.eval]) HB1.out HL.out ?_; rintro v1 w4 ho hg hw; have hb4 := RBox.same hbW (hg.block rb (RBox.lt hbW) HNE.out); obtain ⟨A5, c5, rfl, _⟩ := ho.sv.form; rw [HLEN.out] at ho hw ⊢; have HO4 := Aside.mk ho; have HG := Aside.mk hg; have HW := Aside.mk hw; clear ho hg hw))
    all_goals
      go_wp2_with fail
      go_ret2
      have HF : FR base rb v (.slice A5 nw1 c5) w w4 := (FR.of_ext (Nat.le_trans HR.out.low (Nat.le_of_lt HR.out.lt)) ((HE.out.alloc _).drew)).trans (FR.grown HB1.out HO.out.low HG.out HW.out)
      have HRD : Rdr base w4 rb (.slice A5 nw1 c5) (ws ++ [wordT l]) := ⟨HR.out.low, Nat.lt_of_lt_of_le hbW.lt HG.out.size, by rw [List.map_append, List.map_cons, List.map_nil, HSW.out]; exact HO4.out, by
        rcases HW.out with h | h
        · rw [h]; exact HR.out.ne
        · rw [h]; intro e; injection e with e; exact absurd hbW.lt (by omega)⟩
      exact TakeP.ok SO.nil (by rw [HRS.out]; exact (hb4.put1 _).put0 _) ((HRD.set 1 _).set 0 _) ((HF.trans (FR.set HR.out.low 1 _)).trans (FR.set HR.out.low 0 _))
end Go.Proofs.YtcbaipnphepbeaaGreatDoor

namespace Go.Proofs.YtcbaipnphepbeaaGreatDoor
open Go.RowKit
attribute [local go_sem ↓] Go.wp_at_zero Go.wp_at_succ

/-- At the fourth bracket. -/
theorem take_deep {base rb : Nat} {w : World} {v : Value} {ws : List (List UInt8)} {l : List UInt8} (hb : RBox w rb (bs (123 :: l)) v) :
    Calls Tryz.prog 75 #[.pointer (some ⟨rb, 0, none⟩), .int .i64 3] w (TakeP base rb w v ws none) := by
  have HC0 := Aside.mk (cut1_yes (w := w) (c := 123) (t := l))
  go_enter Tryz.func75, Tryz.ntmps75
  go_wp2_with (go_at_call 78; with_reducible refine HC0.out.mono ?_; rintro e w' ⟨rfl, rfl⟩)
  go_ret2
  exact TakeP.bad (Below.refl _ _)
/-- What a call of take within take leaves. -/
theorem TakeP.form {base rb : Nat} {w w' : World} {v : Value} {ws nw : List (List UInt8)} {dims : List Int} {r : List UInt8} {e : Ending} (h : TakeP base rb w v ws (some (dims, r, nw)) e w') :
    ∃ (A : Option Addr) (d c : Nat) (B : Option Addr) (n k : Nat), e = .returned (.tuple #[.slice A d c, .bool true]) ∧ dims.length = d ∧ SO w.heap.size 3 1 IntC w' (.slice A d c) dims ∧ RBox w' rb (bs r) (.slice B n k) ∧ Rdr base w' rb (.slice B n k) (ws ++ nw) ∧ FR base rb v (.slice B n k) w w' := by
  obtain ⟨x, v', rfl, h1, h2, h3, h4⟩ := h
  obtain ⟨A, c, rfl, _⟩ := h1.sv.form
  obtain ⟨B, k, rfl, _⟩ := h3.row.sv.form
  exact ⟨A, _, c, B, _, k, rfl, rfl, h1, h2, h3, h4⟩
theorem TakeP.none' {base rb : Nat} {w w' : World} {v : Value} {ws : List (List UInt8)} {e : Ending} (h : TakeP base rb w v ws none e w') : e = .returned (.tuple #[.slice none 0 0, .bool false]) ∧ Below base w w' := h

theorem takeL_none {f : List UInt8 → Option (List Int × List UInt8 × List (List UInt8))} {k n : Nat} {first : List Int} {s : List UInt8} {ws : List (List UInt8)} (h : f s = none) : takeL f (k + 1) n first s ws = none := by rw [takeL, h]
theorem takeL_ne {f : List UInt8 → Option (List Int × List UInt8 × List (List UInt8))} {k n : Nat} {first d : List Int} {s r : List UInt8} {ws nw : List (List UInt8)} (h : f s = some (d, r, nw)) (hn : 1 < n) (hd : d ≠ first) : takeL f (k + 1) n first s ws = none := by
  rw [takeL, h]; simp only; rw [if_pos ⟨hn, hd⟩]
theorem takeL_end {f : List UInt8 → Option (List Int × List UInt8 × List (List UInt8))} {k n : Nat} {first d : List Int} {s r : List UInt8} {ws nw : List (List UInt8)} (h : f s = some (d, 125 :: r, nw)) (hn : ¬ (1 < n ∧ d ≠ first)) : takeL f (k + 1) n first s ws = some ((n : Int) :: d, r, ws ++ nw) := by
  rw [takeL, h]; simp only; rw [if_neg hn, if_pos trivial]
theorem takeL_next {f : List UInt8 → Option (List Int × List UInt8 × List (List UInt8))} {k n : Nat} {first d : List Int} {s r : List UInt8} {ws nw : List (List UInt8)} (h : f s = some (d, 44 :: 32 :: r, nw)) (hn : ¬ (1 < n ∧ d ≠ first)) : takeL f (k + 1) n first s ws = takeL f k (n + 1) d r (ws ++ nw) := by
  rw [takeL, h]; simp only; rw [if_neg hn, if_neg (by decide), if_pos ⟨trivial, trivial⟩]
theorem takeL_bad {f : List UInt8 → Option (List Int × List UInt8 × List (List UInt8))} {k n : Nat} {first d : List Int} {s r : List UInt8} {ws nw : List (List UInt8)} (h : f s = some (d, r, nw)) (h1 : r.head? ≠ some 125) (h2 : ∀ t, r ≠ 44 :: 32 :: t) : takeL f (k + 1) n first s ws = none := by
  rw [takeL, h]
  simp only
  split
  · rfl
  · match r, h1, h2 with
    | [], _, _ => rfl
    | [c], h1, _ =>
      simp only
      rw [if_neg (fun e => h1 (by rw [e]; rfl))]
    | c :: d :: t, h1, h2 =>
      simp only
      rw [if_neg (fun e => h1 (by rw [e]; rfl)), if_neg (fun e => h2 t (by rw [e.1, e.2]))]
/-- What is left is an end of the text. -/
theorem takeL_drop {f : List UInt8 → Option (List Int × List UInt8 × List (List UInt8))} (hf : ∀ s d r w, f s = some (d, r, w) → ∃ n, r = s.drop n) :
    ∀ (k n : Nat) (first : List Int) (s : List UInt8) (ws : List (List UInt8)) d r w, takeL f k n first s ws = some (d, r, w) → ∃ n, r = s.drop n
  | 0, _, _, _, _, _, _, _, h => by cases h
  | k + 1, n, first, s, ws, d, r, w, h => by
    cases hfs : f s with
    | none => rw [takeL_none hfs] at h; cases h
    | some x =>
      obtain ⟨d0, r0, w0⟩ := x
      obtain ⟨i, hi⟩ := hf _ _ _ _ hfs
      by_cases hc : 1 < n ∧ d0 ≠ first
      · rw [takeL_ne hfs hc.1 hc.2] at h; cases h
      · by_cases h1 : r0.head? = some 125
        · obtain ⟨t, rfl⟩ : ∃ t, r0 = 125 :: t := by
            cases r0 with
            | nil => cases h1
            | cons c t => injection h1 with h1; subst h1; exact ⟨t, rfl⟩
          rw [takeL_end hfs hc] at h
          injection h with h; injection h with h1 h2; injection h2 with h2 h3
          subst h2
          exact ⟨i + 1, by rw [← List.drop_drop, ← hi]; rfl⟩
        · by_cases h2 : ∃ t, r0 = 44 :: 32 :: t
          · obtain ⟨t, rfl⟩ := h2
            rw [takeL_next hfs hc] at h
            obtain ⟨j, hj⟩ := takeL_drop hf k (n + 1) d0 t _ d r w h
            exact ⟨i + 2 + j, by rw [hj, ← List.drop_drop, ← List.drop_drop, ← hi]; rfl⟩
          · rw [takeL_bad hfs h1 (fun t e => h2 ⟨t, e⟩)] at h; cases h
theorem takeF_drop : ∀ (m : Nat) (s : List UInt8) d r w, takeF m s = some (d, r, w) → ∃ n, r = s.drop n
  | 0, s, d, r, w, h => by
    unfold takeF at h
    split at h
    · cases h
    · injection h with h; injection h with h1 h2; injection h2 with h2 h3
      subst h2
      exact ⟨_, (take_word_len s).2.symm⟩
  | m + 1, s, d, r, w, h => by
    unfold takeF at h
    split at h
    · obtain ⟨n, hn⟩ := takeL_drop (fun s d r w hh => takeF_drop m s d r w hh) 8 1 [] s.tail [] d r w h
      exact ⟨1 + n, by rw [hn, ← List.drop_drop, List.drop_one]⟩
    · injection h with h; injection h with h1 h2; injection h2 with h2 h3
      subst h2
      exact ⟨_, (take_word_len s).2.symm⟩
theorem takeL_dims {f : List UInt8 → Option (List Int × List UInt8 × List (List UInt8))} {M : Nat} (hf : ∀ s d r w, f s = some (d, r, w) → d.length ≤ M) :
    ∀ (k n : Nat) (first : List Int) (s : List UInt8) (ws : List (List UInt8)) d r w, takeL f k n first s ws = some (d, r, w) → d.length ≤ M + 1
  | 0, _, _, _, _, _, _, _, h => by cases h
  | k + 1, n, first, s, ws, d, r, w, h => by
    cases hfs : f s with
    | none => rw [takeL_none hfs] at h; cases h
    | some x =>
      obtain ⟨d0, r0, w0⟩ := x
      have hd := hf _ _ _ _ hfs
      by_cases hc : 1 < n ∧ d0 ≠ first
      · rw [takeL_ne hfs hc.1 hc.2] at h; cases h
      · by_cases h1 : r0.head? = some 125
        · obtain ⟨t, rfl⟩ : ∃ t, r0 = 125 :: t := by
            cases r0 with
            | nil => cases h1
            | cons c t => injection h1 with h1; subst h1; exact ⟨t, rfl⟩
          rw [takeL_end hfs hc] at h
          injection h with h; injection h with h1 h2
          rw [← h1]; simpa using hd
        · by_cases h2 : ∃ t, r0 = 44 :: 32 :: t
          · obtain ⟨t, rfl⟩ := h2
            rw [takeL_next hfs hc] at h
            exact takeL_dims hf k (n + 1) d0 t _ d r w h
          · rw [takeL_bad hfs h1 (fun t e => h2 ⟨t, e⟩)] at h; cases h
theorem takeF_dims : ∀ (m : Nat) (s : List UInt8) d r w, takeF m s = some (d, r, w) → d.length ≤ m
  | 0, s, d, r, w, h => by
    unfold takeF at h
    split at h
    · cases h
    · injection h with h; injection h with h1 h2
      rw [← h1]; simp
  | m + 1, s, d, r, w, h => by
    unfold takeF at h
    split at h
    · exact takeL_dims (fun s d r w hh => takeF_dims m s d r w hh) 8 1 [] s.tail [] d r w h
    · injection h with h; injection h with h1 h2
      rw [← h1]; simp
theorem round_len {a n E : Nat} (h : a ≤ (n - 1) * E) (hn : 1 ≤ n) (h8 : n ≤ 8) : a + E ≤ n * E ∧ n * E ≤ 8 * E := by
  refine ⟨?_, Nat.mul_le_mul_right _ h8⟩
  have : n * E = (n - 1) * E + E := by
    obtain ⟨k, rfl⟩ : ∃ k, n = k + 1 := ⟨n - 1, by omega⟩
    rw [Nat.succ_mul]; rfl
  omega
end Go.Proofs.YtcbaipnphepbeaaGreatDoor
