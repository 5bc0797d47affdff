/- Arguments that are lists of structs, and values. -/
import Derived.Test.YtcbaipnphepbeaaGreatDoorNs
import Derived.Test.YtcbaipnphepbeaaGreatDoorNx
import Derived.Deep.Slices
namespace Go.Proofs.YtcbaipnphepbeaaGreatDoor
open Go.RowKit Go.ChangeShapes Go.WideShapes Go.ChangeAt

theorem rows_upto {α : Type} {k : Nat} {R : World → List Value → α → Prop} {W : World} {a : Addr} {len : Nat} (h : ∀ i, i < len → ∃ cs q, cs.length = k ∧ (∀ j, j < k → W.cell? ((a.add (i * k)).add j) = cs[j]?) ∧ R W cs q) :
    ∀ n, n ≤ len → ∃ (xs : List Value) (l : List α), l.length = n ∧ Rows k (R W) xs l ∧ ∀ j v, xs[j]? = some v → W.cell? (a.add j) = some v
  | 0, _ => ⟨[], [], rfl, rfl, fun j v hj => by cases hj⟩
  | n + 1, hn => by
    obtain ⟨xs, l, h1, h2, h3⟩ := rows_upto h n (by omega)
    obtain ⟨cs, q, c1, c2, c3⟩ := h n (by omega)
    refine ⟨xs ++ cs, l ++ [q], by simp [h1], h2.append (Rows.one c1 c3), ?_⟩
    intro j v hj
    have hx : xs.length = n * k := by rw [h2.length, h1]
    by_cases hlt : j < xs.length
    · rw [List.getElem?_append_left hlt] at hj
      exact h3 j v hj
    · rw [List.getElem?_append_right (by omega)] at hj
      have hjk : j - xs.length < k := by rw [← c1]; exact (List.getElem?_eq_some_iff.1 hj).1
      have := c2 (j - xs.length) hjk
      rw [hj, Go.Deep.add_add, hx, show n * k + (j - n * k) = j from by omega] at this
      exact this
theorem rows_of {α : Type} {k : Nat} {R : World → List Value → α → Prop} {t e : TypeId} {H : Type} {enc : TypeId × Value → H} {W : World} {n : Nat} {cs : List Value} {x : DataW H × List MemPlace} {held : Bool}
    (ht : Tryz.prog.underlying t = some (.slice e)) (hC : Tryz.prog.cellsOf e = k) (h : DataW.trod enc Tryz.prog W 0 (fun _ => true) held n t cs = some x)
    (hel : ∀ (cs' : List Value) (y : DataW H × List MemPlace) (m : Nat), cs'.length = k → DataW.trod enc Tryz.prog W 0 (fun _ => true) held m e cs' = some y → ∃ q, R W cs' q) :
    ∃ s l, cs = [s] ∧ RawL k R W s l := by
  rcases Go.Deep.open_slice ht h with ⟨rfl, _⟩ | ⟨a, len, cap, m, n', D, Pl, rfl, _, hl, hm, hmm, _, hx⟩
  · exact ⟨_, [], rfl, none, 0, [], rfl, Nat.le_refl _, by simp [maxLen], fun j v hj => by simp at hj, rfl⟩
  · have hcm : m = cap := by simpa using hmm
    obtain ⟨xs, l, h1, h2, h3⟩ := rows_upto (k := k) (R := R) (W := W) (a := a) (len := len) (fun i hi => by
      obtain ⟨cs', hc, ht'⟩ := hx i (by omega)
      rw [hC] at hc
      obtain ⟨_, hlen, hat⟩ := World.cells?_some hc
      obtain ⟨q, hq⟩ := hel cs' _ _ hlen ht'
      exact ⟨cs', q, hlen, hat, hq⟩) len (Nat.le_refl _)
    exact ⟨_, l, rfl, some a, cap, xs, by rw [h1], by omega, by omega, fun j v hj => ⟨a, rfl, h3 j v hj⟩, h2⟩
theorem list2 {cs : List Value} (h : cs.length = 2) : ∃ a b, cs = [a, b] := by
  match cs, h with
  | [a, b], _ => exact ⟨a, b, rfl⟩
theorem list4 {cs : List Value} (h : cs.length = 4) : ∃ a b c d, cs = [a, b, c, d] := by
  match cs, h with
  | [a, b, c, d], _ => exact ⟨a, b, c, d, rfl⟩
theorem Tryz.cRat : Tryz.prog.cellsOf 83 = 4 := by kernel_rfl
theorem Tryz.cErrno : Tryz.prog.cellsOf 32 = 1 := by kernel_rfl
theorem Tryz.cBool : Tryz.prog.cellsOf 4 = 1 := by kernel_rfl
theorem Tryz.cU32s : Tryz.prog.cellsOf 81 = 1 := by kernel_rfl
theorem Tryz.cBit : Tryz.prog.cellsOf 46 = 2 := by kernel_rfl
theorem Tryz.cType : Tryz.prog.cellsOf 25 = 2 := by kernel_rfl
theorem Tryz.cValue : Tryz.prog.cellsOf 29 = 4 := by kernel_rfl
theorem Tryz.cKind : Tryz.prog.cellsOf 22 = 1 := by kernel_rfl
theorem Tryz.cInts : Tryz.prog.cellsOf 23 = 1 := by kernel_rfl
theorem Tryz.cRats : Tryz.prog.cellsOf 26 = 1 := by kernel_rfl
theorem Tryz.cBits : Tryz.prog.cellsOf 27 = 1 := by kernel_rfl
section
variable {H : Type} {enc : TypeId × Value → H} {W : World} {held : Bool}
set_option maxRecDepth 100000 in
theorem ratC_of {cs : List Value} {x : DataW H × List MemPlace} {n : Nat} (hl : cs.length = 4) (h : DataW.trod enc Tryz.prog W 0 (fun _ => true) held n 83 cs = some x) : ∃ q, RatL W cs q := by
  obtain ⟨a, b, c, d, rfl⟩ := list4 hl
  obtain ⟨xs, m, _, _, _, hn, hel⟩ := DataW.trod_struct Tryz.underlying83 h
  have h0 := hel 0 _ rfl
  have h1 := hel 1 _ rfl
  have h2 := hel 2 _ rfl
  have h3 := hel 3 _ rfl
  rw [show Tryz.prog.cellsOf (Field.type _) = 1 from Tryz.cErrno] at h0
  rw [show Tryz.prog.cellsOf (Field.type _) = 1 from Tryz.cBool] at h1
  rw [show Tryz.prog.cellsOf (Field.type _) = 1 from Tryz.cU32s] at h2
  rw [show Tryz.prog.cellsOf (Field.type _) = 1 from Tryz.cU32s] at h3
  match xs, hn with
  | [y0, y1, y2, y3], _ =>
    obtain ⟨f, e0, _⟩ := DataW.trod_int Tryz.underlying32 (show DataW.trod enc Tryz.prog W 0 (fun _ => true) held m 32 [a] = some y0 from h0)
    obtain ⟨neg, e1, _⟩ := DataW.trod_bool Tryz.underlying4 (show DataW.trod enc Tryz.prog W 0 (fun _ => true) held m 4 [b] = some y1 from h1)
    obtain ⟨s0, l0, e2, r0⟩ := rl_of (show DataW.trod enc Tryz.prog W 0 (fun _ => true) held m 81 [c] = some y2 from h2)
    obtain ⟨s1, l1, e3, r1⟩ := rl_of (show DataW.trod enc Tryz.prog W 0 (fun _ => true) held m 81 [d] = some y3 from h3)
    simp only [List.cons.injEq, and_true] at e0 e1 e2 e3
    subst e0 e1 e2 e3
    exact ⟨⟨f, neg, l0, l1⟩, _, _, rfl, r0, r1⟩
set_option maxRecDepth 100000 in
theorem bitC_of {cs : List Value} {x : DataW H × List MemPlace} {n : Nat} (hl : cs.length = 2) (h : DataW.trod enc Tryz.prog W 0 (fun _ => true) held n 46 cs = some x) : ∃ q, BitC W cs q := by
  obtain ⟨a, b, rfl⟩ := list2 hl
  obtain ⟨xs, m, _, _, _, hn, hel⟩ := DataW.trod_struct Tryz.underlying46 h
  have h0 := hel 0 _ rfl
  have h1 := hel 1 _ rfl
  rw [show Tryz.prog.cellsOf (Field.type _) = 1 from Tryz.cErrno] at h0
  rw [show Tryz.prog.cellsOf (Field.type _) = 1 from Tryz.cBool] at h1
  match xs, hn with
  | [y0, y1], _ =>
    obtain ⟨f, e0, _⟩ := DataW.trod_int Tryz.underlying32 (show DataW.trod enc Tryz.prog W 0 (fun _ => true) held m 32 [a] = some y0 from h0)
    obtain ⟨neg, e1, _⟩ := DataW.trod_bool Tryz.underlying4 (show DataW.trod enc Tryz.prog W 0 (fun _ => true) held m 4 [b] = some y1 from h1)
    simp only [List.cons.injEq, and_true] at e0 e1
    subst e0 e1
    exact ⟨⟨f, neg⟩, rfl⟩
/-- A list of Rats. -/
theorem rats_of {cs : List Value} {x : DataW H × List MemPlace} {n : Nat} (h : DataW.trod enc Tryz.prog W 0 (fun _ => true) held n 26 cs = some x) : ∃ s l, cs = [s] ∧ RawL 4 RatL W s l :=
  rows_of Tryz.underlying26 Tryz.cRat h fun _ _ _ hl ht => ratC_of hl ht
/-- A list of Bits. -/
theorem bits_of {cs : List Value} {x : DataW H × List MemPlace} {n : Nat} (h : DataW.trod enc Tryz.prog W 0 (fun _ => true) held n 27 cs = some x) : ∃ s l, cs = [s] ∧ RawL 2 BitC W s l :=
  rows_of Tryz.underlying27 Tryz.cBit h fun _ _ _ hl ht => bitC_of hl ht
/-- A type's cells. -/
def TypL (w : World) (c : List Value) (q : Int × List Int) : Prop := ∃ s, c = [.int .i64 q.1, s] ∧ RawL 1 IntC w s q.2
set_option maxRecDepth 100000 in
theorem typC_of {cs : List Value} {x : DataW H × List MemPlace} {n : Nat} (hl : cs.length = 2) (h : DataW.trod enc Tryz.prog W 0 (fun _ => true) held n 25 cs = some x) : ∃ q, TypL W cs q := by
  obtain ⟨a, b, rfl⟩ := list2 hl
  obtain ⟨xs, m, _, _, _, hn, hel⟩ := DataW.trod_struct Tryz.underlying25 h
  have h0 := hel 0 _ rfl
  have h1 := hel 1 _ rfl
  rw [show Tryz.prog.cellsOf (Field.type _) = 1 from Tryz.cKind] at h0
  rw [show Tryz.prog.cellsOf (Field.type _) = 1 from Tryz.cInts] at h1
  match xs, hn with
  | [y0, y1], _ =>
    obtain ⟨f, e0, _⟩ := DataW.trod_int Tryz.underlying22 (show DataW.trod enc Tryz.prog W 0 (fun _ => true) held m 22 [a] = some y0 from h0)
    obtain ⟨s, ds, e1, hr⟩ := il_of (show DataW.trod enc Tryz.prog W 0 (fun _ => true) held m 23 [b] = some y1 from h1)
    simp only [List.cons.injEq, and_true] at e0 e1
    subst e0 e1
    exact ⟨(f, ds), _, rfl, hr⟩
set_option maxRecDepth 100000 in
theorem valC_of {cs : List Value} {x : DataW H × List MemPlace} {n : Nat} (hl : cs.length = 4) (h : DataW.trod enc Tryz.prog W 0 (fun _ => true) held n 29 cs = some x) : ∃ v, ValL W cs v := by
  obtain ⟨a, b, c, d, rfl⟩ := list4 hl
  obtain ⟨xs, m, _, _, _, hn, hel⟩ := DataW.trod_struct Tryz.underlying29 h
  have h0 := hel 0 _ rfl
  have h1 := hel 1 _ rfl
  have h2 := hel 2 _ rfl
  rw [show Tryz.prog.cellsOf (Field.type _) = 2 from Tryz.cType] at h0
  rw [show Tryz.prog.cellsOf (Field.type _) = 1 from Tryz.cRats] at h1
  rw [show Tryz.prog.cellsOf (Field.type _) = 1 from Tryz.cBits] at h2
  match xs, hn with
  | [y0, y1, y2], _ =>
    obtain ⟨q, s, e0, r0⟩ := typC_of (cs := [a, b]) rfl (show DataW.trod enc Tryz.prog W 0 (fun _ => true) held m 25 [a, b] = some y0 from h0)
    obtain ⟨s1, l1, e1, r1⟩ := rats_of (show DataW.trod enc Tryz.prog W 0 (fun _ => true) held m 26 [c] = some y1 from h1)
    obtain ⟨s2, l2, e2, r2⟩ := bits_of (show DataW.trod enc Tryz.prog W 0 (fun _ => true) held m 27 [d] = some y2 from h2)
    simp only [List.cons.injEq, and_true] at e0 e1 e2
    obtain ⟨rfl, rfl⟩ := e0
    subst e1 e2
    exact ⟨⟨q.1, q.2, l1, l2⟩, _, _, _, rfl, r0, r1, r2⟩
end
set_option maxRecDepth 100000 in
/-- An argument that is a value. -/
theorem val_of {H : Type} {enc : TypeId × Value → H} {W : World} {n base : Nat} {v : Value} {x : DataW H × List MemPlace} {held : Bool} (hv : Value.okWide Tryz.prog W .any base 29 v)
    (h : DataW.trod enc Tryz.prog W 0 (fun _ => true) held n 29 v.cells.toList = some x) : ∃ u, VL W v u := by
  simp only [Value.okWide, Tryz.underlying29] at hv
  obtain ⟨cs, rfl, hsz, _⟩ := hv
  obtain ⟨a, b, c, d, rfl⟩ := arr4 (hsz.trans Tryz.cValue)
  obtain ⟨u, d', n', b', e, r0, r1, r2⟩ := valC_of (show (Value.agg #[a, b, c, d]).cells.toList.length = 4 from rfl) h
  have e' : [a, b, c, d] = [.int .i64 u.k, d', n', b'] := e
  simp only [List.cons.injEq, and_true] at e'
  obtain ⟨rfl, rfl, rfl, rfl⟩ := e'
  exact ⟨u, _, _, _, rfl, r0, r1, r2⟩
end Go.Proofs.YtcbaipnphepbeaaGreatDoor
