/- Storing four cells into an element of an owned row. make of rows of one-cell elements; rows of Bools; stores into rows. -/
import Derived.Test.YtcbaipnphepbeaaGreatDoorNq
namespace Go.Proofs.YtcbaipnphepbeaaGreatDoor
open Go.RowKit

theorem Rows.set4 {α : Type} {R : List Value → α → Prop} {v0 v1 v2 v3 : Value} {a : α} (ha : R [v0, v1, v2, v3] a) : ∀ {xs : List Value} {l : List α} (j : Nat), Rows 4 R xs l → j < l.length →
    Rows 4 R ((((xs.set (j * 4) v0).set (j * 4 + 1) v1).set (j * 4 + 2) v2).set (j * 4 + 3) v3) (l.set j a)
  | xs, [], j, h, hj => by simp at hj
  | xs, b :: l, 0, h, hj => by
    obtain ⟨c, t, rfl, hc, _, h⟩ := h
    obtain ⟨c0, c1, c2, c3, rfl⟩ : ∃ c0 c1 c2 c3, c = [c0, c1, c2, c3] := by
      match c, hc with
      | [c0, c1, c2, c3], _ => exact ⟨c0, c1, c2, c3, rfl⟩
    exact ⟨[v0, v1, v2, v3], t, by simp, rfl, ha, h⟩
  | xs, b :: l, j + 1, h, hj => by
    obtain ⟨c, t, rfl, hc, hb, h⟩ := h
    have ih := Rows.set4 ha j h (by simpa using hj)
    refine ⟨c, _, ?_, hc, hb, ih⟩
    have e : ∀ (u : List Value) (i : Nat) (v : Value), (c ++ u).set ((j + 1) * 4 + i) v = c ++ u.set (j * 4 + i) v := fun u i v => by
      rw [List.set_append_right _ _ (by omega)]
      congr 2
      omega
    have e0 : ∀ (u : List Value) (v : Value), (c ++ u).set ((j + 1) * 4) v = c ++ u.set (j * 4) v := fun u v => e u 0 v
    rw [e0, e, e, e]

/-- Four cells are stored into another row. -/
theorem SO.far4 {α : Type} {base : Nat} {e : TypeId} {k : Nat} {R : World → List Value → α → Prop} {w : World} {v : Value} {l : List α} (h : SO base e k R w v l) {g : Nat} (hg : v.ownBlock ≠ some g) (a b c d : Nat) (v0 v1 v2 v3 : Value)
    (hR : ∀ cs x, R w cs x → R ((((w.setCell ⟨g, a, none⟩ v0).setCell ⟨g, b, none⟩ v1).setCell ⟨g, c, none⟩ v2).setCell ⟨g, d, none⟩ v3) cs x) :
    SO base e k R ((((w.setCell ⟨g, a, none⟩ v0).setCell ⟨g, b, none⟩ v1).setCell ⟨g, c, none⟩ v2).setCell ⟨g, d, none⟩ v3) v l := by
  obtain ⟨xs, ho, hl, hr⟩ := h
  exact ⟨xs, ownsRow_set (p := ⟨g, d, none⟩) (ownsRow_set (p := ⟨g, c, none⟩) (ownsRow_set (p := ⟨g, b, none⟩) (ownsRow_set (p := ⟨g, a, none⟩) ho hg v0) hg v1) hg v2) hg v3, hl, hr.mono hR⟩
theorem SO.type {α : Type} {base : Nat} {e : TypeId} {k : Nat} {R : World → List Value → α → Prop} {w : World} {g n c : Nat} {l : List α} (h : SO base e k R w (.slice (some ⟨g, 0, none⟩) n c) l) : ∃ cs fr, w.heap[g]? = some (.cells cs e fr) := by
  obtain ⟨xs, ho, _⟩ := h
  rcases ho.2 with ⟨h', _⟩ | ⟨g', cap', cur, h', _, h3, _⟩
  · cases h'
  · injection h' with h' _ _
    injection h' with h'
    injection h' with h' _ _
    subst h'
    exact ⟨_, _, h3⟩
theorem SO.apart {α β : Type} {b b' : Nat} {e e' : TypeId} {k k' : Nat} {R : World → List Value → α → Prop} {S : World → List Value → β → Prop} {w : World} {v : Value} {g n c : Nat} {l : List α} {m : List β} (h : SO b e k R w v l) (h' : SO b' e' k' S w (.slice (some ⟨g, 0, none⟩) n c) m) (hne : e ≠ e') : v.ownBlock ≠ some g := by
  obtain ⟨cs, fr, hg⟩ := h'.type
  obtain ⟨xs, ho⟩ := h.row
  exact own_ne ho hg hne
theorem OV.far4 {base : Nat} {w : World} {v : Value} {xs : List Nat} (h : OV base w v xs) {g : Nat} (hg : v.ownBlock ≠ some g) (a b c d : Nat) (v0 v1 v2 v3 : Value) :
    OV base ((((w.setCell ⟨g, a, none⟩ v0).setCell ⟨g, b, none⟩ v1).setCell ⟨g, c, none⟩ v2).setCell ⟨g, d, none⟩ v3) v xs :=
  ⟨h.1, ownsRow_set (p := ⟨g, d, none⟩) (ownsRow_set (p := ⟨g, c, none⟩) (ownsRow_set (p := ⟨g, b, none⟩) (ownsRow_set (p := ⟨g, a, none⟩) h.2 hg v0) hg v1) hg v2) hg v3⟩
/-- Stores into a row of anything but digits leave every owned Rat as it reads. -/
theorem RatO.far4 {β : Type} {base b' : Nat} {e' : TypeId} {k' : Nat} {S : World → List Value → β → Prop} {w : World} {g n cp : Nat} {m : List β} (h' : SO b' e' k' S w (.slice (some ⟨g, 0, none⟩) n cp) m) (hne : 89 ≠ e') (a b c d : Nat) (v0 v1 v2 v3 : Value) :
    ∀ cs x, RatO base w cs x → RatO base ((((w.setCell ⟨g, a, none⟩ v0).setCell ⟨g, b, none⟩ v1).setCell ⟨g, c, none⟩ v2).setCell ⟨g, d, none⟩ v3) cs x := by
  obtain ⟨cs', fr, hg⟩ := h'.type
  rintro cs q ⟨x, y, h1, h2, h3⟩
  exact ⟨x, y, h1, h2.far4 (own_ne h2.2 hg hne) _ _ _ _ _ _ _ _, h3.far4 (own_ne h3.2 hg hne) _ _ _ _ _ _ _ _⟩
theorem SO.putQ {base : Nat} {w : World} {g n cap : Nat} {l : List Rq} (h : SO base 83 4 (RatO base) w (.slice (some ⟨g, 0, none⟩) n cap) l) (k : Nat) (hk : k < l.length) {q : Rq} {x y : Value} (hx : OV base w x q.num) (hy : OV base w y q.den) :
    SO base 83 4 (RatO base) ((((w.setCell ⟨g, k * 4, none⟩ (.int .i64 q.f)).setCell ⟨g, k * 4 + 1, none⟩ (.bool q.neg)).setCell ⟨g, k * 4 + 2, none⟩ x).setCell ⟨g, k * 4 + 3, none⟩ y) (.slice (some ⟨g, 0, none⟩) n cap) (l.set k q) := by
  have keep := RatO.far4 (base := base) h (by decide) (k * 4) (k * 4 + 1) (k * 4 + 2) (k * 4 + 3) (.int .i64 q.f) (.bool q.neg) x y
  obtain ⟨xs, ho, hl, hr⟩ := h
  have hn : n = l.length := by
    rcases ho.2 with ⟨h', _⟩ | ⟨g', cap', cur, h', _⟩
    · cases h'
    · injection h'
  subst hn
  have hlen := hr.length
  have o1 := (ho.stored (k * 4) (.int .i64 q.f)).1
  have o2 := (o1.stored (k * 4 + 1) (.bool q.neg)).1
  have o3 := (o2.stored (k * 4 + 2) x).1
  have o4 := (o3.stored (k * 4 + 3) y).1
  refine ⟨_, by simpa using o4, by simpa using hl, Rows.set4 (keep _ q ⟨x, y, rfl, hx, hy⟩) k (hr.mono keep) hk⟩
end Go.Proofs.YtcbaipnphepbeaaGreatDoor

namespace Go.Proofs.YtcbaipnphepbeaaGreatDoor
open Go.RowKit

section
variable {ops : Array Oper} {rest : List Oper} {o : Oper} {a : Act} {Q : Exit → Act → World → Prop}
end
theorem Rows.set1 {α : Type} {R : List Value → α → Prop} {v : Value} {a : α} (ha : R [v] a) : ∀ {xs : List Value} {l : List α} (j : Nat), Rows 1 R xs l → Rows 1 R (xs.set j v) (l.set j a)
  | xs, [], j, h => by
    have h : xs = [] := h
    subst h
    simp [Rows]
  | xs, b :: l, 0, h => by
    obtain ⟨c, t, rfl, hc, _, h⟩ := h
    obtain ⟨c0, rfl⟩ : ∃ c0, c = [c0] := by
      match c, hc with
      | [c0], _ => exact ⟨c0, rfl⟩
    exact ⟨[v], t, by simp, rfl, ha, h⟩
  | xs, b :: l, j + 1, h => by
    obtain ⟨c, t, rfl, hc, hb, h⟩ := h
    obtain ⟨c0, rfl⟩ : ∃ c0, c = [c0] := by
      match c, hc with
      | [c0], _ => exact ⟨c0, rfl⟩
    exact ⟨[c0], t.set j v, by simp, rfl, hb, Rows.set1 ha j h⟩
/-- A row of one-cell elements is stored into. -/
theorem SO.put1 {α : Type} {base : Nat} {e : TypeId} {R : World → List Value → α → Prop} (hRw : ∀ w w' c a, R w c a → R w' c a) {w : World} {g n cap : Nat} {l : List α} (h : SO base e 1 R w (.slice (some ⟨g, 0, none⟩) n cap) l) (j : Nat) {v : Value} {b : α} (hv : R w [v] b) :
    SO base e 1 R (w.setCell ⟨g, j, none⟩ v) (.slice (some ⟨g, 0, none⟩) n cap) (l.set j b) := by
  obtain ⟨xs, ho, hl, hr⟩ := h
  have hlen := hr.length
  have hn : n = l.length := by
    rcases ho.2 with ⟨h', _⟩ | ⟨g', cap', cur, h', _⟩
    · cases h'
    · injection h'
  subst hn
  have o1 := (ho.stored j v).1
  exact ⟨xs.set j v, by simpa using o1, by simpa using hl, Rows.set1 (hRw _ _ _ _ hv) j (hr.mono fun c a => hRw _ _ c a)⟩
end Go.Proofs.YtcbaipnphepbeaaGreatDoor
