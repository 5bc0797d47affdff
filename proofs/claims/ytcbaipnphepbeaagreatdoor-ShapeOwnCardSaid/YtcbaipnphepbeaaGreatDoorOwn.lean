/- The elements of an array, packed, are the array; plain. The law ShapeParts: it returns true. Rows that are stored into, whatever their elements are: what the loops of ShapeOwn keep. Contracts in the form that ShapeOwn asks for, and its rows of Values, types and Rats. The law ShapeOwn: it returns true. ShapeOwn: of every input the call returns true, and each argument reads behind it as it read before. ShapeOwn: the tied card holds: no function changes its arguments, and results are new memory. Conditions: the package-level variables that the row lists start as the program's text lays them (the tie is given). -/
import Derived.Test.YtcbaipnphepbeaaGreatDoorN3
import Derived.Test.YtcbaipnphepbeaaGreatDoorNw
import Derived.Test.YtcbaipnphepbeaaGreatDoorN9
import Derived.Test.YtcbaipnphepbeaaGreatDoorN2
import Derived.Test.YtcbaipnphepbeaaGreatDoorNx
import Derived.Test.YtcbaipnphepbeaaGreatDoorNr
import Derived.Test.YtcbaipnphepbeaaGreatDoorN1
import Derived.Test.YtcbaipnphepbeaaGreatDoorNy
import Derived.Shelf.RegionOpenPlain
import Derived.Test.YtcbaipnphepbeaaGreatDoorNu
import Derived.Test.YtcbaipnphepbeaaGreatDoorCards
import Derived.Test.YtcbaipnphepbeaaGreatDoorTie
import Derived.SevenTiedAt
namespace Go.Proofs.YtcbaipnphepbeaaGreatDoor
open Go.RowKit

end Go.Proofs.YtcbaipnphepbeaaGreatDoor

namespace Go.Proofs.YtcbaipnphepbeaaGreatDoor
open Go.RowKit
attribute [local go_sem ↓] Go.wp_at_zero Go.wp_at_succ

theorem fit_v {w : World} {tv xv yv : Value} {k : Int} {ds : List Int} {ns : List Rq} {bts : List Bq} (ht : IV w tv ds) (hk : k = 1 ∨ k = 2) (hd : Dims ds) (hn : QV w xv ns) (hb : BV w yv bts) :
    Calls Tryz.prog 23 #[.agg #[.int .i64 k, tv], xv, yv] w fun e w' => ∃ v D d A a B b l1 l2 l3, e = .returned (.agg #[.int .i64 k, .slice D l1 d, .slice A l2 a, .slice B l3 b]) ∧ VV w' (.agg #[.int .i64 k, .slice D l1 d, .slice A l2 a, .slice B l3 b]) v ∧ valOk v = true ∧ v.k = k ∧ v.ds = ds ∧ v.ds.length = l1 ∧ v.nums.length = l2 ∧ v.bits.length = l3 ∧ Ext w w' := by
  refine (fit_calls ⟨_, rfl, ht⟩ hd hn hb).mono ?_
  rintro e w' ⟨r, rfl, hr, he⟩
  obtain ⟨D, d, A, a, B, b, rfl⟩ := hr.vv.form
  exact ⟨_, D, d, A, a, B, b, _, _, _, rfl, hr.vv, fitV_ok hk hd, rfl, rfl, rfl, rfl, rfl, he⟩
theorem elem_vo {w : World} {x : Value} {v el : Vq} {i : Nat} {d ek : Int} {ds : List Int} {l1 l2 l3 : Nat} (h : VV w x v) (ho : valOk v = true) (hd : v.ds = d :: ds) (hi : (i : Int) < d) (hel : elemV v i = el) (hk : el.k = ek) (h1 : el.ds.length = l1) (h2 : el.nums.length = l2) (h3 : el.bits.length = l3) :
    Calls Tryz.prog 16 #[x, .int .i64 (i : Int)] w fun e w' => ∃ D d A a B b, e = .returned (.tuple #[.agg #[.int .i64 ek, .slice D l1 d, .slice A l2 a, .slice B l3 b], .int .i64 0]) ∧ VO w.heap.size w' (.agg #[.int .i64 ek, .slice D l1 d, .slice A l2 a, .slice B l3 b]) el ∧ Ext w w' := by
  subst hel hk h1 h2 h3
  refine (element_ok h ho hd hi).mono ?_
  rintro e w' ⟨r, rfl, hr, he⟩
  obtain ⟨D, d, A, a, B, b, rfl⟩ := hr.vv.form
  exact ⟨D, d, A, a, B, b, rfl, hr, he⟩
theorem tl_of_vv {w : World} {k : Int} {d n b : Value} {v : Vq} (h : VV w (.agg #[.int .i64 k, d, n, b]) v) : TL w (.agg #[.int .i64 k, d]) k v.ds := by
  obtain ⟨dv, nv, bv, hev, hiv, hqv, hbv⟩ := h
  simp only [Value.agg.injEq, Array.mk.injEq, List.cons.injEq, Value.int.injEq, true_and, and_true] at hev
  obtain ⟨rfl, rfl, rfl, rfl⟩ := hev
  exact TL.of hiv
theorem vv_nums {w : World} {k : Int} {d n b : Value} {v : Vq} (h : VV w (.agg #[.int .i64 k, d, n, b]) v) : IV w d v.ds ∧ QV w n v.nums ∧ BV w b v.bits := by
  obtain ⟨dv, nv, bv, hev, hiv, hqv, hbv⟩ := h
  simp only [Value.agg.injEq, Array.mk.injEq, List.cons.injEq, Value.int.injEq, true_and, and_true] at hev
  obtain ⟨rfl, rfl, rfl, rfl⟩ := hev
  exact ⟨hiv, hqv, hbv⟩
end Go.Proofs.YtcbaipnphepbeaaGreatDoor

namespace Go.Proofs.YtcbaipnphepbeaaGreatDoor
open Go.RowKit

/-- A block of elements of one type. -/
def Typ (w : World) (g : Nat) (t : TypeId) : Prop := ∃ cs fr, w.heap[g]? = some (.cells cs t fr)
theorem Typ.ne {w : World} {g g' : Nat} {t t' : TypeId} (h : Typ w g t) (h' : Typ w g' t') (hne : t ≠ t') : g ≠ g' := by
  rintro rfl
  obtain ⟨_, _, h1⟩ := h
  obtain ⟨_, _, h2⟩ := h'
  rw [h1] at h2
  injection h2 with h2
  injection h2 with _ h3 _
  exact hne h3
theorem Typ.set {w : World} {g : Nat} {t : TypeId} (h : Typ w g t) (b j : Nat) (v : Value) : Typ (w.setCell ⟨b, j, none⟩ v) g t := by
  obtain ⟨cs, fr, h⟩ := h
  by_cases e : g = b
  · subst e
    exact ⟨cs.setIfInBounds j v, fr, by simp [World.setCell, Array.getElem?_modify, h]⟩
  · exact ⟨cs, fr, (Below.heap_setCell _ _ _ _ e).trans h⟩
theorem SO.typ {α : Type} {b : Nat} {e : TypeId} {k : Nat} {R : World → List Value → α → Prop} {w : World} {g n c : Nat} {l : List α} (h : SO b e k R w (.slice (some ⟨g, 0, none⟩) n c) l) : Typ w g e := by
  obtain ⟨xs, ho, _⟩ := h
  rcases ho.2 with ⟨h', _⟩ | ⟨g', cap', cur, h', _, h3, _⟩
  · cases h'
  · injection h' with h' _ _
    injection h' with h'
    injection h' with h' _ _
    subst h'
    exact ⟨_, _, h3⟩
theorem SO.ne {α : Type} {b : Nat} {e t : TypeId} {k : Nat} {R : World → List Value → α → Prop} {w : World} {v : Value} {g : Nat} {l : List α} (h : SO b e k R w v l) (ht : Typ w g t) (hne : e ≠ t) : v.ownBlock ≠ some g := by
  obtain ⟨xs, ho, _⟩ := h
  obtain ⟨cs, fr, hg⟩ := ht
  exact own_ne ho hg hne
theorem OV.digit {b : Nat} {w : World} {v : Value} {xs : List Nat} (h : OV b w v xs) (g j : Nat) {y : Nat} (hy : y < 4294967296) :
    ∃ ys : List Nat, ys.length = xs.length ∧ OV b (w.setCell ⟨g, j, none⟩ (.int .u32 (y : Int))) v ys := by
  rcases h.2.2 with ⟨h1, h2⟩ | ⟨g', cap, cur, h1, h2, h3, h4⟩
  · exact ⟨xs, rfl, h.1, h.2.1, .inl ⟨h1, h2⟩⟩
  · by_cases e : g' = g
    · subst e
      subst h1
      exact ⟨xs.set j y, by simp, by simpa using h.store j hy⟩
    · exact ⟨xs, rfl, h.1, h.2.1, .inr ⟨g', cap, cur, h1, h2, (Below.heap_setCell _ _ _ _ e).trans h3, h4⟩⟩
theorem OV.typ {b : Nat} {w : World} {g n c : Nat} {xs : List Nat} (h : OV b w (.slice (some ⟨g, 0, none⟩) n c) xs) : Typ w g 89 := by
  rcases h.2.2 with ⟨h', _⟩ | ⟨g', cap, cur, h', _, h3, _⟩
  · cases h'
  · injection h' with h' _ _
    injection h' with h'
    injection h' with h' _ _
    subst h'
    exact ⟨_, _, h3⟩
theorem OV.at0 {b : Nat} {w : World} {A : Option Addr} {m c : Nat} {xs : List Nat} (h : OV b w (.slice A m c) xs) {j : Nat} (hj : j < xs.length) :
    ∃ (g x : Nat), A = some ⟨g, 0, none⟩ ∧ b ≤ g ∧ x < 4294967296 ∧ w.cell? ⟨g, j, none⟩ = some (.int .u32 (x : Int)) ∧ w.frozen? ⟨g, j, none⟩ = false ∧ Typ w g 89 := by
  obtain ⟨g, c', e, hb, hg, hc, _⟩ := h.row (by omega)
  injection e with e1 e2 e3
  subst e1 e2 e3
  exact ⟨g, xs.getD j 0, rfl, hb, h.1.get _, h.cell j (by omega), h.free j, h.typ⟩
theorem Rows.any {α : Type} {k : Nat} {R S : List Value → α → Prop} (hR : ∀ c a, R c a → ∃ b, S c b) : ∀ {xs : List Value} {l : List α}, Rows k R xs l → ∃ m : List α, m.length = l.length ∧ Rows k S xs m
  | xs, [], h => ⟨[], rfl, h⟩
  | xs, a :: l, h => by
    obtain ⟨c, t, rfl, hc, ha, h⟩ := h
    obtain ⟨b, hb⟩ := hR c a ha
    obtain ⟨m, hm, hr⟩ := Rows.any hR h
    exact ⟨b :: m, by simp [hm], c, t, rfl, hc, hb, hr⟩
theorem Rows.setOn {α : Type} {R : List Value → α → Prop} {v1 : Value} {b : α} : ∀ {xs : List Value} {l : List α} (j : Nat), (∀ v0 u a, R [v0, u] a → ∃ b, R [v0, v1] b) → Rows 2 R xs l → ∃ m : List α, m.length = l.length ∧ Rows 2 R (xs.set (j * 2 + 1) v1) m
  | xs, [], j, _, h => by
    cases (show xs = [] from h)
    exact ⟨[], rfl, rfl⟩
  | xs, a :: l, 0, hv, h => by
    obtain ⟨c, t, rfl, hc, ha, h⟩ := h
    obtain ⟨c0, c1, rfl⟩ : ∃ c0 c1, c = [c0, c1] := by
      match c, hc with
      | [c0, c1], _ => exact ⟨c0, c1, rfl⟩
    obtain ⟨b, hb⟩ := hv c0 c1 a ha
    exact ⟨b :: l, rfl, [c0, v1], t, by simp, rfl, hb, h⟩
  | xs, a :: l, j + 1, hv, h => by
    obtain ⟨c, t, rfl, hc, ha, h⟩ := h
    obtain ⟨m, hm, hr⟩ := Rows.setOn (b := b) j hv h
    refine ⟨a :: m, by simp [hm], c, t.set (j * 2 + 1) v1, ?_, hc, ha, hr⟩
    rw [List.set_append_right _ _ (by omega)]
    congr 2
    omega
section
variable {α : Type}
/-- A row of so many elements that the call owns, whatever they are. -/
def SN (R : World → List Value → α → Prop) (b : Nat) (e : TypeId) (k : Nat) (w : World) (v : Value) (n : Nat) : Prop := ∃ l : List α, l.length = n ∧ SO b e k R w v l
theorem SN.of {R : World → List Value → α → Prop} {b b' : Nat} {e : TypeId} {k : Nat} {w : World} {v : Value} {l : List α} (h : SO b' e k R w v l) (hb : b ≤ b') : SN R b e k w v l.length := ⟨l, rfl, h.mono hb⟩
theorem SN.ext {R : World → List Value → α → Prop} (hR : Grows R) {b : Nat} {e : TypeId} {k : Nat} {w w' : World} {v : Value} {n : Nat} (h : SN R b e k w v n) (x : Ext w w') : SN R b e k w' v n := let ⟨l, hl, h⟩ := h; ⟨l, hl, h.ext hR x⟩
theorem SN.form {R : World → List Value → α → Prop} {b : Nat} {e : TypeId} {k : Nat} {w : World} {v : Value} {n : Nat} (h : SN R b e k w v n) : ∃ A c, v = .slice A n c ∧ n ≤ c ∧ n ≤ 1073741824 := by
  obtain ⟨l, rfl, h⟩ := h
  exact h.sv.form
theorem SN.at0 {R : World → List Value → α → Prop} {b : Nat} {e : TypeId} {k : Nat} {w : World} {A : Option Addr} {m c n : Nat} (hk : 0 < k) (h : SN R b e k w (.slice A m c) n) {j : Nat} (hj : j < n) :
    ∃ g cs a, A = some ⟨g, 0, none⟩ ∧ b ≤ g ∧ g < w.heap.size ∧ cs.length = k ∧ R w cs a ∧ (∀ i v, cs[i]? = some v → w.cell? ⟨g, j * k + i, none⟩ = some v) ∧ (∀ i, w.frozen? ⟨g, i, none⟩ = false) ∧ Typ w g e := by
  obtain ⟨l, rfl, h⟩ := h
  have h0 := h
  obtain ⟨a, ha⟩ : ∃ a, l[j]? = some a := ⟨l[j], List.getElem?_eq_getElem hj⟩
  obtain ⟨ad, cs, rfl, h1, h2, h3⟩ := SV.at' hk h.sv j ha
  obtain ⟨xs, ho, _⟩ := h
  rcases ho.2 with ⟨h', h0'⟩ | ⟨g', cap', cur, h', _, hh, _⟩
  · cases h'
  · have hl := ho.lt g' (by rw [h']; rfl)
    injection h' with h' _ _
    obtain rfl : ad = ⟨g', 0, none⟩ := Option.some.inj h'
    refine ⟨g', cs, a, rfl, hl.1, hl.2, h1, h2, fun i v hv => ?_, fun i => by simp [World.frozen?, hh], h0.typ⟩
    have := h3 i v hv
    rw [(addr_of rfl _).2] at this
    simpa using this
/-- A store into another row, of elements that hold nothing of the world. -/
theorem SN.far {R : World → List Value → α → Prop} (hR : ∀ w w' c a, R w c a → R w' c a) {b : Nat} {e : TypeId} {k : Nat} {w : World} {v : Value} {n : Nat} (h : SN R b e k w v n) {p : Addr} (hp : v.ownBlock ≠ some p.block) (u : Value) : SN R b e k (w.setCell p u) v n :=
  let ⟨l, hl, xs, ho, h2, hr⟩ := h
  ⟨l, hl, xs, ownsRow_set ho hp u, h2, hr.mono fun c a => hR _ _ c a⟩
theorem SN.ne {R : World → List Value → α → Prop} {b : Nat} {e t : TypeId} {k : Nat} {w : World} {v : Value} {g n : Nat} (h : SN R b e k w v n) (ht : Typ w g t) (hne : e ≠ t) : v.ownBlock ≠ some g := let ⟨_, _, h⟩ := h; h.ne ht hne
end
theorem BitC.free : ∀ w w' c a, BitC w c a → BitC w' c a := fun _ _ _ _ h => h
theorem IntC.free : ∀ w w' c a, IntC w c a → IntC w' c a := fun _ _ _ _ h => h
abbrev QN (b : Nat) := SN (RatO b) b 83 4
abbrev BN (b : Nat) := SN BitC b 46 2
abbrev DN (b : Nat) := SN IntC b 3 1
theorem QN.of {b b' : Nat} {w : World} {v : Value} {l : List Rq} (h : SO b' 83 4 (RatO b') w v l) (hb : b ≤ b') : QN b w v l.length := ⟨l, rfl, (h.mono hb).monoR fun _ _ h => h.mono hb⟩
/-- A digit is stored. -/
theorem QN.digit {b : Nat} {w : World} {v : Value} {n : Nat} (h : QN b w v n) {g : Nat} (ht : Typ w g 89) (j : Nat) {y : Nat} (hy : y < 4294967296) : QN b (w.setCell ⟨g, j, none⟩ (.int .u32 (y : Int))) v n := by
  obtain ⟨l, hl, h⟩ := h
  have hne := h.ne ht (by decide)
  obtain ⟨xs, ho, h2, hr⟩ := h
  obtain ⟨m, hm, hr'⟩ := Rows.any (S := RatO b (w.setCell ⟨g, j, none⟩ (.int .u32 (y : Int)))) (fun c q hq => by
    obtain ⟨x, y', e, hx, hy'⟩ := hq
    obtain ⟨zs, _, hz⟩ := hx.digit g j hy
    obtain ⟨us, _, hu⟩ := hy'.digit g j hy
    exact ⟨⟨q.f, q.neg, zs, us⟩, x, y', e, hz, hu⟩) hr
  refine ⟨m, hm.trans hl, xs, ?_, by omega, hr'⟩
  rw [hm]
  exact ownsRow_set (p := ⟨g, j, none⟩) ho hne _
/-- Four cells of another row. -/
def store4 (w : World) (g i : Nat) (v0 v1 v2 v3 : Value) : World := (((w.setCell ⟨g, i, none⟩ v0).setCell ⟨g, i + 1, none⟩ v1).setCell ⟨g, i + 2, none⟩ v2).setCell ⟨g, i + 3, none⟩ v3
theorem store4_ind {P : World → Prop} {w : World} {g : Nat} (i : Nat) (v0 v1 v2 v3 : Value) (h : P w) (hs : ∀ w j v, P w → P (w.setCell ⟨g, j, none⟩ v)) : P (store4 w g i v0 v1 v2 v3) := hs _ _ _ (hs _ _ _ (hs _ _ _ (hs _ _ _ h)))
theorem QN.far4 {b : Nat} {w : World} {v : Value} {n : Nat} (h : QN b w v n) {g : Nat} (hg : v.ownBlock ≠ some g) (ht : Typ w g 83) (i : Nat) (v0 v1 v2 v3 : Value) : QN b (store4 w g i v0 v1 v2 v3) v n := by
  obtain ⟨cs', fr, hg'⟩ := ht
  obtain ⟨l, hl, h⟩ := h
  exact ⟨l, hl, h.far4 hg _ _ _ _ _ _ _ _ (fun cs q ⟨x, y, h1, h2, h3⟩ => ⟨x, y, h1, h2.far4 (own_ne h2.2 hg' (by decide)) _ _ _ _ _ _ _ _, h3.far4 (own_ne h3.2 hg' (by decide)) _ _ _ _ _ _ _ _⟩)⟩
theorem QN.put {b : Nat} {w : World} {g m c n : Nat} (h : QN b w (.slice (some ⟨g, 0, none⟩) m c) n) (k : Nat) (hk : k < n) (f : Int) : QN b (store4 w g (k * 4) (.int .i64 f) (.bool false) (.slice none 0 0) (.slice none 0 0)) (.slice (some ⟨g, 0, none⟩) m c) n := by
  obtain ⟨l, rfl, h⟩ := h
  exact ⟨_, by simp, h.putQ k hk (q := ⟨f, false, [], []⟩) (OV.nil _ _) (OV.nil _ _)⟩
theorem BN.put {b : Nat} {w : World} {g m c n : Nat} (h : BN b w (.slice (some ⟨g, 0, none⟩) m c) n) (k : Nat) (o : Bool) : BN b (w.setCell ⟨g, k * 2 + 1, none⟩ (.bool o)) (.slice (some ⟨g, 0, none⟩) m c) n := by
  obtain ⟨l, hl, xs, ho, h2, hr⟩ := h
  have hn : m = l.length := by
    rcases ho.2 with ⟨h', _⟩ | ⟨g', cap', cur, h', _⟩
    · cases h'
    · injection h'
  subst hn
  obtain ⟨m', hm, hr'⟩ := Rows.setOn (b := ⟨0, false⟩) (v1 := .bool o) k (fun v0 u (a : Bq) e => by
    injection e with e1 e2
    subst e1
    exact ⟨⟨a.f, o⟩, rfl⟩) hr
  have o1 := (ho.stored (k * 2 + 1) (.bool o)).1
  exact ⟨m', hm.trans hl, _, by rw [hm]; exact o1, by omega, hr'.mono fun _ _ h => h⟩
theorem DN.put {b : Nat} {w : World} {g m c n : Nat} (h : DN b w (.slice (some ⟨g, 0, none⟩) m c) n) (k : Nat) (d : Int) : DN b (w.setCell ⟨g, k, none⟩ (.int .i64 d)) (.slice (some ⟨g, 0, none⟩) m c) n := by
  obtain ⟨l, hl, h⟩ := h
  exact ⟨_, by simpa using hl, h.put1 IntC.free k (b := d) rfl⟩
/-- Three lists. -/
def three {α : Type} (a0 a1 a2 : α) : Nat → α
  | 0 => a0
  | 1 => a1
  | _ => a2
/-- Rows that lie apart. -/
structure FarS (vs : Nat → Value) (pB xB pD xD : Value) : Prop where
  q : ∀ i j, i < 3 → j < 3 → i ≠ j → ∀ g, (vs i).ownBlock = some g → (vs j).ownBlock ≠ some g
  b : ∀ g, pB.ownBlock = some g → xB.ownBlock ≠ some g
  d : ∀ g, pD.ownBlock = some g → xD.ownBlock ≠ some g
/-- What the loops keep: all that lies below, every box, and the rows, whatever they hold. -/
structure KeptS (b : Nat) (W1 : World) (pB xB pD xD : Value) (n1 n2 n3 n4 : Nat) (w : World) : Prop where
  below : Below b W1 w
  box : ∀ g t, Typ W1 g t → t ≠ 89 → t ≠ 83 → t ≠ 46 → t ≠ 3 → w.heap[g]? = W1.heap[g]?
  b1 : BN b w pB n1
  b2 : BN b w xB n2
  d1 : DN b w pD n3
  d2 : DN b w xD n4
structure OwnS (b : Nat) (W1 : World) (vs : Nat → Value) (ns : Nat → Nat) (pB xB pD xD : Value) (n1 n2 n3 n4 : Nat) (w : World) : Prop where
  kept : KeptS b W1 pB xB pD xD n1 n2 n3 n4 w
  q : ∀ j, j < 3 → QN b w (vs j) (ns j)
section
variable {b : Nat} {W1 w : World} {vs : Nat → Value} {ns : Nat → Nat} {pB xB pD xD : Value} {n1 n2 n3 n4 : Nat}
/-- A box of the world in which the loops began. -/
def Boxed (W1 : World) (g : Nat) (cs : List Value) : Prop := ∃ t, t ≠ 89 ∧ t ≠ 83 ∧ t ≠ 46 ∧ t ≠ 3 ∧ W1.heap[g]? = some (.cells cs.toArray t)
theorem Boxed.cell {g : Nat} {cs : List Value} (hb : Boxed W1 g cs) (h : KeptS b W1 pB xB pD xD n1 n2 n3 n4 w) {o : Nat} {v : Value} (hc : cs[o]? = some v) : w.cell? ⟨g, o, none⟩ = some v := by
  obtain ⟨t, h1, h2, h3, h4, hh⟩ := hb
  have := h.box g t ⟨_, _, hh⟩ h1 h2 h3 h4
  rw [hh] at this
  simp [World.cell?, this, hc]
theorem KeptS.drew (h : KeptS b W1 pB xB pD xD n1 n2 n3 n4 w) : KeptS b W1 pB xB pD xD n1 n2 n3 n4 w.drew :=
  have e : Ext w w.drew := (Ext.refl w).drew
  ⟨h.below.drew, h.box, h.b1.ext BitC.ext e, h.b2.ext BitC.ext e, h.d1.ext IntC.ext e, h.d2.ext IntC.ext e⟩
theorem OwnS.drew (h : OwnS b W1 vs ns pB xB pD xD n1 n2 n3 n4 w) : OwnS b W1 vs ns pB xB pD xD n1 n2 n3 n4 w.drew :=
  ⟨h.kept.drew, fun j hj => (h.q j hj).ext (RatO.ext _) (Ext.refl w).drew⟩
theorem KeptS.keep (h : KeptS b W1 pB xB pD xD n1 n2 n3 n4 w) {g : Nat} {t : TypeId} (hb : b ≤ g) (ht : Typ w g t) (h1 : t = 89 ∨ t = 83 ∨ t = 46 ∨ t = 3) (j : Nat) (v : Value) :
    Below b W1 (w.setCell ⟨g, j, none⟩ v) ∧ ∀ g' t', Typ W1 g' t' → t' ≠ 89 → t' ≠ 83 → t' ≠ 46 → t' ≠ 3 → (w.setCell ⟨g, j, none⟩ v).heap[g']? = W1.heap[g']? := by
  refine ⟨h.below.setCell hb v, fun g' t' ht' a1 a2 a3 a4 => ?_⟩
  have hw := h.box g' t' ht' a1 a2 a3 a4
  have ht2 : Typ w g' t' := by obtain ⟨cs, fr, e⟩ := ht'; exact ⟨cs, fr, hw.trans e⟩
  have hne : g' ≠ g := ht2.ne ht (by rintro rfl; rcases h1 with e | e | e | e <;> contradiction)
  exact (Below.heap_setCell _ _ _ _ hne).trans hw
/-- A store into a row of digits or of Rats. -/
theorem KeptS.other (h : KeptS b W1 pB xB pD xD n1 n2 n3 n4 w) {g : Nat} {t : TypeId} (hb : b ≤ g) (ht : Typ w g t) (h1 : t = 89 ∨ t = 83) (j : Nat) (v : Value) : KeptS b W1 pB xB pD xD n1 n2 n3 n4 (w.setCell ⟨g, j, none⟩ v) :=
  have k := h.keep hb ht (h1.elim .inl fun e => .inr (.inl e)) j v
  have e1 : 46 ≠ t := by rintro rfl; rcases h1 with e | e <;> exact absurd e (by decide)
  have e2 : 3 ≠ t := by rintro rfl; rcases h1 with e | e <;> exact absurd e (by decide)
  ⟨k.1, k.2, h.b1.far BitC.free (h.b1.ne ht e1) _, h.b2.far BitC.free (h.b2.ne ht e1) _, h.d1.far IntC.free (h.d1.ne ht e2) _, h.d2.far IntC.free (h.d2.ne ht e2) _⟩
theorem OwnS.digit (h : OwnS b W1 vs ns pB xB pD xD n1 n2 n3 n4 w) {g j y : Nat} (hb : b ≤ g) (ht : Typ w g 89) (hy : y < 4294967296) : OwnS b W1 vs ns pB xB pD xD n1 n2 n3 n4 (w.setCell ⟨g, j, none⟩ (.int .u32 (y : Int))) :=
  ⟨h.kept.other hb ht (.inl rfl) j _, fun i hi => (h.q i hi).digit ht j hy⟩
theorem OwnS.rat (h : OwnS b W1 vs ns pB xB pD xD n1 n2 n3 n4 w) (hf : ∀ i j, i < 3 → j < 3 → i ≠ j → ∀ g, (vs i).ownBlock = some g → (vs j).ownBlock ≠ some g) {i k g m c : Nat} (hi : i < 3) (hv : vs i = .slice (some ⟨g, 0, none⟩) m c) (hb : b ≤ g) (hk : k < ns i) (f : Int) : OwnS b W1 vs ns pB xB pD xD n1 n2 n3 n4 (store4 w g (k * 4) (.int .i64 f) (.bool false) (.slice none 0 0) (.slice none 0 0)) := by
  have hq := h.q i hi
  rw [hv] at hq
  have ht : Typ w g 83 := let ⟨_, _, h⟩ := hq; h.typ
  refine ⟨?_, fun j hj => ?_⟩
  · exact (store4_ind (P := fun w => KeptS b W1 pB xB pD xD n1 n2 n3 n4 w ∧ Typ w g 83) _ _ _ _ _ ⟨h.kept, ht⟩ fun w j v hp => ⟨hp.1.other hb hp.2 (.inr rfl) j v, hp.2.set _ _ _⟩).1
  · by_cases e : j = i
    · subst e
      rw [hv]
      exact hq.put k hk f
    · exact (h.q j hj).far4 (hf i j hi hj (fun x => e x.symm) g (by rw [hv]; rfl)) ht _ _ _ _ _
theorem KeptS.bit1 {g m c : Nat} (h : KeptS b W1 (.slice (some ⟨g, 0, none⟩) m c) xB pD xD n1 n2 n3 n4 w) (hf : xB.ownBlock ≠ some g) (hb : b ≤ g) (k : Nat) (o : Bool) : KeptS b W1 (.slice (some ⟨g, 0, none⟩) m c) xB pD xD n1 n2 n3 n4 (w.setCell ⟨g, k * 2 + 1, none⟩ (.bool o)) :=
  have ht : Typ w g 46 := let ⟨_, _, h⟩ := h.b1; h.typ
  let e := h.keep hb ht (.inr (.inr (.inl rfl))) (k * 2 + 1) (.bool o)
  ⟨e.1, e.2, h.b1.put k o, h.b2.far BitC.free hf _, h.d1.far IntC.free (h.d1.ne ht (by decide)) _, h.d2.far IntC.free (h.d2.ne ht (by decide)) _⟩
theorem KeptS.bit2 {g m c : Nat} (h : KeptS b W1 pB (.slice (some ⟨g, 0, none⟩) m c) pD xD n1 n2 n3 n4 w) (hf : pB.ownBlock ≠ some g) (hb : b ≤ g) (k : Nat) (o : Bool) : KeptS b W1 pB (.slice (some ⟨g, 0, none⟩) m c) pD xD n1 n2 n3 n4 (w.setCell ⟨g, k * 2 + 1, none⟩ (.bool o)) :=
  have ht : Typ w g 46 := let ⟨_, _, h⟩ := h.b2; h.typ
  let e := h.keep hb ht (.inr (.inr (.inl rfl))) (k * 2 + 1) (.bool o)
  ⟨e.1, e.2, h.b1.far BitC.free hf _, h.b2.put k o, h.d1.far IntC.free (h.d1.ne ht (by decide)) _, h.d2.far IntC.free (h.d2.ne ht (by decide)) _⟩
theorem KeptS.dim1 {g m c : Nat} (h : KeptS b W1 pB xB (.slice (some ⟨g, 0, none⟩) m c) xD n1 n2 n3 n4 w) (hf : xD.ownBlock ≠ some g) (hb : b ≤ g) (k : Nat) (d : Int) : KeptS b W1 pB xB (.slice (some ⟨g, 0, none⟩) m c) xD n1 n2 n3 n4 (w.setCell ⟨g, k, none⟩ (.int .i64 d)) :=
  have ht : Typ w g 3 := let ⟨_, _, h⟩ := h.d1; h.typ
  let e := h.keep hb ht (.inr (.inr (.inr rfl))) k (.int .i64 d)
  ⟨e.1, e.2, h.b1.far BitC.free (h.b1.ne ht (by decide)) _, h.b2.far BitC.free (h.b2.ne ht (by decide)) _, h.d1.put k d, h.d2.far IntC.free hf _⟩
theorem KeptS.dim2 {g m c : Nat} (h : KeptS b W1 pB xB pD (.slice (some ⟨g, 0, none⟩) m c) n1 n2 n3 n4 w) (hf : pD.ownBlock ≠ some g) (hb : b ≤ g) (k : Nat) (d : Int) : KeptS b W1 pB xB pD (.slice (some ⟨g, 0, none⟩) m c) n1 n2 n3 n4 (w.setCell ⟨g, k, none⟩ (.int .i64 d)) :=
  have ht : Typ w g 3 := let ⟨_, _, h⟩ := h.d2; h.typ
  let e := h.keep hb ht (.inr (.inr (.inr rfl))) k (.int .i64 d)
  ⟨e.1, e.2, h.b1.far BitC.free (h.b1.ne ht (by decide)) _, h.b2.far BitC.free (h.b2.ne ht (by decide)) _, h.d1.far IntC.free hf _, h.d2.put k d⟩
end
end Go.Proofs.YtcbaipnphepbeaaGreatDoor

namespace Go.Proofs.YtcbaipnphepbeaaGreatDoor
open Go.RowKit

theorem whole_to {w : World} {x : Value} {v : Vq} {k : Int} {l1 l2 l3 : Nat} (h : VV w x v) (ho : valOk v = true) (hk : v.k = k) (h1 : v.ds.length = l1) (h2 : v.nums.length = l2) (h3 : v.bits.length = l3) :
    Calls Tryz.prog 55 #[x] w fun e w' => ∃ D d A a B b, e = .returned (.agg #[.int .i64 k, .slice D l1 d, .slice A l2 a, .slice B l3 b]) ∧ VV w' (.agg #[.int .i64 k, .slice D l1 d, .slice A l2 a, .slice B l3 b]) v ∧ Ext w w' := by
  subst hk h1 h2 h3
  refine (rWhole_calls h ho).mono ?_
  rintro e w' ⟨r, rfl, hr, he⟩
  obtain ⟨D, d, A, a, B, b, rfl⟩ := hr.vv.form
  exact ⟨D, d, A, a, B, b, rfl, hr.vv, he⟩
theorem elem_vo0 {w : World} {x : Value} {v el : Vq} {d ek : Int} {ds : List Int} {l1 l2 l3 : Nat} (h : VV w x v) (ho : valOk v = true) (hd : v.ds = d :: ds) (hi : 0 < d) (hel : elemV v 0 = el) (hk : el.k = ek) (h1 : el.ds.length = l1) (h2 : el.nums.length = l2) (h3 : el.bits.length = l3) :
    Calls Tryz.prog 16 #[x, .int .i64 0] w fun e w' => ∃ D d A a B b, e = .returned (.tuple #[.agg #[.int .i64 ek, .slice D l1 d, .slice A l2 a, .slice B l3 b], .int .i64 0]) ∧ VO w.heap.size w' (.agg #[.int .i64 ek, .slice D l1 d, .slice A l2 a, .slice B l3 b]) el ∧ Ext w w' :=
  elem_vo (i := 0) h ho hd (by simpa using hi) hel hk h1 h2 h3
theorem pack_vo {w : World} {v : Value} {l : List Vq} {p : Vq} {k : Int} {l1 l2 l3 : Nat} (h : LV w v l) (hm : packR l = (p, 0)) (hk : p.k = k) (h1 : p.ds.length = l1) (h2 : p.nums.length = l2) (h3 : p.bits.length = l3) :
    Calls Tryz.prog 42 #[v] w fun e w' => ∃ D d A a B b, e = .returned (.tuple #[.agg #[.int .i64 k, .slice D l1 d, .slice A l2 a, .slice B l3 b], .int .i64 0]) ∧ VO w.heap.size w' (.agg #[.int .i64 k, .slice D l1 d, .slice A l2 a, .slice B l3 b]) p ∧ Ext w w' := by
  subst hk h1 h2 h3
  refine (pack_calls h hm).mono ?_
  rintro e w' ⟨⟨r, rfl, hr⟩, he⟩
  obtain ⟨D, d, A, a, B, b, rfl⟩ := hr.vv.form
  exact ⟨D, d, A, a, B, b, rfl, hr, he⟩
theorem nums_own {w : World} {v : Value} {l : List Vq} {ns : List Rq} {k : Nat} (h : LV w v l) (hm : numsR l = (ns, 0)) (hk : ns.length = k) :
    Calls Tryz.prog 43 #[v] w fun e w' => ∃ A c, e = .returned (.tuple #[.slice A k c, .int .i64 0]) ∧ SO w.heap.size 83 4 (RatO w.heap.size) w' (.slice A k c) ns ∧ Ext w w' := by
  subst hk
  refine (numbers_calls h hm).mono ?_
  rintro e w' ⟨⟨r, rfl, hr⟩, he⟩
  obtain ⟨A, c, rfl, _⟩ := hr.sv.form
  exact ⟨A, c, rfl, hr, he⟩
theorem of32 {w : World} :
    Calls Tryz.prog 54 #[.int .i64 3, .int .i64 2] w fun e w' => ∃ q : Rq, ∃ A c B d la lb, e = .returned (.agg #[.int .i64 q.f, .bool q.neg, .slice A la c, .slice B lb d]) ∧ RO w.heap.size w' (.agg #[.int .i64 q.f, .bool q.neg, .slice A la c, .slice B lb d]) q ∧ okq q = true ∧ Ext w w' := by
  refine (rOf_calls (by decide) (by decide) (by decide) (by decide) rfl).mono ?_
  rintro e w' ⟨r, rfl, hr, he⟩
  obtain ⟨A, c, B, d, rfl⟩ := hr.form
  exact ⟨_, A, c, B, d, _, _, rfl, hr, ratio_okq _ _ _, he⟩
theorem valC_vv {w : World} {k : Int} {d n b : Value} {v : Vq} (h : VV w (.agg #[.int .i64 k, d, n, b]) v) : ValC w [.int .i64 k, d, n, b] v := by
  obtain ⟨dv, nv, bv, hev, hiv, hqv, hbv⟩ := h
  simp only [Value.agg.injEq, Array.mk.injEq, List.cons.injEq, Value.int.injEq, true_and, and_true] at hev
  obtain ⟨rfl, rfl, rfl, rfl⟩ := hev
  exact ⟨d, n, b, rfl, hiv, hqv, hbv⟩
theorem lv_one {w : World} {k : Int} {d n b : Value} {v : Vq} (h : VV w (.agg #[.int .i64 k, d, n, b]) v) {g : Nat} (hg : w.heap.size = g) :
    LV (w.alloc (.cells #[.int .i64 k, d, n, b] 29)) (.slice (some ⟨g, 0, none⟩) 1 1) [v] := by
  subst hg
  exact (SO.lit (e := 29) (R := ValC) w [.int .i64 k, d, n, b] [v] (by simp) (Rows.one rfl (valC_vv (h.ext ((Ext.refl w).alloc _))))).sv
theorem lv_two {w : World} {k : Int} {d n b : Value} {v : Vq} (h : VV w (.agg #[.int .i64 k, d, n, b]) v) {g : Nat} (hg : w.heap.size = g) :
    LV (w.alloc (.cells #[.int .i64 k, d, n, b, .int .i64 k, d, n, b] 29)) (.slice (some ⟨g, 0, none⟩) 2 2) [v, v] := by
  subst hg
  have hc := valC_vv (h.ext ((Ext.refl w).alloc (.cells #[.int .i64 k, d, n, b, .int .i64 k, d, n, b] 29)))
  exact (SO.lit (e := 29) (R := ValC) w [.int .i64 k, d, n, b, .int .i64 k, d, n, b] [v, v] (by simp) ((Rows.one rfl hc).append (Rows.one rfl hc))).sv
theorem lt_one {w : World} {g g' : Nat} (hg : w.heap.size = g) (hg' : g' = g + 1) :
    LT ((w.alloc (.cells #[.int .i64 1] 3)).alloc (.cells #[.int .i64 1, .slice (some ⟨g, 0, none⟩) 1 1] 25)) (.slice (some ⟨g', 0, none⟩) 1 1) [(1, [1])] := by
  subst hg hg'
  have h1 := (SO.lit (e := 3) (R := IntC) w [.int .i64 1] [1] (by simp) (rows_ints [1] _)).sv.iv.ext ((Ext.refl _).alloc (.cells #[.int .i64 1, .slice (some ⟨w.heap.size, 0, none⟩) 1 1] 25))
  have h2 := (SO.lit (e := 25) (R := TypC) (w.alloc (.cells #[.int .i64 1] 3)) [.int .i64 1, .slice (some ⟨w.heap.size, 0, none⟩) 1 1] [(1, [1])] (by simp) (Rows.one rfl ⟨_, rfl, h1⟩)).sv
  simpa using h2
theorem back_one {w : World} {tv nv : Value} {q : Rq} (ht : LT w tv [(1, [1])]) (hn : QV w nv [q]) (hq : okq q = true) :
    Calls Tryz.prog 49 #[tv, nv] w fun e w' => ∃ g o c X cx, e = .returned (.tuple #[.slice (some ⟨g, o, none⟩) 1 c, .int .i64 0]) ∧ w'.cell? ⟨g, o + 2, none⟩ = some (.slice X 1 cx) ∧ Ext w w' := by
  have e0 : errT (1, [1]) = 0 := by decide
  have e1 : manyN [(1, [1])] = 1 := by decide
  have hm : backR [(1, [1])] [q] = ([elemF (1, [1]) [q]], 0) := by
    unfold backR
    rw [if_neg (by decide)]
    simp [e0, e1, hq, fillV]
  refine (shBack_calls ht hn hm).mono ?_
  rintro e w' ⟨⟨A, c, rfl, hv⟩, he⟩
  obtain ⟨b, o, d, x, y, rfl, h0, h1, h2, h3, hvv⟩ := LV.at' hv 0 rfl
  obtain ⟨D, cd, X, cx, B, cb, ev⟩ := hvv.form
  simp only [Value.agg.injEq, Array.mk.injEq, List.cons.injEq, true_and, and_true] at ev
  obtain ⟨rfl, rfl, rfl⟩ := ev
  refine ⟨b, o, c, X, cx, rfl, ?_, he⟩
  have : (elemF (1, [1]) [q]).nums.length = 1 := by simp [elemF, nQ, prodI]
  rw [this] at h2
  simpa using h2
theorem pack_same {v : Vq} (ho : valOk v = true) (hd : v.ds.length ≤ 2) : packR [v, v] = (packV [v, v], 0) := by
  unfold packR
  have h1 : ¬ v.ds.length = 3 := by omega
  simp [ho, tySame, h1]
theorem nums_one {v : Vq} (ho : valOk v = true) : numsR [v] = (v.nums, 0) := by
  unfold numsR
  simp [ho]
theorem own_lo {α : Type} {b : Nat} {e : TypeId} {k : Nat} {R : World → List Value → α → Prop} {w : World} {v : Value} {l : List α} (h : SO b e k R w v l) : ∀ g, v.ownBlock = some g → b ≤ g ∧ g < w.heap.size := let ⟨_, ho⟩ := h.row; ho.lt
/-- What the loops begin with. -/
theorem ownS_make {b b1 b2 b3 : Nat} {wx wp wn W1 : World} {kx kp : Int} {xD xN xB pD pN pB nN : Value} {vx vp : Vq} {ln : List Rq} {e1 e2 e3 p1 p2 p3 n2 : Nat} (hx : VO b1 wx (.agg #[.int .i64 kx, xD, xN, xB]) vx) (hp : VO b2 wp (.agg #[.int .i64 kp, pD, pN, pB]) vp) (hn : SO b3 83 4 (RatO b3) wn nN ln)
    (hb1 : b ≤ b1) (hb2 : b ≤ b2) (hb3 : b ≤ b3) (hx2 : wx.heap.size ≤ b2) (hx3 : wx.heap.size ≤ b3) (hp3 : wp.heap.size ≤ b3) (x1 : Ext wx W1) (x2 : Ext wp W1) (x3 : Ext wn W1)
    (he1 : vx.ds.length = e1) (he2 : vx.nums.length = e2) (he3 : vx.bits.length = e3) (hp1 : vp.ds.length = p1) (hp2 : vp.nums.length = p2) (hp3' : vp.bits.length = p3) (hn2 : ln.length = n2) :
    OwnS b W1 (three xN pN nN) (three e2 p2 n2) pB xB pD xD p3 e3 p1 e1 W1 ∧ FarS (three xN pN nN) pB xB pD xD := by
  subst he1 he2 he3 hp1 hp2 hp3' hn2
  obtain ⟨a1, a2, a3⟩ := hx.parts
  obtain ⟨c1, c2, c3⟩ := hp.parts
  refine ⟨⟨⟨Below.refl _ _, fun _ _ _ _ _ _ _ => rfl, SN.of (c3.ext BitC.ext x2) hb2, SN.of (a3.ext BitC.ext x1) hb1, SN.of (c1.ext IntC.ext x2) hb2, SN.of (a1.ext IntC.ext x1) hb1⟩, fun j hj => ?_⟩, fun i j hi hj hij g h1 h2 => ?_, fun g h1 h2 => ?_, fun g h1 h2 => ?_⟩
  · rcases (show j = 0 ∨ j = 1 ∨ j = 2 by omega) with rfl | rfl | rfl
    · exact QN.of (a2.ext (RatO.ext _) x1) hb1
    · exact QN.of (c2.ext (RatO.ext _) x2) hb2
    · exact QN.of (hn.ext (RatO.ext _) x3) hb3
  · have A := own_lo a2
    have C := own_lo c2
    have N := own_lo hn
    rcases (show i = 0 ∨ i = 1 ∨ i = 2 by omega) with rfl | rfl | rfl <;> rcases (show j = 0 ∨ j = 1 ∨ j = 2 by omega) with rfl | rfl | rfl <;> simp only [three] at h1 h2 <;> first | exact hij rfl | skip
    · have := A g h1; have := C g h2; omega
    · have := A g h1; have := N g h2; omega
    · have := C g h1; have := A g h2; omega
    · have := C g h1; have := N g h2; omega
    · have := N g h1; have := A g h2; omega
    · have := N g h1; have := C g h2; omega
  · have := own_lo c3 g h1; have := own_lo a3 g h2; omega
  · have := own_lo c1 g h1; have := own_lo a1 g h2; omega
/-- A number's digits, in a row of numbers. -/
def NumAt (b : Nat) (w : World) (g o : Nat) (N : Value) (n : Nat) : Prop := w.cell? ⟨g, o, none⟩ = some N ∧ Typ w g 83 ∧ ∃ xs : List Nat, xs.length = n ∧ OV b w N xs
theorem NumAt.digit {b : Nat} {w : World} {g o : Nat} {N : Value} {n g' j y : Nat} (h : NumAt b w g o N n) (ht : Typ w g' 89) (hy : y < 4294967296) : NumAt b (w.setCell ⟨g', j, none⟩ (.int .u32 (y : Int))) g o N n := by
  obtain ⟨h1, h2, xs, hl, h3⟩ := h
  have hne : g ≠ g' := h2.ne ht (by decide)
  obtain ⟨ys, hy1, hy2⟩ := h3.digit g' j hy
  exact ⟨(World.cell?_setCell_other _ _ _ _ (by intro e; injection e with e _; exact hne e.symm)).trans h1, h2.set _ _ _, ys, hy1.trans hl, hy2⟩
theorem NumAt.drew {b : Nat} {w : World} {g o : Nat} {N : Value} {n : Nat} (h : NumAt b w g o N n) : NumAt b w.drew g o N n := let ⟨h1, h2, xs, hl, h3⟩ := h; ⟨h1, h2, xs, hl, h3.ext (Ext.refl w).drew⟩
end Go.Proofs.YtcbaipnphepbeaaGreatDoor

namespace Go.Proofs.YtcbaipnphepbeaaGreatDoor
open Go.RowKit
attribute [local go_sem ↓] Go.wp_at_zero Go.wp_at_succ

/-- The box of the type. -/
def Typed7 (w : World) (g6 : Nat) (k : Int) (W : World) : Prop := ∃ (d : Int) (ds : List Int) (b o n c : Nat), B2 W g6 (.int .i64 k) (.slice (some ⟨b, o, none⟩) n c) ∧ W.cell? ⟨b, o, none⟩ = some (.int .i64 d) ∧ IV W (.slice (some ⟨b, o, none⟩) n c) (d :: ds) ∧ n = ds.length + 1 ∧ n ≤ c ∧ (d :: ds).length ≤ 2 ∧ Dims (d :: ds) ∧ Ext w W
set_option maxRecDepth 10000 in
set_option maxHeartbeats 8000000 in
theorem lwOwn_calls {w : World} {x : Value} {u0 : Vq} (hg : Glob3 w) (h : VL w x u0) :
    Calls Tryz.prog 12 #[x] w fun e w' => e = .returned (.bool true) ∧ Ext w w' := by
  have HG := Aside.mk hg
  have hvl := h
  obtain ⟨dx, nx, bx, rfl, hd, hn, hb⟩ := h
  obtain ⟨DX, cdx, xs, rfl, _⟩ := hd
  obtain ⟨AX, cax, ys, rfl, _⟩ := hn
  obtain ⟨BX, cbx, zs, rfl, _⟩ := hb
  have HVL := Aside.mk (hvl.ext ((Ext.refl w).alloc (.cells #[.int .i64 u0.k, .slice DX u0.ds.length cdx, .slice AX u0.nums.length cax, .slice BX u0.bits.length cbx] 29)))
  have HE0 := Aside.mk ((Ext.refl w).alloc (.cells #[.int .i64 u0.k, .slice DX u0.ds.length cdx, .slice AX u0.nums.length cax, .slice BX u0.bits.length cbx] 29))
  have k0 := KeepB.init w (.int .i64 u0.k) (.slice DX u0.ds.length cdx) (.slice AX u0.nums.length cax) (.slice BX u0.bits.length cbx) 29
  obtain ⟨u, hu⟩ : ∃ u, cutv u0 = u := ⟨_, rfl⟩
  have HU := Aside.mk hu
  obtain ⟨u1, hu1⟩ : ∃ n, u.ds.length = n := ⟨_, rfl⟩
  obtain ⟨u2, hu2⟩ : ∃ n, u.nums.length = n := ⟨_, rfl⟩
  obtain ⟨u3, hu3⟩ : ∃ n, u.bits.length = n := ⟨_, rfl⟩
  have HU1 := Aside.mk hu1
  have HU2 := Aside.mk hu2
  have HU3 := Aside.mk hu3
  generalize u0.ds.length = n1 at *
  generalize u0.nums.length = n2 at *
  generalize u0.bits.length = n3 at *
  clear hg hu hu1 hu2 hu3 hvl
  have mixed : Tryz.prog.follows Departure.mixedOrders = true := by kernel_rfl
  go_enter Tryz.func12, Tryz.ntmps12
  go_upto_if 31 with (first | (go_at_call 13; (with_reducible refine (value_vo HVL.out HU.out).mono ?_); rw [HU1.out, HU2.out, HU3.out]; rintro e w1 ⟨D1, d1, A1, a1, B1, b1, rfl, hr, he⟩; have E1 := Aside.mk (HE0.out.trans he); have HV0 := Aside.mk hr.vv; have HV1 := Aside.mk (hr.vv.ext ((Ext.refl w1).alloc (.cells #[.int .i64 u.k, .slice D1 u1 d1, .slice A1 u2 a1, .slice B1 u3 b1] 29))); have HT1 := Aside.mk (tl_of_vv HV1.out); have k1 := KeepB.init w1 (.int .i64 u.k) (.slice D1 u1 d1) (.slice A1 u2 a1) (.slice B1 u3 b1) 29; clear hr he) | (go_at_call 24; (with_reducible refine (tame_calls (m := 2) HT1.out (by decide) (by decide)).mono ?_); rintro e w2 ⟨⟨k, es, D5, c5, rfl, hk, hl, hs, hro⟩, he⟩; obtain ⟨n5, hn5⟩ : ∃ n, es.length = n := ⟨_, rfl⟩; rw [hn5] at hro ⊢; have HN5 := Aside.mk hn5; have HK := Aside.mk hk; have HDS := Aside.mk (dims_of (Int.le_trans hl (by decide)) hs); have HD2 := Aside.mk hl; have HRO := Aside.mk (hro.ext IntC.ext ((Ext.refl w2).alloc (.cells #[.int .i64 k, .slice D5 n5 c5] 25))); have k2 := KeepB.ext (he.alloc (.cells #[.int .i64 k, .slice D5 n5 c5] 25)) k1; have b6 := B2.new (w := w2) rfl (.int .i64 k) (.slice D5 n5 c5) 25; have HLT2 := Aside.mk (KeepB.lt (KeepB.ext he k1)); have HE2 := Aside.mk he; clear hk hl hs hro he hn5 k1))
  clear k0
  obtain ⟨g6, hg6⟩ : ∃ g, w2.heap.size = g := ⟨_, rfl⟩
  rw [hg6] at b6
  try rw [hg6]
  have HG6 := Aside.mk hg6
  clear hg6
  go_cut [] from 32 to 33 (fun wx => KeepB w1 (.int .i64 u.k) (.slice D1 u1 d1) (.slice A1 u2 a1) (.slice B1 u3 b1) wx ∧ Aside (Typed7 w g6 k wx))
  case first =>
    by_cases h0 : n5 = 0
    · subst h0
      have b7 := b6.ext ((Ext.refl _).alloc (.cells #[.int .i64 2] 3))
      go_wp2_with fail
      have HB7 := Aside.mk b7
      have HK2 := Aside.mk k2
      clear b7 k2 b6
      go_meet
      have hso := SO.lit (e := 3) (R := IntC) (w2.alloc (.cells #[.int .i64 k, .slice D5 0 c5] 25)) [.int .i64 2] [2] (by simp) (rows_ints [2] _)
      have hsz : (w2.alloc (.cells #[.int .i64 k, .slice D5 0 c5] 25)).heap.size = w2.heap.size + 1 := by simp
      rw [hsz] at hso
      have hso2 := SO.set (p := ⟨g6, 1, none⟩) hso (by have := HG6.out; show g6 < w2.heap.size + 1; omega) (.slice (some ⟨w2.heap.size + 1, 0, none⟩) 1 1) (fun _ _ h => h)
      obtain ⟨b, o, e1, e2, e3, e4⟩ := IV.first hso2.sv.iv
      simp only [Option.some.injEq, Addr.mk.injEq, and_true] at e1
      obtain ⟨rfl, rfl⟩ := e1
      have hlt := HLT2.out
      have hgg := HG6.out
      have hew := E1.out.size
      exact ⟨KeepB.set (KeepB.ext ((Ext.refl _).alloc _) HK2.out) (by omega) _ _, ⟨2, [], _, _, 1, 1, HB7.out.put 1 _, e2, hso2.sv.iv, e3, e4, (by simp), dims_of (by simp) (fun d hd => by simp only [List.mem_singleton] at hd; omega), Below.setCell (((E1.out.trans ((Ext.refl w1).alloc _)).trans (HE2.out.alloc _)).alloc _) (by show w.heap.size ≤ g6; omega) _⟩⟩
    · obtain ⟨d, ds, hes⟩ : ∃ d ds, es = d :: ds := by
        cases he : es with
        | nil => exact absurd (by rw [← HN5.out, he]; rfl) h0
        | cons d ds => exact ⟨d, ds, rfl⟩
      have h0' : ((n5 : Int) == 0) = false := by simp; omega
      subst hes
      obtain ⟨b, o, rfl, hc, hnn, hcc⟩ := IV.first HRO.out.sv.iv
      have HFIN : Aside (Typed7 w g6 k (w2.alloc (.cells #[.int .i64 k, .slice (some ⟨b, o, none⟩) n5 c5] 25))) := ⟨⟨d, ds, b, o, n5, c5, b6, hc, HRO.out.sv.iv, hnn, hcc, (by have := HD2.out; omega), HDS.out, (E1.out.trans ((Ext.refl w1).alloc _)).trans (HE2.out.alloc _)⟩⟩
      clear hc hnn hcc
      go_wp2_with fail
      go_meet
      exact ⟨k2, HFIN⟩
  case rest =>
    obtain ⟨kx, hty⟩ := hcut
    obtain ⟨d, ds, bo, oo, n6, c6, hb6, hc6, hi6, hn6, hcc6, hd2, hdd, he6⟩ := hty.out
    have HD2 := Aside.mk hd2
    have HI6 := Aside.mk hi6
    have HDD := Aside.mk hdd
    have HE6 := Aside.mk he6
    have HV6 := Aside.mk (HV0.out.ext kx.1.out)
    have hd18 := hdd.2 d (by simp)
    obtain ⟨dn, rfl⟩ : ∃ dn : Nat, d = dn := ⟨d.toNat, by omega⟩
    have hdn1 : 1 ≤ dn := by omega
    have hdn8 : dn ≤ 8 := by omega
    have h60 : (0 : Int) < (n6 : Int) := by omega
    clear hty hi6 hdd he6 hn6 hd18 hd2 HV0 HV1 HT1 HVL HE0 HU HU1 HU2 HU3 HN5 HDS HRO k2 b6
    go_upto_region 6 with (first | (go_at_call 23; (with_reducible refine (fit_v HI6.out HK.out HDD.out (vv_nums HV6.out).2.1 (vv_nums HV6.out).2.2).mono ?_); rintro e w7 ⟨v, D7, d7, A7, a7, B7, b7, l1, l2, l3, rfl, hv, ho, hvk, hvd, hl1, hl2, hl3, he⟩; have HV7 := Aside.mk (hv.ext ((Ext.refl w7).alloc (.cells #[.int .i64 k, .slice D7 l1 d7, .slice A7 l2 a7, .slice B7 l3 b7] 29))); have HO := Aside.mk ho; have HVK := Aside.mk hvk; have HVD := Aside.mk hvd; have HL1 := Aside.mk hl1; have HL2 := Aside.mk hl2; have HL3 := Aside.mk hl3; have hb7 := B4.new (w := w7) rfl (.int .i64 k) (.slice D7 l1 d7) (.slice A7 l2 a7) (.slice B7 l3 b7) 29; have HE7 := Aside.mk (he.alloc (.cells #[.int .i64 k, .slice D7 l1 d7, .slice A7 l2 a7, .slice B7 l3 b7] 29)); clear hv ho hvk hvd hl1 hl2 hl3 he))
    have E7 := Aside.mk (HE6.out.trans HE7.out)
    have HP2 : Aside (packR [v, v] = (packV [v, v], 0)) := ⟨pack_same HO.out (by rw [HVD.out]; exact HD2.out)⟩
    have HN1 : Aside (numsR [v] = (v.nums, 0)) := ⟨nums_one HO.out⟩
    obtain ⟨wl, hwl⟩ : ∃ x, w7.alloc (.cells #[.int .i64 k, .slice D7 l1 d7, .slice A7 l2 a7, .slice B7 l3 b7] 29) = x := ⟨_, rfl⟩
    obtain ⟨g7, hg7⟩ : ∃ g, w7.heap.size = g := ⟨_, rfl⟩
    rw [hwl] at E7 HV7 hb7
    rw [hg7] at hb7
    try rw [hwl]
    try rw [hg7]
    clear HI6 HE6 HV6 HE7 kx hwl hg7 hb6 hc6
    go_upto_region 7 with (first | (go_at_call 55; (with_reducible refine (whole_to HV7.out HO.out HVK.out HL1.out HL2.out HL3.out).mono ?_); rintro e w8 ⟨D8, d8, A8, a8, B8, b8, rfl, hr, he⟩; have HK8 := Aside.mk (hr.ext ((Ext.refl w8).alloc (.cells #[.int .i64 k, .slice D8 l1 d8, .slice A8 l2 a8, .slice B8 l3 b8] 29))); have E8 := Aside.mk (E7.out.trans (he.alloc (.cells #[.int .i64 k, .slice D8 l1 d8, .slice A8 l2 a8, .slice B8 l3 b8] 29))); have HV8 := Aside.mk (HV7.out.ext (he.alloc (.cells #[.int .i64 k, .slice D8 l1 d8, .slice A8 l2 a8, .slice B8 l3 b8] 29))); have hb7z := hb7.ext (he.alloc (.cells #[.int .i64 k, .slice D8 l1 d8, .slice A8 l2 a8, .slice B8 l3 b8] 29)); have hb8 := B4.new (w := w8) rfl (.int .i64 k) (.slice D8 l1 d8) (.slice A8 l2 a8) (.slice B8 l3 b8) 29; clear hr he))
    obtain ⟨wz, hwz⟩ : ∃ x, w8.alloc (.cells #[.int .i64 k, .slice D8 l1 d8, .slice A8 l2 a8, .slice B8 l3 b8] 29) = x := ⟨_, rfl⟩
    obtain ⟨g8, hg8⟩ : ∃ g, w8.heap.size = g := ⟨_, rfl⟩
    rw [hwz] at HV8 HK8 E8 hb7z hb8
    rw [hg8] at hb8
    try rw [hwz]
    try rw [hg8]
    have HVZ := HV8
    have HKZ := HK8
    have HBZ := Aside.mk (And.intro hb7z hb8)
    have HSZ := Aside.mk E8.out.size
    clear HV7 hwz hg8 hb7
    obtain ⟨el, hel⟩ : ∃ q, elemV v 0 = q := ⟨_, rfl⟩
    obtain ⟨ek, hek⟩ : ∃ n, el.k = n := ⟨_, rfl⟩
    obtain ⟨e1, he1⟩ : ∃ n, el.ds.length = n := ⟨_, rfl⟩
    obtain ⟨e2, he2⟩ : ∃ n, el.nums.length = n := ⟨_, rfl⟩
    obtain ⟨e3, he3⟩ : ∃ n, el.bits.length = n := ⟨_, rfl⟩
    have HEL := Aside.mk hel
    have HEK := Aside.mk hek
    have HE1 := Aside.mk he1
    have HE2 := Aside.mk he2
    have HE3 := Aside.mk he3
    have HJ : Aside (0 < (dn : Int)) := ⟨by omega⟩
    obtain ⟨pq, hpq⟩ : ∃ q, packV [v, v] = q := ⟨_, rfl⟩
    obtain ⟨pk, hpk⟩ : ∃ n, pq.k = n := ⟨_, rfl⟩
    obtain ⟨p1, hp1⟩ : ∃ n, pq.ds.length = n := ⟨_, rfl⟩
    obtain ⟨p2, hp2⟩ : ∃ n, pq.nums.length = n := ⟨_, rfl⟩
    obtain ⟨p3, hp3⟩ : ∃ n, pq.bits.length = n := ⟨_, rfl⟩
    rw [hpq] at HP2
    have HPK := Aside.mk hpk
    have HP1 := Aside.mk hp1
    have HPP2 := Aside.mk hp2
    have HP3 := Aside.mk hp3
    clear hel hek he1 he2 he3 hpq hpk hp1 hp2 hp3
    go_upto_region 8 with (first | (go_at_call 16; (with_reducible refine (elem_vo0 HV8.out HO.out HVD.out HJ.out HEL.out HEK.out HE1.out HE2.out HE3.out).mono ?_); rintro e w9 ⟨D9, d9, A9, a9, B9, b9, rfl, hr, he⟩; have HX9 := Aside.mk (hr.ext ((Ext.refl w9).alloc (.cells #[.int .i64 ek, .slice D9 e1 d9, .slice A9 e2 a9, .slice B9 e3 b9] 29))); have E9 := Aside.mk (he.alloc (.cells #[.int .i64 ek, .slice D9 e1 d9, .slice A9 e2 a9, .slice B9 e3 b9] 29)); have HH9 := Aside.mk (heap_alloc_new w9 (.cells #[.int .i64 ek, .slice D9 e1 d9, .slice A9 e2 a9, .slice B9 e3 b9] 29)); clear hr he))
    obtain ⟨wx, hwx⟩ : ∃ x, w9.alloc (.cells #[.int .i64 ek, .slice D9 e1 d9, .slice A9 e2 a9, .slice B9 e3 b9] 29) = x := ⟨_, rfl⟩
    obtain ⟨g9, hg9⟩ : ∃ g, w9.heap.size = g := ⟨_, rfl⟩
    rw [hwx] at HX9 E9 HH9
    rw [hg9] at HH9
    have hb7 := hb7z.ext E9.out
    have hb8 := hb8.ext E9.out
    try rw [hwx]
    try rw [hg9]
    have HV9 := Aside.mk (HV8.out.ext E9.out)
    clear HV8 hb7z hwx hg9
    go_upto_region 9 with (first | (go_at_call 42; (with_reducible refine (pack_vo (lv_two HV9.out rfl) HP2.out HPK.out HP1.out HPP2.out HP3.out).mono ?_); rintro e w10 ⟨D10, d10, A10, a10, B10, b10, rfl, hr, he⟩; have HP10 := Aside.mk (hr.ext ((Ext.refl w10).alloc (.cells #[.int .i64 pk, .slice D10 p1 d10, .slice A10 p2 a10, .slice B10 p3 b10] 29))); have E10 := Aside.mk (((Ext.refl wx).alloc (.cells #[.int .i64 k, .slice D7 l1 d7, .slice A7 l2 a7, .slice B7 l3 b7, .int .i64 k, .slice D7 l1 d7, .slice A7 l2 a7, .slice B7 l3 b7] 29)).trans (he.alloc (.cells #[.int .i64 pk, .slice D10 p1 d10, .slice A10 p2 a10, .slice B10 p3 b10] 29))); have HH10 := Aside.mk (heap_alloc_new w10 (.cells #[.int .i64 pk, .slice D10 p1 d10, .slice A10 p2 a10, .slice B10 p3 b10] 29)); clear hr he))
    obtain ⟨wp, hwp⟩ : ∃ x, w10.alloc (.cells #[.int .i64 pk, .slice D10 p1 d10, .slice A10 p2 a10, .slice B10 p3 b10] 29) = x := ⟨_, rfl⟩
    obtain ⟨g10, hg10⟩ : ∃ g, w10.heap.size = g := ⟨_, rfl⟩
    rw [hwp] at HP10 E10 HH10
    rw [hg10] at HH10
    have hb7 := hb7.ext E10.out
    have hb8 := hb8.ext E10.out
    try rw [hwp]
    try rw [hg10]
    have HV10 := Aside.mk (HV9.out.ext E10.out)
    clear HV9 hwp hg10
    go_upto_region 10 with (first | (go_at_call 43; (with_reducible refine (nums_own (lv_one HV10.out rfl) HN1.out HL2.out).mono ?_); rintro e w11 ⟨A11, a11, rfl, hr, he⟩; have HN11 := Aside.mk hr; have E11 := Aside.mk (((Ext.refl wp).alloc (.cells #[.int .i64 k, .slice D7 l1 d7, .slice A7 l2 a7, .slice B7 l3 b7] 29)).trans he); clear hr he))
    have hb7 := hb7.ext E11.out
    have hb8 := hb8.ext E11.out
    go_upto_region 11 with (first | (go_at_call 54; (with_reducible refine of32.mono ?_); rintro e w12 ⟨q, A12, a12, B12, b12, la, lb, rfl, hr, hok, he⟩; have HQ12 := Aside.mk hr; have HOK := Aside.mk hok; have E12 := Aside.mk he; have HT12 := Aside.mk (((lt_one (w := w11) rfl rfl).ext TypC.ext he).ext TypC.ext ((Ext.refl w12).alloc (.cells #[.int .i64 q.f, .bool q.neg, .slice A12 la a12, .slice B12 lb b12] 83))); have HQ12 := Aside.mk ((one_rat2 (w := w12) (g := w12.heap.size) rfl hr (Nat.le_refl _)).mono fun _ _ h => RatO.c h); clear hr hok he) | (go_at_call 49; (with_reducible refine (back_one HT12.out HQ12.out HOK.out).mono ?_); rintro e w13 ⟨gb, ob, cb, XB', xb', rfl, hbc, he⟩; have E13 := Aside.mk ((((Ext.refl w11).alloc (.cells #[.int .i64 1] 3)).alloc (.cells #[.int .i64 1, .slice (some ⟨w11.heap.size, 0, none⟩) 1 1] 25)).trans (E12.out.trans (((Ext.refl w12).alloc (.cells #[.int .i64 q.f, .bool q.neg, .slice A12 la a12, .slice B12 lb b12] 83)).trans he))); clear he))
    have hb7 := hb7.ext E13.out
    have hb8 := hb8.ext E13.out
    have EV := Aside.mk (E9.out.trans (E10.out.trans (E11.out.trans E13.out)))
    have hbc0 : w13.cell? ⟨gb, ob + 0 * 4 + 2, none⟩ = some (.slice XB' 1 xb') := by simpa using hbc
    go_upto_region 13 with (first | (go_at_call 30; (with_reducible refine (rEqual_same (HV10.out.ext (E11.out.trans E13.out)) (HK8.out.ext EV.out)).mono ?_); rintro e w14 ⟨rfl, he14⟩))
    have E14 := Aside.mk he14
    clear he14 hbc hbc0
    have E0 := Aside.mk (E8.out.trans (EV.out.trans E14.out))
    have hb9 := B4.of_heap (((E10.out.trans (E11.out.trans (E13.out.trans E14.out))).block _ (Array.getElem?_eq_some_iff.1 HH9.out).1).trans HH9.out)
    have hb10 := B4.of_heap (((E11.out.trans (E13.out.trans E14.out)).block _ (Array.getElem?_eq_some_iff.1 HH10.out).1).trans HH10.out)
    go_upto_block 0 with fail
    clear hb9 hb10
    obtain ⟨W1, hW1⟩ : ∃ x, w14.alloc (.cells #[.slice A9 e2 a9, .slice A10 p2 a10, .slice A11 l2 a11] 26) = x := ⟨_, rfl⟩
    obtain ⟨ga, hga⟩ : ∃ g, w14.heap.size = g := ⟨_, rfl⟩
    have hxl := heap_alloc_new w14 (.cells #[.slice A9 e2 a9, .slice A10 p2 a10, .slice A11 l2 a11] 26)
    have E15 := (Ext.refl w14).alloc (.cells #[.slice A9 e2 a9, .slice A10 p2 a10, .slice A11 l2 a11] 26)
    rw [hW1] at hxl E15
    rw [hga] at hxl
    try rw [hW1]
    try rw [hga]
    have x10 := E11.out.trans (E13.out.trans (E14.out.trans E15))
    have x9 := E10.out.trans x10
    have hos := ownS_make (b := wz.heap.size) HX9.out HP10.out HN11.out (Nat.le_refl _) (by have := E9.out.size; simp; omega) (by have := E9.out.size; have := E10.out.size; simp; omega) (by simp) (by have := E10.out.size; simp; omega) (by simp) x9 x10 (E13.out.trans (E14.out.trans E15)) HE1.out HE2.out HE3.out HP1.out HPP2.out HP3.out HL2.out
    have HBX : Aside (Boxed W1 g9 [.int .i64 ek, .slice D9 e1 d9, .slice A9 e2 a9, .slice B9 e3 b9]) := ⟨⟨29, by decide, by decide, by decide, by decide, (x9.block _ (Array.getElem?_eq_some_iff.1 HH9.out).1).trans HH9.out⟩⟩
    have HBP : Aside (Boxed W1 g10 [.int .i64 pk, .slice D10 p1 d10, .slice A10 p2 a10, .slice B10 p3 b10]) := ⟨⟨29, by decide, by decide, by decide, by decide, (x10.block _ (Array.getElem?_eq_some_iff.1 HH10.out).1).trans HH10.out⟩⟩
    obtain ⟨vs, hvs⟩ : ∃ vs, three (Value.slice A9 e2 a9) (.slice A10 p2 a10) (.slice A11 l2 a11) = vs := ⟨_, rfl⟩
    obtain ⟨ns, hns⟩ : ∃ ns, three e2 p2 l2 = ns := ⟨_, rfl⟩
    rw [hvs, hns] at hos
    have HBL : Aside (Boxed W1 ga [vs 0, vs 1, vs 2]) := ⟨⟨26, by decide, by decide, by decide, by decide, by rw [← hvs]; exact hxl⟩⟩
    have HOS := Aside.mk hos.1
    have HFAR := Aside.mk hos.2
    have EW := Aside.mk ((EV.out.trans (E14.out.trans E15)))
    have E01 := Aside.mk (E0.out.trans E15)
    clear hxl E15 x10 x9 hos hvs hns hW1 hga hb7 hb8 HX9 HP10 HN11 HH9 HH10 HV10 HK8 E9 E10 E11 E13 EV E14 E0 E8 HEL HEK HE1 HE2 HE3 HP1 HPP2 HP3 HL1 HL2 HL3 HP2 HN1 HVD HVK HPK
    go_wp2_with fail
    go_loopw [16] (fun i wr => ∃ k : Nat, k ≤ 3 ∧ i = .int .i64 (k : Int) ∧ Aside (OwnS wz.heap.size W1 vs ns (.slice B10 p3 b10) (.slice B9 e3 b9) (.slice D10 p1 d10) (.slice D9 e1 d9) p3 e3 p1 e1 wr)) (fun i _ => 3 - (intOf i).toNat)
    case atStart => exact ⟨0, by omega, rfl, HOS⟩
    case round =>
      clear HOS
      obtain ⟨k, hk, rfl, HOS⟩ := hrel
      by_cases hlt : k < 3
      · obtain ⟨n, hn⟩ : ∃ n, ns k = n := ⟨_, rfl⟩
        have hq := HOS.out.q k hlt
        rw [hn] at hq
        obtain ⟨A, c, hvk, hnc, hn30⟩ := hq.form
        have HN := Aside.mk hn
        have HVK := Aside.mk hvk
        have hg : [vs 0, vs 1, vs 2][k]? = some (vs k) := by
          rcases (show k = 0 ∨ k = 1 ∨ k = 2 by omega) with rfl | rfl | rfl <;> rfl
        have HCL : Aside (∀ W, OwnS wz.heap.size W1 vs ns (.slice B10 p3 b10) (.slice B9 e3 b9) (.slice D10 p1 d10) (.slice D9 e1 d9) p3 e3 p1 e1 W → W.cell? ⟨ga, k, none⟩ = some (.slice A n c)) := ⟨fun W h => by rw [HBL.out.cell h.kept hg, hvk]⟩
        have hk1 : (k : Int) < 3 := by omega
        have hk0 : (0 : Int) ≤ (k : Int) := by omega
        have HK3 := Aside.mk hlt
        clear hq hvk hn hg hnc hlt hk
        obtain ⟨wa, rfl⟩ : ∃ x, x = wr := ⟨wr, rfl⟩
        go_wp2_with fail
        go_loopw [17] (fun i wr => ∃ m : Nat, m ≤ n ∧ i = .int .i64 (m : Int) ∧ Aside (OwnS wz.heap.size W1 vs ns (.slice B10 p3 b10) (.slice B9 e3 b9) (.slice D10 p1 d10) (.slice D9 e1 d9) p3 e3 p1 e1 wr)) (fun i _ => n - (intOf i).toNat)
        case atStart => exact ⟨0, by omega, rfl, HOS⟩
        case round =>
          clear HOS
          obtain ⟨m, hm, rfl, HOS⟩ := hrel
          have hcl := HCL.out _ HOS.out
          by_cases hlt2 : m < n
          · have hq := HOS.out.q k HK3.out
            rw [HN.out, HVK.out] at hq
            obtain ⟨g, cs, q, rfl, hbg, hgs, -, ⟨x, y, rfl, hx, hy⟩, hcs, hfr, hty⟩ := hq.at0 (by decide) hlt2
            obtain ⟨N, cn, rfl, _⟩ := hx.form
            obtain ⟨ln, hln⟩ : ∃ n, q.num.length = n := ⟨_, rfl⟩
            rw [hln] at hx hcs
            have hl30 : ln ≤ 1073741824 := by rw [← hln]; exact hx.1.1
            have hc2 := hcs 2 _ rfl
            have HNA : Aside (NumAt wz.heap.size wr g (m * 4 + 2) (.slice N ln cn) ln) := ⟨⟨hc2, hty, q.num, hln, hx⟩⟩
            have hm1 : (m : Int) < (n : Int) := by omega
            have hm0 : (0 : Int) ≤ (m : Int) := by omega
            have HM2 := Aside.mk hlt2
            have HBG := Aside.mk hbg
            clear hq hx hy hcs hfr hty hln hgs hbg hm hlt2
            obtain ⟨wb, rfl⟩ : ∃ x, x = wr := ⟨wr, rfl⟩
            go_wp2_with fail
            go_loopw [18] (fun i wr => ∃ p : Nat, p ≤ ln ∧ i = .int .i64 (p : Int) ∧ Aside (OwnS wz.heap.size W1 vs ns (.slice B10 p3 b10) (.slice B9 e3 b9) (.slice D10 p1 d10) (.slice D9 e1 d9) p3 e3 p1 e1 wr) ∧ Aside (NumAt wz.heap.size wr g (m * 4 + 2) (.slice N ln cn) ln)) (fun i _ => ln - (intOf i).toNat)
            case atStart => exact ⟨0, by omega, rfl, HOS, HNA⟩
            case round =>
              clear HOS HNA hcl hc2
              obtain ⟨p, hp, rfl, HOS, HNA⟩ := hrel
              have hcl := HCL.out _ HOS.out
              have hc2 := HNA.out.1
              by_cases hlt3 : p < ln
              · obtain ⟨xs, hxs, hov⟩ := HNA.out.2.2
                obtain ⟨g', x, rfl, hb', hx4, hxc, hxf, ht'⟩ := hov.at0 (j := p) (by omega)
                have HT' := Aside.mk ht'
                have HB' := Aside.mk hb'
                obtain ⟨y, hy⟩ : ∃ y, x ^^^ 1 = y := ⟨_, rfl⟩
                have HY : Aside (y < 4294967296) := ⟨by rw [← hy]; exact Nat.xor_lt_two_pow (n := 32) hx4 (by decide)⟩
                have hxor : bits .xor .u32 (x : Int) 1 = (y : Int) := by
                  have := u32_xor_nat x 1 hx4 (by decide)
                  rw [hy] at this
                  exact this
                have hp1 : (p : Int) < (ln : Int) := by omega
                have hp0 : (0 : Int) ≤ (p : Int) := by omega
                clear hov hxs hy ht' hb' hx4 hp
                go_wp2_with fail
                go_region_o
                go_wp2_with fail
                go_roundw
                case rel => exact ⟨p + 1, by omega, by go_num, ⟨HOS.out.drew.digit HB'.out HT'.out HY.out⟩, ⟨HNA.out.drew.digit HT'.out HY.out⟩⟩
                case measure => simp [intOf]; omega
              · have hq := HOS.out.q k HK3.out
                rw [HN.out, HVK.out] at hq
                obtain ⟨g2, cs, q2, e2', -, -, -, ⟨x, y, rfl, -, -⟩, hcs, hfr, -⟩ := hq.at0 (by decide) HM2.out
                obtain rfl : g = g2 := by injection e2' with e2'; injection e2'
                have hd0 := hcs 0 _ rfl
                have hd1 := hcs 1 _ rfl
                have hd3 := hcs 3 _ rfl
                have hf0 := hfr (m * 4)
                have hf1 := hfr (m * 4 + 1)
                have hf2 := hfr (m * 4 + 2)
                have hf3 := hfr (m * 4 + 3)
                have F0 : Fits wr ⟨g, m * 4, none⟩ := Fits.of hd0 hf0
                have F1 : Fits wr ⟨g, m * 4 + 1, none⟩ := Fits.of hd1 hf1
                have F2 : Fits wr ⟨g, m * 4 + 2, none⟩ := Fits.of hc2 hf2
                have F3 : Fits wr ⟨g, m * 4 + 3, none⟩ := Fits.of hd3 hf3
                have hp1 : ¬ (p : Int) < (ln : Int) := by omega
                clear hq hcs hfr e2' hp hlt3 hd0 hd1 hd3 hf0 hf1 hf2 hf3
                go_wp2_with fail
                go_roundw
                case rel => exact ⟨m + 1, by have := HM2.out; omega, by go_num, ⟨HOS.out.rat HFAR.out.q HK3.out HVK.out HBG.out (by rw [HN.out]; exact HM2.out) 4⟩⟩
                case measure => have := HM2.out; simp [intOf]; omega
          · have hm1 : ¬ (m : Int) < (n : Int) := by omega
            go_wp2_with fail
            go_roundw
            case rel => exact ⟨k + 1, by have := HK3.out; omega, by go_num, HOS⟩
            case measure => have := HK3.out; simp [intOf]; omega
      · have HKS := Aside.mk HOS.out.kept
        have hk1 : ¬ (k : Int) < 3 := by omega
        clear HOS HBL
        go_upto_block 6 with fail
        go_wp2_with fail
        go_loopw [19] (fun i wr => ∃ j : Nat, j ≤ p3 ∧ i = .int .i64 (j : Int) ∧ Aside (KeptS wz.heap.size W1 (.slice B10 p3 b10) (.slice B9 e3 b9) (.slice D10 p1 d10) (.slice D9 e1 d9) p3 e3 p1 e1 wr)) (fun i _ => p3 - (intOf i).toNat)
        case atStart => exact ⟨0, by omega, rfl, HKS⟩
        case round =>
          clear HKS
          obtain ⟨j, hj, rfl, HKS⟩ := hrel
          have hbx := HBP.out.cell HKS.out (o := 3) rfl
          by_cases hlt : j < p3
          · obtain ⟨_, _, _, _, hl30⟩ := HKS.out.b1.form
            obtain ⟨g, cs, a, rfl, hbg, -, -, rfl, hcs, hfr, -⟩ := HKS.out.b1.at0 (by decide) hlt
            have HBG := Aside.mk hbg
            have hj1 : (j : Int) < (p3 : Int) := by omega
            have hj0 : (0 : Int) ≤ (j : Int) := by omega
            have hc1 := hcs 1 _ rfl
            have hf1 := hfr (j * 2 + 1)
            clear hcs hfr hbg
            go_wp2_with fail
            go_region_o
            go_wp2_with fail
            go_roundw
            case rel => exact ⟨j + 1, by omega, by go_num, ⟨HKS.out.drew.bit1 (HFAR.out.b g rfl) HBG.out j _⟩⟩
            case measure => simp [intOf]; omega
          · have hj1 : ¬ (j : Int) < (p3 : Int) := by omega
            clear hlt hj
            go_upto_block 8 with fail
            go_wp2_with fail
            go_loopw [20] (fun i wr => ∃ j : Nat, j ≤ e3 ∧ i = .int .i64 (j : Int) ∧ Aside (KeptS wz.heap.size W1 (.slice B10 p3 b10) (.slice B9 e3 b9) (.slice D10 p1 d10) (.slice D9 e1 d9) p3 e3 p1 e1 wr)) (fun i _ => e3 - (intOf i).toNat)
            case atStart => exact ⟨0, by omega, rfl, HKS⟩
            case round =>
              clear HKS
              obtain ⟨j, hj, rfl, HKS⟩ := hrel
              have hbx := HBX.out.cell HKS.out (o := 3) rfl
              by_cases hlt : j < e3
              · obtain ⟨_, _, _, _, hl30⟩ := HKS.out.b2.form
                obtain ⟨g, cs, a, rfl, hbg, -, -, rfl, hcs, hfr, -⟩ := HKS.out.b2.at0 (by decide) hlt
                have HBG := Aside.mk hbg
                have hj1 : (j : Int) < (e3 : Int) := by omega
                have hj0 : (0 : Int) ≤ (j : Int) := by omega
                have hc1 := hcs 1 _ rfl
                have hf1 := hfr (j * 2 + 1)
                clear hcs hfr hbg
                go_wp2_with fail
                go_region_o
                go_wp2_with fail
                go_roundw
                case rel => exact ⟨j + 1, by omega, by go_num, ⟨HKS.out.drew.bit2 (fun h => HFAR.out.b g h rfl) HBG.out j _⟩⟩
                case measure => simp [intOf]; omega
              · have hj1 : ¬ (j : Int) < (e3 : Int) := by omega
                clear hlt hj
                go_upto_block 10 with fail
                go_wp2_with fail
                go_loopw [21] (fun i wr => ∃ j : Nat, j ≤ p1 ∧ i = .int .i64 (j : Int) ∧ Aside (KeptS wz.heap.size W1 (.slice B10 p3 b10) (.slice B9 e3 b9) (.slice D10 p1 d10) (.slice D9 e1 d9) p3 e3 p1 e1 wr)) (fun i _ => p1 - (intOf i).toNat)
                case atStart => exact ⟨0, by omega, rfl, HKS⟩
                case round =>
                  clear HKS
                  obtain ⟨j, hj, rfl, HKS⟩ := hrel
                  have hbx := HBP.out.cell HKS.out (o := 1) rfl
                  by_cases hlt : j < p1
                  · obtain ⟨_, _, _, _, hl30⟩ := HKS.out.d1.form
                    obtain ⟨g, cs, a, rfl, hbg, -, -, rfl, hcs, hfr, -⟩ := HKS.out.d1.at0 (by decide) hlt
                    have HBG := Aside.mk hbg
                    have hj1 : (j : Int) < (p1 : Int) := by omega
                    have hj0 : (0 : Int) ≤ (j : Int) := by omega
                    have F0 : Fits wr ⟨g, j, none⟩ := Fits.of (by simpa using hcs 0 _ rfl) (hfr j)
                    clear hcs hfr hbg
                    go_wp2_with fail
                    go_roundw
                    case rel => exact ⟨j + 1, by omega, by go_num, ⟨HKS.out.dim1 (HFAR.out.d g rfl) HBG.out j _⟩⟩
                    case measure => simp [intOf]; omega
                  · have hj1 : ¬ (j : Int) < (p1 : Int) := by omega
                    clear hlt hj
                    go_upto_block 12 with fail
                    go_wp2_with fail
                    go_loopw [22] (fun i wr => ∃ j : Nat, j ≤ e1 ∧ i = .int .i64 (j : Int) ∧ Aside (KeptS wz.heap.size W1 (.slice B10 p3 b10) (.slice B9 e3 b9) (.slice D10 p1 d10) (.slice D9 e1 d9) p3 e3 p1 e1 wr)) (fun i _ => e1 - (intOf i).toNat)
                    case atStart => exact ⟨0, by omega, rfl, HKS⟩
                    case round =>
                      clear HKS
                      obtain ⟨j, hj, rfl, HKS⟩ := hrel
                      have hbx := HBX.out.cell HKS.out (o := 1) rfl
                      by_cases hlt : j < e1
                      · obtain ⟨_, _, _, _, hl30⟩ := HKS.out.d2.form
                        obtain ⟨g, cs, a, rfl, hbg, -, -, rfl, hcs, hfr, -⟩ := HKS.out.d2.at0 (by decide) hlt
                        have HBG := Aside.mk hbg
                        have hj1 : (j : Int) < (e1 : Int) := by omega
                        have hj0 : (0 : Int) ≤ (j : Int) := by omega
                        have F0 : Fits wr ⟨g, j, none⟩ := Fits.of (by simpa using hcs 0 _ rfl) (hfr j)
                        clear hcs hfr hbg
                        go_wp2_with fail
                        go_roundw
                        case rel => exact ⟨j + 1, by omega, by go_num, ⟨HKS.out.dim2 (fun h => HFAR.out.d g h rfl) HBG.out j _⟩⟩
                        case measure => simp [intOf]; omega
                      · have hj1 : ¬ (j : Int) < (e1 : Int) := by omega
                        clear hlt hj
                        have EZ : Aside (Ext wz wr) := ⟨Below.trans EW.out HKS.out.below⟩
                        have EF : Aside (Ext w wr) := ⟨Below.trans E01.out (Below.mono HKS.out.below HSZ.out)⟩
                        have hb7 := HBZ.out.1.ext EZ.out
                        have hb8 := HBZ.out.2.ext EZ.out
                        go_wp2_with (first | (go_at_call 30; (with_reducible refine (rEqual_same (HVZ.out.ext EZ.out) (HKZ.out.ext EZ.out)).mono ?_); rintro e w16 ⟨rfl, he16⟩; have E16 := Aside.mk (EF.out.trans he16); clear he16) | (go_at_call 19; (with_reducible refine (alive3_calls (HG.out.ext E16.out)).mono ?_); rintro e w17 ⟨rfl, he17⟩; have HEND := Aside.mk (E16.out.trans he17); clear he17))
                        go_ret
                        exact ⟨rfl, HEND.out⟩
end Go.Proofs.YtcbaipnphepbeaaGreatDoor

namespace Go.Proofs.YtcbaipnphepbeaaGreatDoor
open Go.RowKit Go.ChangeShapes Go.WideShapes Go.ChangeAt

set_option maxRecDepth 100000 in
theorem lwOwn_lifted (os : Os) (started : os.Started) (H : Type) (enc : TypeId × Value → H) :
    ReturnsInHanded {} Tryz.checked os 12 .any (fun w args => (Rows.shapeOwnSpec.pre enc Tryz.prog Tryz.f12 [] false w args ∧ laidMetH Tryz.prog Rows.shapeOwnRow.laid w) ∧ sizedMet enc Tryz.prog Tryz.f12 (OpenSpec.ofChange Rows.shapeOwnSpec) false w args)
      (Rows.shapeOwnSpec.post enc Tryz.prog Tryz.f12 false true false false) := by
  refine returns_law (C := Tryz.checked) (X := fun w _ => laidMetH Tryz.prog Rows.shapeOwnRow.laid w) (fun _ _ _ hh h => h.of_heap hh) Tryz.own started (by kernel_rfl) Tryz.func12
    (ChangeSpec.witness_shaped (enc := enc) (C := Tryz.checked) (os := os) (X := fun w _ => laidMetH Tryz.prog Rows.shapeOwnRow.laid w) false (World.laidAll Tryz.prog os Rows.shapeOwnRow.laid) #[.agg #[.int .i64 0, .slice none 0 0, .slice none 0 0, .slice none 0 0]] 8 (World.laidAll_os _ _ _)
      (World.shaped_of_ZipB (by kernel_rfl) (by kernel_rfl)) (by kernel_rfl) (by kernel_rfl) (by kernel_rfl)
      (by rw [MakeChecks.laidMetH_plain _ _ _ (by kernel_rfl)]; exact laidMet_laidAll _ (by kernel_rfl) (by kernel_rfl))) ?_
  intro W base args ds gs before hval0 hW hL hsh
  have hval : ∀ (j : Nat) t v, Tryz.f12.params[j]? = some t → args[j]? = some v → Value.okWide Tryz.prog W .any base t v := hval0
  have hW' := hW
  obtain ⟨p, q, hA0, hV, rfl, hfz, hnd⟩ := hW
  have hA : DataW.TrodAll enc Tryz.prog W 0 (fun _ => true) true Tryz.f12.params.toList args.toList ds p := hA0
  have hA' := hA
  rw [Tryz.params12] at hA hval
  obtain ⟨v0, d0, rfl, rfl, ⟨k0, h0⟩⟩ := trodAll_one hA
  obtain ⟨rfl, rfl⟩ := trodVars_none hV
  have hG := glob3_of (by kernel_rfl) rfl hL hsh
  obtain ⟨u, hu⟩ := val_of (hval 0 29 v0 rfl rfl) h0
  refine (lwOwn_calls hG hu).mono fun e W' ⟨he, hw⟩ => ?_
  subst he
  refine ⟨_, rfl, law_post (ts := Tryz.f12.params.toList) rfl rfl rfl ?_ ⟨rfl, rfl, rfl⟩ hW' (by simpa using hA') hw⟩
  rw [Tryz.params12]
  exact read_all (by kernel_rfl)

theorem shapeOwn_holds : Rows.ShapeOwnSaid :=
  OpenClaim.holds_of_wide 12 Tryz.f12 rfl rfl rfl rfl rfl rfl rfl ⟨rfl, rfl, rfl, rfl, rfl⟩ rfl rfl rfl rfl rfl (by kernel_rfl) Tryz.func12 (by kernel_rfl)
    (of_decide_eq_true (by kernel_rfl)) (by unfold Func.isWrapper; first | (rw [if_neg (by decide +kernel)]; exact ⟨rfl, rfl⟩) | (rw [if_pos (by decide +kernel)]; kernel_rfl))
    (fun os started H enc _ => lwOwn_lifted os started H enc)
end Go.Proofs.YtcbaipnphepbeaaGreatDoor

namespace Go.Proofs.YtcbaipnphepbeaaGreatDoor
open Go

set_option maxRecDepth 100000 in
theorem shapeOwn_card : Rows.ShapeOwnCardSaid :=
  Claim7.holds_tied_plain_at .later [] [.data, .data, .data, .data, .data] true (true, "74a4f590cf19fe5091db46413e7db25a7b9d51dc5c5273584579c29297515e2e") false
    shapeOwn_holds (fun _ h => by cases h) (by kernel_rfl) (fun _ h => by cases h) shapeOwn_row_tie rfl ⟨rfl, rfl⟩ (by kernel_rfl) rfl
    (fun f fn hf hfn => by
      obtain rfl : f = 12 := Option.some.inj ((show Tryz.prog.funcNamed "fluxion/fluxionlaw03.ShapeOwn" = some 12 by kernel_rfl).symm.trans hf) |>.symm
      obtain rfl : fn = Tryz.f12 := (Option.some.inj (Tryz.func12.symm.trans hfn)).symm
      exact ⟨by kernel_rfl, fun j t ht => by
        rw [Tryz.params12] at ht
        have hm : t ∈ Tryz.f12.params.toList := by rw [Tryz.params12]; exact Array.mem_toList_iff.2 (Array.mem_of_getElem? ht)
        have hall : (Tryz.f12.params.toList.all fun u => !Tryz.prog.wantsStandIn u) = true := by kernel_rfl
        exact (show Tryz.prog.wantsStandIn t = false by simpa using List.all_eq_true.1 hall t hm)⟩)
    (by kernel_rfl)
#print axioms shapeOwn_card
end Go.Proofs.YtcbaipnphepbeaaGreatDoor
