/- The plain law of texts of types: which text is one, and of which type. Contracts of shape: Parse. Contracts of fluxionref03: Parse. -/
import Derived.Test.YtcbaipnphepbeaaGreatDoorNk
import Derived.Test.YtcbaipnphepbeaaGreatDoorNn
import Derived.Test.YtcbaipnphepbeaaGreatDoorNv
namespace Go.Proofs.YtcbaipnphepbeaaGreatDoor
open Go.RowKit

theorem dimT_eq {d : Int} (h : 1 ≤ d ∧ d ≤ 8) : ∃ c : UInt8, dimT d = [91, c, 93] ∧ (c.toNat : Int) = 48 + d := by
  obtain ⟨i, rfl⟩ : ∃ i : Nat, d = (i : Int) := ⟨d.toNat, by omega⟩
  have hi : i = 1 ∨ i = 2 ∨ i = 3 ∨ i = 4 ∨ i = 5 ∨ i = 6 ∨ i = 7 ∨ i = 8 := by omega
  unfold dimT
  rw [Int.toNat_natCast, ← digits_small ⟨i, by omega⟩]
  rcases hi with h | h | h | h | h | h | h | h <;> subst h
  · exact ⟨49, by simp [Lib.decDigits], rfl⟩
  · exact ⟨50, by simp [Lib.decDigits], rfl⟩
  · exact ⟨51, by simp [Lib.decDigits], rfl⟩
  · exact ⟨52, by simp [Lib.decDigits], rfl⟩
  · exact ⟨53, by simp [Lib.decDigits], rfl⟩
  · exact ⟨54, by simp [Lib.decDigits], rfl⟩
  · exact ⟨55, by simp [Lib.decDigits], rfl⟩
  · exact ⟨56, by simp [Lib.decDigits], rfl⟩
theorem dimT_byte {c : UInt8} (h : 49 ≤ c.toNat ∧ c.toNat ≤ 56) : dimT ((c.toNat : Int) - 48) = [91, c, 93] := by
  obtain ⟨c', h1, h2⟩ := dimT_eq (d := (c.toNat : Int) - 48) (by omega)
  rw [h1]
  have : c' = c := UInt8.toNat_inj.1 (by omega)
  rw [this]
/-- Does a text begin with a size? -/
def HeadD (l : List UInt8) : Prop := ∃ (c : UInt8) (t : List UInt8), l = 91 :: c :: 93 :: t ∧ 49 ≤ c.toNat ∧ c.toNat ≤ 56
theorem dimsT_cons (d : Int) (ds : List Int) : dimsT (d :: ds) = dimT d ++ dimsT ds := rfl
theorem dims_unique : ∀ {xs ys : List Int} {r : List UInt8}, (∀ d ∈ xs, 1 ≤ d ∧ d ≤ 8) → (∀ d ∈ ys, 1 ≤ d ∧ d ≤ 8) → ¬ HeadD r → dimsT xs ++ r = dimsT ys → xs = ys ∧ r = []
  | [], [], r, _, _, _, h => ⟨rfl, h⟩
  | [], y :: ys, r, _, hy, hr, h => by
    obtain ⟨c, h1, h2⟩ := dimT_eq (hy y (by simp))
    rw [dimsT_cons, h1] at h
    have hb := hy y (by simp)
    exact absurd ⟨c, dimsT ys, by simpa [dimsT] using h, by omega, by omega⟩ hr
  | x :: xs, [], r, hx, _, _, h => by
    obtain ⟨c, h1, _⟩ := dimT_eq (hx x (by simp))
    rw [dimsT_cons, h1] at h
    simp [dimsT] at h
  | x :: xs, y :: ys, r, hx, hy, hr, h => by
    obtain ⟨c, h1, h2⟩ := dimT_eq (hx x (by simp))
    obtain ⟨c', h3, h4⟩ := dimT_eq (hy y (by simp))
    rw [dimsT_cons, dimsT_cons, h1, h3] at h
    simp only [List.cons_append, List.nil_append, List.cons.injEq, true_and] at h
    obtain ⟨hc, ht⟩ := h
    have ih := dims_unique (fun d hd => hx d (by simp [hd])) (fun d hd => hy d (by simp [hd])) hr ht
    have hxy : x = y := by rw [hc] at h2; omega
    exact ⟨by rw [hxy, ih.1], ih.2⟩
theorem tyOk_small {k : Int} {ds : List Int} (h : tyOk k ds = true) : ∀ d ∈ ds, 1 ≤ d ∧ d ≤ 8 := (tyOk_dims h).2
def realT : List UInt8 := [114, 101, 97, 108]
def flagT : List UInt8 := [102, 108, 97, 103]
def indexT : List UInt8 := [105, 110, 100, 101, 120]
def kindT (k : Int) : List UInt8 := if k = 1 then realT else if k = 2 then flagT else indexT
theorem kindT_eq (k : Int) : (kindB k).data.toList = kindT k := by
  unfold kindB kindT
  split
  · rfl
  · split <;> rfl
theorem tyText_eq (k : Int) (ds : List Int) : tyText k ds = kindT k ++ dimsT ds := by unfold tyText; rw [kindT_eq]
theorem tyText_head {k : Int} {ds : List Int} (h : tyOk k ds = true) : (k = 1 ∧ (tyText k ds).head? = some 114) ∨ (k = 2 ∧ (tyText k ds).head? = some 102) ∨ (k = 3 ∧ (tyText k ds).head? = some 105) := by
  rw [tyText_eq]
  rcases tyOk_kind h with rfl | rfl | rfl
  · exact .inl ⟨rfl, rfl⟩
  · exact .inr (.inl ⟨rfl, rfl⟩)
  · exact .inr (.inr ⟨rfl, rfl⟩)
/-- Is a text that of a type? -/
def IsTy (s : List UInt8) : Prop := ∃ p : Int × List Int, tyOk p.1 p.2 = true ∧ tyText p.1 p.2 = s
/-- A word and sizes that are no type's text. -/
theorem noTy {s r : List UInt8} {k : Int} {es : List Int} (hk : k = 1 ∨ k = 2 ∨ k = 3) (hs : s = kindT k ++ (dimsT es ++ r)) (he : ∀ d ∈ es, 1 ≤ d ∧ d ≤ 8) (hr : ¬ HeadD r) (hbad : r ≠ [] ∨ tyOk k es = false) : ¬ IsTy s := by
  rintro ⟨⟨k', ds'⟩, h1, h2⟩
  dsimp only at h1 h2
  have hh : k' = k := by
    have h3 := tyText_head h1
    rw [h2, hs] at h3
    rcases hk with rfl | rfl | rfl <;> rcases h3 with ⟨a, b⟩ | ⟨a, b⟩ | ⟨a, b⟩ <;> first | exact a | (simp [kindT, realT, flagT, indexT] at b)
  subst hh
  rw [tyText_eq, hs] at h2
  have h2 := List.append_cancel_left h2
  obtain ⟨e1, e2⟩ := dims_unique he (tyOk_small h1) hr h2.symm
  rcases hbad with hb | hb
  · exact hb e2
  · rw [e1, h1] at hb; cases hb
theorem noTy_pre {s : List UInt8} (h1 : ¬ ∃ t, s = realT ++ t) (h2 : ¬ ∃ t, s = flagT ++ t) (h3 : ¬ ∃ t, s = indexT ++ t) : ¬ IsTy s := by
  rintro ⟨⟨k, ds⟩, ho, rfl⟩
  dsimp only at *
  rw [tyText_eq] at h1 h2 h3
  rcases tyOk_kind ho with rfl | rfl | rfl
  · exact h1 ⟨_, rfl⟩
  · exact h2 ⟨_, rfl⟩
  · exact h3 ⟨_, rfl⟩
/-! The specification's reading. -/
/-- What stands behind the brackets. -/
def scanL : List UInt8 → List Int
  | a :: b :: l => if a = 91 then ((b.toNat : Int) - 48) :: scanL (b :: l) else scanL (b :: l)
  | _ => []
theorem scanL_skip {a : UInt8} {l : List UInt8} (h : a ≠ 91) : scanL (a :: l) = scanL l := by
  cases l with
  | nil => rfl
  | cons b t => show (if a = 91 then _ else _) = _; rw [if_neg h]
theorem scanL_take {b : UInt8} {l : List UInt8} : scanL (91 :: b :: l) = ((b.toNat : Int) - 48) :: scanL (b :: l) := by show (if (91 : UInt8) = 91 then _ else _) = _; rw [if_pos rfl]
theorem scanL_dims : ∀ {ds : List Int}, (∀ d ∈ ds, 1 ≤ d ∧ d ≤ 8) → scanL (dimsT ds) = ds
  | [], _ => rfl
  | d :: ds, h => by
    obtain ⟨c, h1, h2⟩ := dimT_eq (h d (by simp))
    have hb := h d (by simp)
    have hc : c ≠ 91 := by
      rintro rfl
      have : ((91 : UInt8).toNat : Int) = 91 := rfl
      omega
    rw [dimsT_cons, h1]
    show scanL (91 :: c :: 93 :: dimsT ds) = _
    rw [scanL_take, scanL_skip hc, scanL_skip (by decide), scanL_dims fun x hx => h x (by simp [hx]), h2]
    congr 1
    omega
theorem scanL_text {k : Int} {ds : List Int} (h : tyOk k ds = true) : scanL (tyText k ds) = ds := by
  rw [tyText_eq, ← scanL_dims (tyOk_small h)]
  rw [scanL_dims (tyOk_small h)]
  have e := scanL_dims (tyOk_small h)
  rcases tyOk_kind h with rfl | rfl | rfl
  · show scanL (114 :: 101 :: 97 :: 108 :: dimsT ds) = ds
    rw [scanL_skip (by decide), scanL_skip (by decide), scanL_skip (by decide), scanL_skip (by decide), e]
  · show scanL (102 :: 108 :: 97 :: 103 :: dimsT ds) = ds
    rw [scanL_skip (by decide), scanL_skip (by decide), scanL_skip (by decide), scanL_skip (by decide), e]
  · show scanL (105 :: 110 :: 100 :: 101 :: 120 :: dimsT ds) = ds
    rw [scanL_skip (by decide), scanL_skip (by decide), scanL_skip (by decide), scanL_skip (by decide), scanL_skip (by decide), e]
/-- The kind by the first letter. -/
def kindL (s : List UInt8) : Int := if s.head? = some 102 then 2 else if s.head? = some 105 then 3 else 1
theorem kindL_text {k : Int} {ds : List Int} (h : tyOk k ds = true) : kindL (tyText k ds) = k := by
  unfold kindL
  rcases tyText_head h with ⟨rfl, b⟩ | ⟨rfl, b⟩ | ⟨rfl, b⟩ <;> rw [b] <;> rfl
/-- What Parse returns of a text: the type and the error. -/
def parseS (s : List UInt8) : (Int × List Int) × Int := if tyOk (kindL s) (scanL s) = true ∧ tyText (kindL s) (scanL s) = s then ((kindL s, scanL s), 0) else ((0, []), 5)
theorem parseS_yes {s : List UInt8} {k : Int} {ds : List Int} (h : tyOk k ds = true) (e : tyText k ds = s) : parseS s = ((k, ds), 0) := by
  subst e
  unfold parseS
  rw [kindL_text h, scanL_text h, if_pos ⟨h, rfl⟩]
theorem parseS_no {s : List UInt8} (h : ¬ IsTy s) : parseS s = ((0, []), 5) := by
  unfold parseS
  rw [if_neg fun hh => h ⟨(kindL s, scanL s), hh.1, hh.2⟩]
theorem parseS_err {s : List UInt8} : (parseS s).2 = 0 ∨ parseS s = ((0, []), 5) := by
  unfold parseS
  split
  · exact .inl rfl
  · exact .inr rfl
/-- The specification's answer, from what it has read. -/
theorem ref_parse {s : List UInt8} {es more : List Int} (hes : scanL s = es ++ more) (hm : more = [] ∨ 3 < es.length) :
    (tyOk (kindL s) es && decide (tyText (kindL s) es = s)) = decide (parseS s = ((kindL s, es), 0)) ∧ ((tyOk (kindL s) es && decide (tyText (kindL s) es = s)) = false → parseS s = ((0, []), 5)) := by
  by_cases h : tyOk (kindL s) es = true ∧ tyText (kindL s) es = s
  · obtain ⟨h1, h2⟩ := h
    have hp := parseS_yes h1 h2
    refine ⟨?_, fun hf => ?_⟩
    · rw [hp, h1, decide_eq_true h2]; simp
    · rw [h1, decide_eq_true h2] at hf; cases hf
  · have hb : (tyOk (kindL s) es && decide (tyText (kindL s) es = s)) = false := by
      cases hh : tyOk (kindL s) es
      · rfl
      · rw [Bool.true_and]; exact decide_eq_false fun h2 => h ⟨hh, h2⟩
    have hn : ¬ IsTy s := by
      rintro ⟨⟨k', ds'⟩, h1, h2⟩
      dsimp only at h1 h2
      have hk : kindL s = k' := by
        have h3 := tyText_head h1
        rw [h2] at h3
        unfold kindL
        rcases h3 with ⟨rfl, b⟩ | ⟨rfl, b⟩ | ⟨rfl, b⟩ <;> rw [b] <;> rfl
      have hd : ds' = es ++ more := by rw [← hes, ← h2, scanL_text h1]
      have h3 := (tyOk_dims h1).1
      have hm0 : more = [] := by
        rcases hm with hm | hm
        · exact hm
        · rw [hd, List.length_append] at h3; omega
      rw [hm0, List.append_nil] at hd
      subst hd
      exact h ⟨by rw [hk]; exact h1, by rw [hk]; exact h2⟩
    rw [hb, parseS_no hn]
    exact ⟨by simp, fun _ => rfl⟩
end Go.Proofs.YtcbaipnphepbeaaGreatDoor

namespace Go.Proofs.YtcbaipnphepbeaaGreatDoor
open Go.RowKit
attribute [local go_sem ↓] Go.wp_at_zero Go.wp_at_succ

/-- A result of two cells. -/
abbrev KR2 (w W : World) : Prop := Aside (Ext w W) ∧ Fits W ⟨w.heap.size, 0, none⟩ ∧ Fits W ⟨w.heap.size, 1, none⟩
theorem KR2.lt {w W : World} (h : KR2 w W) : w.heap.size + 1 ≤ W.heap.size := World.block_lt_of_cell? W ⟨w.heap.size, 0, none⟩ h.2.1.1
theorem KR2.below {w W W' : World} (h : KR2 w W) (b : Below (w.heap.size + 1) W W') : KR2 w W' := by
  obtain ⟨h0, h5, h6⟩ := h
  have hc : ∀ {j : Nat} {v : Value}, W.cell? ⟨w.heap.size, j, none⟩ = some v → W'.cell? ⟨w.heap.size, j, none⟩ = some v := fun h => (Below.cell b (Nat.lt_succ_self _)).trans h
  have hf : ∀ {j : Nat}, W.frozen? ⟨w.heap.size, j, none⟩ = false → W'.frozen? ⟨w.heap.size, j, none⟩ = false := fun h => (Below.frozen b (Nat.lt_succ_self _)).trans h
  have hF : ∀ {j : Nat}, Fits W ⟨w.heap.size, j, none⟩ → Fits W' ⟨w.heap.size, j, none⟩ := fun h => Fits.of (hc h.1) (hf h.2)
  exact ⟨⟨Below.trans h0.out (Below.mono b (Nat.le_succ _))⟩, hF h5, hF h6⟩
theorem KR2.ext {w W W' : World} (h : KR2 w W) (e : Ext W W') : KR2 w W' := h.below (Below.mono e h.lt)
theorem KR2.far {w W : World} (h : KR2 w W) {g : Nat} (hg : w.heap.size + 1 ≤ g) (j : Nat) (v : Value) : KR2 w (W.setCell ⟨g, j, none⟩ v) := h.below (Below.setCell (Below.refl _ _) hg v)
theorem KR2.init (w : World) (z0 z1 : Value) (t : TypeId) : KR2 w (w.alloc (.cells #[z0, z1] t)) := ⟨⟨(Ext.refl w).alloc _⟩, fits_new (v := z0) rfl rfl, fits_new (v := z1) rfl rfl⟩
/-- A type and an error. -/
def ParsedT (b : Nat) (w' : World) (m : (Int × List Int) × Int) (e : Ending) : Prop := ∃ D c, e = .returned (.tuple #[.agg #[.int .i64 m.1.1, .slice D m.1.2.length c], .int .i64 m.2]) ∧ SO b 3 1 IntC w' (.slice D m.1.2.length c) m.1.2
def strLen : Value → Nat
  | .string s => s.size
  | _ => 0
/-- Which prefixes have been tried. -/
def Nb (l : List UInt8) (n : Int) : Prop := ¬ IsTy l ∨ ((1 < n → ¬ ∃ t, l = realT ++ t) ∧ (2 < n → ¬ ∃ t, l = flagT ++ t) ∧ (3 < n → ¬ ∃ t, l = indexT ++ t))
theorem Nb.zero (l : List UInt8) : Nb l 0 := .inr ⟨fun h => by omega, fun h => by omega, fun h => by omega⟩
theorem Nb.end {l : List UInt8} (h : Nb l 4) : ¬ IsTy l := by
  rcases h with h | ⟨h1, h2, h3⟩
  · exact h
  · exact noTy_pre (h1 (by decide)) (h2 (by decide)) (h3 (by decide))
theorem Nb.one {l : List UInt8} (h : Nb l 0) : Nb l 1 := by
  rcases h with h | _
  · exact .inl h
  · exact .inr ⟨fun h => by omega, fun h => by omega, fun h => by omega⟩
theorem Nb.two {l : List UInt8} (h : Nb l 1) (hp : ¬ ∃ t, l = realT ++ t) : Nb l 2 := by
  rcases h with h | _
  · exact .inl h
  · exact .inr ⟨fun _ => hp, fun h => by omega, fun h => by omega⟩
theorem Nb.three {l : List UInt8} (h : Nb l 2) (hp : ¬ ∃ t, l = flagT ++ t) : Nb l 3 := by
  rcases h with h | ⟨h1, _, _⟩
  · exact .inl h
  · exact .inr ⟨fun _ => h1 (by decide), fun _ => hp, fun h => by omega⟩
theorem Nb.four {l : List UInt8} (h : Nb l 3) (hp : ¬ ∃ t, l = indexT ++ t) : Nb l 4 := by
  rcases h with h | ⟨h1, h2, _⟩
  · exact .inl h
  · exact .inr ⟨fun _ => h1 (by decide), fun _ => h2 (by decide), fun _ => hp⟩
theorem pre_no {s p : List UInt8} (h : ¬ ∃ t, s = p ++ t) : Lib.hasPrefix s p = false := by
  unfold Lib.hasPrefix
  cases hh : p.isPrefixOf s
  · rfl
  · obtain ⟨t, ht⟩ := List.isPrefixOf_iff_prefix.1 hh
    exact absurd ⟨t, ht.symm⟩ h
/-- What a text does not begin with a size for. -/
theorem not_head {u : List UInt8} (h : ¬ HeadD u) : u.length < 3 ∨ ∃ h3 : 3 ≤ u.length, u[0] ≠ 91 ∨ (u[0] = 91 ∧ u[1].toNat < 49) ∨ (u[0] = 91 ∧ 49 ≤ u[1].toNat ∧ 56 < u[1].toNat) ∨ (u[0] = 91 ∧ 49 ≤ u[1].toNat ∧ u[1].toNat ≤ 56 ∧ u[2] ≠ 93) := by
  match u with
  | [] => left; simp
  | [a] => left; simp
  | [a, b] => left; simp
  | a :: b :: c :: t =>
    refine .inr ⟨by simp, ?_⟩
    show a ≠ 91 ∨ (a = 91 ∧ b.toNat < 49) ∨ (a = 91 ∧ 49 ≤ b.toNat ∧ 56 < b.toNat) ∨ (a = 91 ∧ 49 ≤ b.toNat ∧ b.toNat ≤ 56 ∧ c ≠ 93)
    by_cases h1 : a = 91
    · by_cases h2 : 49 ≤ b.toNat
      · by_cases h3 : b.toNat ≤ 56
        · refine .inr (.inr (.inr ⟨h1, h2, h3, fun hc => h ⟨b, t, by rw [h1, hc], h2, h3⟩⟩))
        · exact .inr (.inr (.inl ⟨h1, h2, by omega⟩))
      · exact .inr (.inl ⟨h1, by omega⟩)
    · exact .inl h1
theorem byte_is {b c : UInt8} {k : Int} (hk : (c.toNat : Int) = k) (h : b = c) : ((b.toNat : Int) == k) = true := by rw [h, hk]; simp
theorem byte_not {b c : UInt8} {k : Int} (hk : (c.toNat : Int) = k) (h : b ≠ c) : ((b.toNat : Int) == k) = false := by
  rw [beq_eq_false_iff_ne]
  intro e
  exact h (UInt8.toNat_inj.1 (by omega))
theorem not_headB {u : List UInt8} (h : ¬ HeadD u) (h0 : 0 < (bs u).size) (h1 : 1 < (bs u).size) (h2 : 2 < (bs u).size) :
    ((((bs u)[0].toNat : Nat) : Int) == 91) = false ∨ (((((bs u)[0].toNat : Nat) : Int) == 91) = true ∧ ¬ ((49 : Int) ≤ (((bs u)[1]'h1).toNat : Int))) ∨
    (((((bs u)[0].toNat : Nat) : Int) == 91) = true ∧ ((49 : Int) ≤ (((bs u)[1]'h1).toNat : Int)) ∧ ¬ ((((bs u)[1]'h1).toNat : Int) ≤ 56)) ∨
    (((((bs u)[0].toNat : Nat) : Int) == 91) = true ∧ ((49 : Int) ≤ (((bs u)[1]'h1).toNat : Int)) ∧ ((((bs u)[1]'h1).toNat : Int) ≤ 56) ∧ (((((bs u)[2]'h2).toNat : Nat) : Int) == 93) = false) := by
  have hz := bs_size u
  rcases not_head h with h3 | ⟨h3, hc⟩
  · omega
  · have e0 : (bs u)[0] = u[0] := rfl
    have e1 : (bs u)[1] = u[1] := rfl
    have e2 : (bs u)[2] = u[2] := rfl
    have t1 : ((bs u)[1]'h1).toNat = u[1].toNat := congrArg UInt8.toNat e1
    rcases hc with hc | ⟨hc, hd⟩ | ⟨hc, hd, he⟩ | ⟨hc, hd, he, hf⟩
    · exact .inl (byte_not (c := 91) rfl fun e => hc (e0.symm.trans e))
    · exact .inr (.inl ⟨byte_is (c := 91) rfl (e0.trans hc), by omega⟩)
    · exact .inr (.inr (.inl ⟨byte_is (c := 91) rfl (e0.trans hc), by omega, by omega⟩))
    · exact .inr (.inr (.inr ⟨byte_is (c := 91) rfl (e0.trans hc), by omega, by omega, byte_not (c := 93) rfl fun e => hf (e2.symm.trans e)⟩))
theorem bs_nonempty {u : List UInt8} (h : u ≠ []) : ((bs u).toList == []) = false := by
  rw [Lib.toList_data, bs_data]
  cases u with
  | nil => exact absurd rfl h
  | cons a t => rfl
set_option maxRecDepth 10000 in
set_option maxHeartbeats 8000000 in
theorem shParse_calls {w : World} {l : List UInt8} {m : (Int × List Int) × Int} (hg : Glob3 w) (hl : l.length ≤ 1000000) (hm : parseS l = m) :
    Calls Tryz.prog 26 #[.string (bs l)] w fun e w' => ParsedT w.heap.size w' m e ∧ Ext w w' := by
  have HG := Aside.mk hg
  have HL := Aside.mk hl
  have HM := Aside.mk hm
  have hk0 := KR2.init w (.int .i64 0) (.slice none 0 0) 25
  have g1 := hk0.1.out.cell hg.k0
  have g2 := hk0.1.out.cell hg.k1
  have g3 := hk0.1.out.cell hg.k2
  have g4 := hk0.1.out.cell hg.k3
  have n1 : (realB.toList == []) = false := by kernel_rfl
  have n2 : (flagB.toList == []) = false := by kernel_rfl
  have n3 : (indexB.toList == []) = false := by kernel_rfl
  clear hg hl hm
  have i0 : ∀ w : World, (Instr.index 108 (.agg #[.string ⟨#[]⟩, .string realB, .string flagB, .string indexB]) (.int .i64 0)).run Tryz.prog w = .ok (.string ⟨#[]⟩) w := fun _ => by kernel_rfl
  have i1 : ∀ w : World, (Instr.index 108 (.agg #[.string ⟨#[]⟩, .string realB, .string flagB, .string indexB]) (.int .i64 1)).run Tryz.prog w = .ok (.string realB) w := fun _ => by kernel_rfl
  have i2 : ∀ w : World, (Instr.index 108 (.agg #[.string ⟨#[]⟩, .string realB, .string flagB, .string indexB]) (.int .i64 2)).run Tryz.prog w = .ok (.string flagB) w := fun _ => by kernel_rfl
  have i3 : ∀ w : World, (Instr.index 108 (.agg #[.string ⟨#[]⟩, .string realB, .string flagB, .string indexB]) (.int .i64 3)).run Tryz.prog w = .ok (.string indexB) w := fun _ => by kernel_rfl
  go_enter Tryz.func26, Tryz.ntmps26
  go_wp2_with fail
  go_loopw [10] (fun i wr => ∃ n : Int, i = .int .i64 n ∧ (n = 0 ∨ n = 1 ∨ n = 2 ∨ n = 3 ∨ n = 4) ∧ Aside (Nb l n) ∧ KR2 w wr) (fun i _ => 4 - (intOf i).toNat)
  case atStart => exact ⟨0, rfl, by simp, ⟨Nb.zero l⟩, hk0⟩
  case round =>
    clear hk0 g1 g2 g3 g4
    obtain ⟨n, rfl, hn, HN, hk0⟩ := hrel
    rcases hn with rfl | rfl | rfl | rfl | rfl
    · have HPRE : Aside ((bs l).data.toList = (⟨#[]⟩ : ByteArray).data.toList ++ l) := ⟨rfl⟩
      go_wp2_with (go_at_call 78; (with_reducible refine (cut_yes (t := l) HPRE.out).mono ?_); rintro e w1 ⟨rfl, rfl⟩)
      go_roundw
      case rel => exact ⟨1, by simp, by simp, ⟨HN.out.one⟩, hk0⟩
      case measure => simp [intOf]
    · by_cases hp : ∃ t, l = realT ++ t
      · obtain ⟨t, ht⟩ := hp
        have HPRE : Aside ((bs l).data.toList = realB.data.toList ++ t) := ⟨ht⟩
        have HLT := Aside.mk ht
        clear ht
        obtain ⟨g, hg⟩ : ∃ g, wr.heap.size = g := ⟨_, rfl⟩
        have HG0 : Aside (w.heap.size + 1 ≤ g) := ⟨by rw [← hg]; exact hk0.lt⟩
        have hkA := hk0.ext ((Ext.refl wr).alloc (.cells #[.int .i64 1, .slice none 0 0] 25))
        have hbA := B2.new (w := wr) (g := g) hg.symm (.int .i64 1) (.slice none 0 0) 25
        go_wp2_with (go_at_call 78; (with_reducible refine (cut_yes (t := t) HPRE.out).mono ?_); rintro e w1 ⟨rfl, rfl⟩)
        go_loopw [6] (fun r wr2 => ∃ (es : List Int) (u : List UInt8) (NA : Option Addr) (ne cN : Nat), r = .string (bs u) ∧ KR2 w wr2 ∧ B2 wr2 g (.int .i64 1) (.slice NA ne cN) ∧ Aside (es.length = ne ∧ l = realT ++ (dimsT es ++ u) ∧ Small es ∧ SO (g + 1) 3 1 IntC wr2 (.slice NA ne cN) es)) (fun r _ => strLen r)
        case atStart => exact ⟨[], t, none, 0, 0, rfl, hkA, hbA, ⟨rfl, HLT.out, (fun d h => by cases h), SO.nil⟩⟩
        case round =>
          clear hk0 hkA hbA
          obtain ⟨wr2, ew2⟩ : ∃ z, z = wr := ⟨_, rfl⟩
          subst ew2
          obtain ⟨es, u, NA, ne, cN, rfl, hk2, hb2, HS⟩ := hrel
          obtain ⟨hne, hlu, hsm, hro⟩ := HS.out
          have HNE := Aside.mk hne
          have HLU := Aside.mk hlu
          have HSM := Aside.mk hsm
          have HRO := Aside.mk hro
          have hul : u.length + 3 * ne ≤ 1000000 := by
            have h1 := congrArg List.length hlu
            rw [List.length_append, List.length_append, dimsT_len es hsm, hne] at h1
            have := HL.out; omega
          clear HS hne hlu hsm hro
          by_cases hH : HeadD u
          · obtain ⟨c, v, hu, hc1, hc2⟩ := hH
            have hsz : (bs u).size = v.length + 3 := by rw [bs_size, hu]; rfl
            have h0 : 0 < (bs u).size := by omega
            have h1 : 1 < (bs u).size := by omega
            have h2 : 2 < (bs u).size := by omega
            have e0 : (bs u)[0] = 91 := by subst hu; rfl
            have e1 : (bs u)[1] = c := by subst hu; rfl
            have e2 : (bs u)[2] = 93 := by subst hu; rfl
            have HEX : Aside ((bs u).extract 3 (bs u).size = bs v) := ⟨by rw [bs_from (bs_size u), hu]; rfl⟩
            have HMS : Aside (v.length < (bs u).size) := ⟨by omega⟩
            obtain ⟨d, hd⟩ : ∃ d, (c.toNat : Int) - 48 = d := ⟨_, rfl⟩
            have HD8 : Aside (1 ≤ d ∧ d ≤ 8) := ⟨by omega⟩
            have HLV : Aside (l = realT ++ (dimsT (es ++ [d]) ++ v)) := ⟨by
              rw [dimsT_snoc, ← hd, dimT_byte ⟨hc1, hc2⟩, HLU.out, hu]
              simp⟩
            have b0 := byte_is (b := (bs u)[0]) (c := 91) (k := 91) rfl e0
            have b1 : (49 : Int) ≤ (((bs u)[1]'h1).toNat : Int) := by rw [e1]; omega
            have b2 : (((bs u)[1]'h1).toNat : Int) ≤ (56 : Int) := by rw [e1]; omega
            have b3 := byte_is (b := (bs u)[2]) (c := 93) (k := 93) rfl e2
            have hw1 : IntKind.u8.wrap ((((bs u)[1]'h1).toNat : Int) - 48) = d := by
              rw [e1, hd]; simp [IntKind.wrap, IntKind.bits, IntKind.signed]; have := HD8.out; omega
            have hw2 : IntKind.i64.wrap d = d := wrap_i64 _ (Int.le_trans (by decide) HD8.out.1) (Int.le_trans HD8.out.2 (by decide))
            have hw3 : wrap64 d = d := wrap64_id (Int.le_trans (by decide) HD8.out.1) (Int.le_trans HD8.out.2 (by decide))
            have hs3 : 3 ≤ (bs u).size := by omega
            have hb3 := hb2.ext (((Ext.refl wr2).alloc (.cells #[.int .i64 d] 3)).drew)
            have hk3 := hk2.ext (((Ext.refl wr2).alloc (.cells #[.int .i64 d] 3)).drew)
            have hb1' := hb2.ext ((Ext.refl wr2).drew)
            have HRO3 := Aside.mk (HRO.out.ext IntC.ext (((Ext.refl wr2).alloc (.cells #[.int .i64 d] 3)).drew))
            have HSB := Aside.mk ((SO.lit (e := 3) (R := IntC) wr2 [.int .i64 d] [d] (by simp) (rows_ints [d] _)).sv.ext IntC.ext ((Ext.refl _).drew))
            have HLT3 := Aside.mk (B2.lt hb3)
            have HLB : Aside (es.length + [d].length ≤ 1073741824) := ⟨by have := HNE.out; simp; omega⟩
            have HLB2 : Aside ((es ++ [d]).length = ne + 1) := ⟨by simp [HNE.out]⟩
            obtain ⟨r, hr⟩ : ∃ r, bs u = r := ⟨_, rfl⟩
            simp only [hr] at *
            clear hu hc1 hc2 hsz e0 e1 e2 hd hr
            go_wp2_with fail
            go_region_law (refine step_append_so (R := IntC) (W := (wr2.alloc (.cells #[.int .i64 d] 3)).drew) (g + 1) elemInt rfl (.tmp 52) (.tmp 57) rfl (.slice NA ne cN) (.slice (some ⟨wr2.heap.size, 0, none⟩) 1 1) es [d] HRO3.out HSB.out IntC.one (fun _ _ _ _ h => h) (by simp [Act.eval]) (by simp [Act.eval]) HLT3.out HLB.out ?_; rintro v1 w5 ho hg; obtain ⟨A5, c5, rfl, _⟩ := ho.sv.form; rw [HLB2.out] at ho ⊢; have hbel := Below.grown (Below.refl (g + 1) _) hg HLT3.out HRO3.out.low; have hb5 := hb3.below (Nat.lt_succ_self _) hbel; have hk5 := hk3.below (Below.mono hbel (Nat.le_succ_of_le HG0.out)); have HRO5 := Aside.mk ho; clear ho hg hbel)
            all_goals
              have HB5 := Aside.mk hb5
              have HK5 := Aside.mk hk5
              clear hb2 hb1' hb3 hk2 hk3
              go_wp2_with fail
              go_roundw
              case rel => exact ⟨es ++ [d], v, A5, ne + 1, c5, by rw [HEX.out], HK5.out.far HG0.out _ _, HB5.out.put 1 _, ⟨HLB2.out, HLV.out, fun z hz => (List.mem_append.1 hz).elim (HSM.out z) (fun hz => by rw [List.mem_singleton.1 hz]; exact HD8.out), HRO5.out.set (Nat.lt_succ_self _) _ (fun _ _ h => h)⟩⟩
              case measure => rw [HEX.out]; show (bs v).size < _; rw [bs_size]; exact HMS.out
          · have HH := Aside.mk hH
            by_cases hu0 : u = []
            · subst hu0
              obtain ⟨t2, ht2⟩ : ∃ b, tyOk 1 es = b := ⟨_, rfl⟩
              have HT := Aside.mk ht2
              have eb : bs [] = (⟨#[]⟩ : ByteArray) := rfl
              rw [eb]
              clear ht2 hH
              cases t2
              · have HNO : Aside (¬ IsTy l) := ⟨noTy (k := 1) (by decide) HLU.out HSM.out HH.out (.inr HT.out)⟩
                go_wp2_with (go_at_call 34; (with_reducible refine (isType_calls (TV.mk (SO.sv HRO.out).iv) HT.out).mono ?_); rintro e w4 ⟨rfl, he⟩; have hk4 := hk2.ext he; have hb4 := hb2.ext he; have HRO4 := Aside.mk (HRO.out.ext IntC.ext he); clear he)
                have HK4 := Aside.mk hk4
                clear hk2 hb2 hk4 hb4
                go_roundw
                case rel => exact ⟨2, by simp, by simp, ⟨.inl HNO.out⟩, HK4.out⟩
                case measure => simp [intOf]
              · have HOK : Aside (m = ((1, es), 0)) := ⟨by rw [← HM.out]; exact parseS_yes HT.out (by rw [HLU.out, List.append_nil]; exact tyText_eq 1 es)⟩
                go_wp2_with (go_at_call 34; (with_reducible refine (isType_calls (TV.mk (SO.sv HRO.out).iv) HT.out).mono ?_); rintro e w4 ⟨rfl, he⟩; have hk4 := hk2.ext he; have hb4 := hb2.ext he; have HRO4 := Aside.mk (HRO.out.ext IntC.ext he); clear he)
                have HK4 := Aside.mk hk4
                refine bodyPost_ret (v := .tuple #[.agg #[.int .i64 1, .slice NA ne cN], .int .i64 0]) (by simp [results, Tryz.results26, go_sem, hk4]) rfl ⟨?_, (HK4.out.1.out.set (Nat.le_refl _) _).set (Nat.le_refl _) _⟩
                rw [HOK.out]
                refine ⟨NA, cN, by rw [← HNE.out], ?_⟩
                have := ((HRO4.out.set (p := ⟨w.heap.size, 0, none⟩) (Nat.lt_of_lt_of_le (Nat.lt_succ_self _) (Nat.le_succ_of_le HG0.out)) (.int .i64 1) (fun _ _ h => h)).set (p := ⟨w.heap.size, 1, none⟩) (Nat.lt_of_lt_of_le (Nat.lt_succ_self _) (Nat.le_succ_of_le HG0.out)) (.slice NA ne cN) (fun _ _ h => h)).mono (b' := w.heap.size) (by have := HG0.out; omega)
                rw [← HNE.out] at this ⊢
                exact this
            · have HNO : Aside (¬ IsTy l) := ⟨noTy (k := 1) (by decide) HLU.out HSM.out HH.out (.inl hu0)⟩
              have ht1 := bs_nonempty hu0
              have HK2 := Aside.mk hk2
              have hsz := bs_size u
              by_cases h3 : u.length < 3
              · have hs3 : ¬ 3 ≤ (bs u).size := by omega
                obtain ⟨r, hr⟩ : ∃ r, bs u = r := ⟨_, rfl⟩
                simp only [hr] at *
                clear hu0 hsz h3 hr hH
                go_wp2_with fail
                go_roundw
                case rel => exact ⟨2, by simp, by simp, ⟨.inl HNO.out⟩, HK2.out⟩
                case measure => simp [intOf]
              · have h0 : 0 < (bs u).size := by omega
                have h1 : 1 < (bs u).size := by omega
                have h2 : 2 < (bs u).size := by omega
                have hs3 : 3 ≤ (bs u).size := by omega
                have hc := not_headB hH h0 h1 h2
                obtain ⟨r, hr⟩ : ∃ r, bs u = r := ⟨_, rfl⟩
                simp only [hr] at *
                clear hu0 hsz h3 hr hH
                rcases hc with b0 | ⟨b0, b1⟩ | ⟨b0, b1, b2⟩ | ⟨b0, b1, b2, b3⟩
                all_goals
                  go_wp2_with fail
                  go_roundw
                  case rel => exact ⟨2, by simp, by simp, ⟨.inl HNO.out⟩, HK2.out⟩
                  case measure => simp [intOf]
      · have HP := Aside.mk hp
        have HPRE : Aside (Lib.hasPrefix (bs l).data.toList realB.data.toList = false) := ⟨pre_no hp⟩
        clear hp
        go_wp2_with (go_at_call 78; (with_reducible refine (cut_no HPRE.out).mono ?_); rintro e w1 ⟨rfl, rfl⟩)
        go_roundw
        case rel => exact ⟨2, by simp, by simp, ⟨HN.out.two HP.out⟩, hk0⟩
        case measure => simp [intOf]
    · by_cases hp : ∃ t, l = flagT ++ t
      · obtain ⟨t, ht⟩ := hp
        have HPRE : Aside ((bs l).data.toList = flagB.data.toList ++ t) := ⟨ht⟩
        have HLT := Aside.mk ht
        clear ht
        obtain ⟨g, hg⟩ : ∃ g, wr.heap.size = g := ⟨_, rfl⟩
        have HG0 : Aside (w.heap.size + 1 ≤ g) := ⟨by rw [← hg]; exact hk0.lt⟩
        have hkA := hk0.ext ((Ext.refl wr).alloc (.cells #[.int .i64 2, .slice none 0 0] 25))
        have hbA := B2.new (w := wr) (g := g) hg.symm (.int .i64 2) (.slice none 0 0) 25
        go_wp2_with (go_at_call 78; (with_reducible refine (cut_yes (t := t) HPRE.out).mono ?_); rintro e w1 ⟨rfl, rfl⟩)
        go_loopw [6] (fun r wr2 => ∃ (es : List Int) (u : List UInt8) (NA : Option Addr) (ne cN : Nat), r = .string (bs u) ∧ KR2 w wr2 ∧ B2 wr2 g (.int .i64 2) (.slice NA ne cN) ∧ Aside (es.length = ne ∧ l = flagT ++ (dimsT es ++ u) ∧ Small es ∧ SO (g + 1) 3 1 IntC wr2 (.slice NA ne cN) es)) (fun r _ => strLen r)
        case atStart => exact ⟨[], t, none, 0, 0, rfl, hkA, hbA, ⟨rfl, HLT.out, (fun d h => by cases h), SO.nil⟩⟩
        case round =>
          clear hk0 hkA hbA
          obtain ⟨wr2, ew2⟩ : ∃ z, z = wr := ⟨_, rfl⟩
          subst ew2
          obtain ⟨es, u, NA, ne, cN, rfl, hk2, hb2, HS⟩ := hrel
          obtain ⟨hne, hlu, hsm, hro⟩ := HS.out
          have HNE := Aside.mk hne
          have HLU := Aside.mk hlu
          have HSM := Aside.mk hsm
          have HRO := Aside.mk hro
          have hul : u.length + 3 * ne ≤ 1000000 := by
            have h1 := congrArg List.length hlu
            rw [List.length_append, List.length_append, dimsT_len es hsm, hne] at h1
            have := HL.out; omega
          clear HS hne hlu hsm hro
          by_cases hH : HeadD u
          · obtain ⟨c, v, hu, hc1, hc2⟩ := hH
            have hsz : (bs u).size = v.length + 3 := by rw [bs_size, hu]; rfl
            have h0 : 0 < (bs u).size := by omega
            have h1 : 1 < (bs u).size := by omega
            have h2 : 2 < (bs u).size := by omega
            have e0 : (bs u)[0] = 91 := by subst hu; rfl
            have e1 : (bs u)[1] = c := by subst hu; rfl
            have e2 : (bs u)[2] = 93 := by subst hu; rfl
            have HEX : Aside ((bs u).extract 3 (bs u).size = bs v) := ⟨by rw [bs_from (bs_size u), hu]; rfl⟩
            have HMS : Aside (v.length < (bs u).size) := ⟨by omega⟩
            obtain ⟨d, hd⟩ : ∃ d, (c.toNat : Int) - 48 = d := ⟨_, rfl⟩
            have HD8 : Aside (1 ≤ d ∧ d ≤ 8) := ⟨by omega⟩
            have HLV : Aside (l = flagT ++ (dimsT (es ++ [d]) ++ v)) := ⟨by
              rw [dimsT_snoc, ← hd, dimT_byte ⟨hc1, hc2⟩, HLU.out, hu]
              simp⟩
            have b0 := byte_is (b := (bs u)[0]) (c := 91) (k := 91) rfl e0
            have b1 : (49 : Int) ≤ (((bs u)[1]'h1).toNat : Int) := by rw [e1]; omega
            have b2 : (((bs u)[1]'h1).toNat : Int) ≤ (56 : Int) := by rw [e1]; omega
            have b3 := byte_is (b := (bs u)[2]) (c := 93) (k := 93) rfl e2
            have hw1 : IntKind.u8.wrap ((((bs u)[1]'h1).toNat : Int) - 48) = d := by
              rw [e1, hd]; simp [IntKind.wrap, IntKind.bits, IntKind.signed]; have := HD8.out; omega
            have hw2 : IntKind.i64.wrap d = d := wrap_i64 _ (Int.le_trans (by decide) HD8.out.1) (Int.le_trans HD8.out.2 (by decide))
            have hw3 : wrap64 d = d := wrap64_id (Int.le_trans (by decide) HD8.out.1) (Int.le_trans HD8.out.2 (by decide))
            have hs3 : 3 ≤ (bs u).size := by omega
            have hb3 := hb2.ext (((Ext.refl wr2).alloc (.cells #[.int .i64 d] 3)).drew)
            have hk3 := hk2.ext (((Ext.refl wr2).alloc (.cells #[.int .i64 d] 3)).drew)
            have hb1' := hb2.ext ((Ext.refl wr2).drew)
            have HRO3 := Aside.mk (HRO.out.ext IntC.ext (((Ext.refl wr2).alloc (.cells #[.int .i64 d] 3)).drew))
            have HSB := Aside.mk ((SO.lit (e := 3) (R := IntC) wr2 [.int .i64 d] [d] (by simp) (rows_ints [d] _)).sv.ext IntC.ext ((Ext.refl _).drew))
            have HLT3 := Aside.mk (B2.lt hb3)
            have HLB : Aside (es.length + [d].length ≤ 1073741824) := ⟨by have := HNE.out; simp; omega⟩
            have HLB2 : Aside ((es ++ [d]).length = ne + 1) := ⟨by simp [HNE.out]⟩
            obtain ⟨r, hr⟩ : ∃ r, bs u = r := ⟨_, rfl⟩
            simp only [hr] at *
            clear hu hc1 hc2 hsz e0 e1 e2 hd hr
            go_wp2_with fail
            go_region_law (refine step_append_so (R := IntC) (W := (wr2.alloc (.cells #[.int .i64 d] 3)).drew) (g + 1) elemInt rfl (.tmp 52) (.tmp 57) rfl (.slice NA ne cN) (.slice (some ⟨wr2.heap.size, 0, none⟩) 1 1) es [d] HRO3.out HSB.out IntC.one (fun _ _ _ _ h => h) (by simp [Act.eval]) (by simp [Act.eval]) HLT3.out HLB.out ?_; rintro v1 w5 ho hg; obtain ⟨A5, c5, rfl, _⟩ := ho.sv.form; rw [HLB2.out] at ho ⊢; have hbel := Below.grown (Below.refl (g + 1) _) hg HLT3.out HRO3.out.low; have hb5 := hb3.below (Nat.lt_succ_self _) hbel; have hk5 := hk3.below (Below.mono hbel (Nat.le_succ_of_le HG0.out)); have HRO5 := Aside.mk ho; clear ho hg hbel)
            all_goals
              have HB5 := Aside.mk hb5
              have HK5 := Aside.mk hk5
              clear hb2 hb1' hb3 hk2 hk3
              go_wp2_with fail
              go_roundw
              case rel => exact ⟨es ++ [d], v, A5, ne + 1, c5, by rw [HEX.out], HK5.out.far HG0.out _ _, HB5.out.put 1 _, ⟨HLB2.out, HLV.out, fun z hz => (List.mem_append.1 hz).elim (HSM.out z) (fun hz => by rw [List.mem_singleton.1 hz]; exact HD8.out), HRO5.out.set (Nat.lt_succ_self _) _ (fun _ _ h => h)⟩⟩
              case measure => rw [HEX.out]; show (bs v).size < _; rw [bs_size]; exact HMS.out
          · have HH := Aside.mk hH
            by_cases hu0 : u = []
            · subst hu0
              obtain ⟨t2, ht2⟩ : ∃ b, tyOk 2 es = b := ⟨_, rfl⟩
              have HT := Aside.mk ht2
              have eb : bs [] = (⟨#[]⟩ : ByteArray) := rfl
              rw [eb]
              clear ht2 hH
              cases t2
              · have HNO : Aside (¬ IsTy l) := ⟨noTy (k := 2) (by decide) HLU.out HSM.out HH.out (.inr HT.out)⟩
                go_wp2_with (go_at_call 34; (with_reducible refine (isType_calls (TV.mk (SO.sv HRO.out).iv) HT.out).mono ?_); rintro e w4 ⟨rfl, he⟩; have hk4 := hk2.ext he; have hb4 := hb2.ext he; have HRO4 := Aside.mk (HRO.out.ext IntC.ext he); clear he)
                have HK4 := Aside.mk hk4
                clear hk2 hb2 hk4 hb4
                go_roundw
                case rel => exact ⟨3, by simp, by simp, ⟨.inl HNO.out⟩, HK4.out⟩
                case measure => simp [intOf]
              · have HOK : Aside (m = ((2, es), 0)) := ⟨by rw [← HM.out]; exact parseS_yes HT.out (by rw [HLU.out, List.append_nil]; exact tyText_eq 2 es)⟩
                go_wp2_with (go_at_call 34; (with_reducible refine (isType_calls (TV.mk (SO.sv HRO.out).iv) HT.out).mono ?_); rintro e w4 ⟨rfl, he⟩; have hk4 := hk2.ext he; have hb4 := hb2.ext he; have HRO4 := Aside.mk (HRO.out.ext IntC.ext he); clear he)
                have HK4 := Aside.mk hk4
                refine bodyPost_ret (v := .tuple #[.agg #[.int .i64 2, .slice NA ne cN], .int .i64 0]) (by simp [results, Tryz.results26, go_sem, hk4]) rfl ⟨?_, (HK4.out.1.out.set (Nat.le_refl _) _).set (Nat.le_refl _) _⟩
                rw [HOK.out]
                refine ⟨NA, cN, by rw [← HNE.out], ?_⟩
                have := ((HRO4.out.set (p := ⟨w.heap.size, 0, none⟩) (Nat.lt_of_lt_of_le (Nat.lt_succ_self _) (Nat.le_succ_of_le HG0.out)) (.int .i64 2) (fun _ _ h => h)).set (p := ⟨w.heap.size, 1, none⟩) (Nat.lt_of_lt_of_le (Nat.lt_succ_self _) (Nat.le_succ_of_le HG0.out)) (.slice NA ne cN) (fun _ _ h => h)).mono (b' := w.heap.size) (by have := HG0.out; omega)
                rw [← HNE.out] at this ⊢
                exact this
            · have HNO : Aside (¬ IsTy l) := ⟨noTy (k := 2) (by decide) HLU.out HSM.out HH.out (.inl hu0)⟩
              have ht1 := bs_nonempty hu0
              have HK2 := Aside.mk hk2
              have hsz := bs_size u
              by_cases h3 : u.length < 3
              · have hs3 : ¬ 3 ≤ (bs u).size := by omega
                obtain ⟨r, hr⟩ : ∃ r, bs u = r := ⟨_, rfl⟩
                simp only [hr] at *
                clear hu0 hsz h3 hr hH
                go_wp2_with fail
                go_roundw
                case rel => exact ⟨3, by simp, by simp, ⟨.inl HNO.out⟩, HK2.out⟩
                case measure => simp [intOf]
              · have h0 : 0 < (bs u).size := by omega
                have h1 : 1 < (bs u).size := by omega
                have h2 : 2 < (bs u).size := by omega
                have hs3 : 3 ≤ (bs u).size := by omega
                have hc := not_headB hH h0 h1 h2
                obtain ⟨r, hr⟩ : ∃ r, bs u = r := ⟨_, rfl⟩
                simp only [hr] at *
                clear hu0 hsz h3 hr hH
                rcases hc with b0 | ⟨b0, b1⟩ | ⟨b0, b1, b2⟩ | ⟨b0, b1, b2, b3⟩
                all_goals
                  go_wp2_with fail
                  go_roundw
                  case rel => exact ⟨3, by simp, by simp, ⟨.inl HNO.out⟩, HK2.out⟩
                  case measure => simp [intOf]
      · have HP := Aside.mk hp
        have HPRE : Aside (Lib.hasPrefix (bs l).data.toList flagB.data.toList = false) := ⟨pre_no hp⟩
        clear hp
        go_wp2_with (go_at_call 78; (with_reducible refine (cut_no HPRE.out).mono ?_); rintro e w1 ⟨rfl, rfl⟩)
        go_roundw
        case rel => exact ⟨3, by simp, by simp, ⟨HN.out.three HP.out⟩, hk0⟩
        case measure => simp [intOf]
    · by_cases hp : ∃ t, l = indexT ++ t
      · obtain ⟨t, ht⟩ := hp
        have HPRE : Aside ((bs l).data.toList = indexB.data.toList ++ t) := ⟨ht⟩
        have HLT := Aside.mk ht
        clear ht
        obtain ⟨g, hg⟩ : ∃ g, wr.heap.size = g := ⟨_, rfl⟩
        have HG0 : Aside (w.heap.size + 1 ≤ g) := ⟨by rw [← hg]; exact hk0.lt⟩
        have hkA := hk0.ext ((Ext.refl wr).alloc (.cells #[.int .i64 3, .slice none 0 0] 25))
        have hbA := B2.new (w := wr) (g := g) hg.symm (.int .i64 3) (.slice none 0 0) 25
        go_wp2_with (go_at_call 78; (with_reducible refine (cut_yes (t := t) HPRE.out).mono ?_); rintro e w1 ⟨rfl, rfl⟩)
        go_loopw [6] (fun r wr2 => ∃ (es : List Int) (u : List UInt8) (NA : Option Addr) (ne cN : Nat), r = .string (bs u) ∧ KR2 w wr2 ∧ B2 wr2 g (.int .i64 3) (.slice NA ne cN) ∧ Aside (es.length = ne ∧ l = indexT ++ (dimsT es ++ u) ∧ Small es ∧ SO (g + 1) 3 1 IntC wr2 (.slice NA ne cN) es)) (fun r _ => strLen r)
        case atStart => exact ⟨[], t, none, 0, 0, rfl, hkA, hbA, ⟨rfl, HLT.out, (fun d h => by cases h), SO.nil⟩⟩
        case round =>
          clear hk0 hkA hbA
          obtain ⟨wr2, ew2⟩ : ∃ z, z = wr := ⟨_, rfl⟩
          subst ew2
          obtain ⟨es, u, NA, ne, cN, rfl, hk2, hb2, HS⟩ := hrel
          obtain ⟨hne, hlu, hsm, hro⟩ := HS.out
          have HNE := Aside.mk hne
          have HLU := Aside.mk hlu
          have HSM := Aside.mk hsm
          have HRO := Aside.mk hro
          have hul : u.length + 3 * ne ≤ 1000000 := by
            have h1 := congrArg List.length hlu
            rw [List.length_append, List.length_append, dimsT_len es hsm, hne] at h1
            have := HL.out; omega
          clear HS hne hlu hsm hro
          by_cases hH : HeadD u
          · obtain ⟨c, v, hu, hc1, hc2⟩ := hH
            have hsz : (bs u).size = v.length + 3 := by rw [bs_size, hu]; rfl
            have h0 : 0 < (bs u).size := by omega
            have h1 : 1 < (bs u).size := by omega
            have h2 : 2 < (bs u).size := by omega
            have e0 : (bs u)[0] = 91 := by subst hu; rfl
            have e1 : (bs u)[1] = c := by subst hu; rfl
            have e2 : (bs u)[2] = 93 := by subst hu; rfl
            have HEX : Aside ((bs u).extract 3 (bs u).size = bs v) := ⟨by rw [bs_from (bs_size u), hu]; rfl⟩
            have HMS : Aside (v.length < (bs u).size) := ⟨by omega⟩
            obtain ⟨d, hd⟩ : ∃ d, (c.toNat : Int) - 48 = d := ⟨_, rfl⟩
            have HD8 : Aside (1 ≤ d ∧ d ≤ 8) := ⟨by omega⟩
            have HLV : Aside (l = indexT ++ (dimsT (es ++ [d]) ++ v)) := ⟨by
              rw [dimsT_snoc, ← hd, dimT_byte ⟨hc1, hc2⟩, HLU.out, hu]
              simp⟩
            have b0 := byte_is (b := (bs u)[0]) (c := 91) (k := 91) rfl e0
            have b1 : (49 : Int) ≤ (((bs u)[1]'h1).toNat : Int) := by rw [e1]; omega
            have b2 : (((bs u)[1]'h1).toNat : Int) ≤ (56 : Int) := by rw [e1]; omega
            have b3 := byte_is (b := (bs u)[2]) (c := 93) (k := 93) rfl e2
            have hw1 : IntKind.u8.wrap ((((bs u)[1]'h1).toNat : Int) - 48) = d := by
              rw [e1, hd]; simp [IntKind.wrap, IntKind.bits, IntKind.signed]; have := HD8.out; omega
            have hw2 : IntKind.i64.wrap d = d := wrap_i64 _ (Int.le_trans (by decide) HD8.out.1) (Int.le_trans HD8.out.2 (by decide))
            have hw3 : wrap64 d = d := wrap64_id (Int.le_trans (by decide) HD8.out.1) (Int.le_trans HD8.out.2 (by decide))
            have hs3 : 3 ≤ (bs u).size := by omega
            have hb3 := hb2.ext (((Ext.refl wr2).alloc (.cells #[.int .i64 d] 3)).drew)
            have hk3 := hk2.ext (((Ext.refl wr2).alloc (.cells #[.int .i64 d] 3)).drew)
            have hb1' := hb2.ext ((Ext.refl wr2).drew)
            have HRO3 := Aside.mk (HRO.out.ext IntC.ext (((Ext.refl wr2).alloc (.cells #[.int .i64 d] 3)).drew))
            have HSB := Aside.mk ((SO.lit (e := 3) (R := IntC) wr2 [.int .i64 d] [d] (by simp) (rows_ints [d] _)).sv.ext IntC.ext ((Ext.refl _).drew))
            have HLT3 := Aside.mk (B2.lt hb3)
            have HLB : Aside (es.length + [d].length ≤ 1073741824) := ⟨by have := HNE.out; simp; omega⟩
            have HLB2 : Aside ((es ++ [d]).length = ne + 1) := ⟨by simp [HNE.out]⟩
            obtain ⟨r, hr⟩ : ∃ r, bs u = r := ⟨_, rfl⟩
            simp only [hr] at *
            clear hu hc1 hc2 hsz e0 e1 e2 hd hr
            go_wp2_with fail
            go_region_law (refine step_append_so (R := IntC) (W := (wr2.alloc (.cells #[.int .i64 d] 3)).drew) (g + 1) elemInt rfl (.tmp 52) (.tmp 57) rfl (.slice NA ne cN) (.slice (some ⟨wr2.heap.size, 0, none⟩) 1 1) es [d] HRO3.out HSB.out IntC.one (fun _ _ _ _ h => h) (by simp [Act.eval]) (by simp [Act.eval]) HLT3.out HLB.out ?_; rintro v1 w5 ho hg; obtain ⟨A5, c5, rfl, _⟩ := ho.sv.form; rw [HLB2.out] at ho ⊢; have hbel := Below.grown (Below.refl (g + 1) _) hg HLT3.out HRO3.out.low; have hb5 := hb3.below (Nat.lt_succ_self _) hbel; have hk5 := hk3.below (Below.mono hbel (Nat.le_succ_of_le HG0.out)); have HRO5 := Aside.mk ho; clear ho hg hbel)
            all_goals
              have HB5 := Aside.mk hb5
              have HK5 := Aside.mk hk5
              clear hb2 hb1' hb3 hk2 hk3
              go_wp2_with fail
              go_roundw
              case rel => exact ⟨es ++ [d], v, A5, ne + 1, c5, by rw [HEX.out], HK5.out.far HG0.out _ _, HB5.out.put 1 _, ⟨HLB2.out, HLV.out, fun z hz => (List.mem_append.1 hz).elim (HSM.out z) (fun hz => by rw [List.mem_singleton.1 hz]; exact HD8.out), HRO5.out.set (Nat.lt_succ_self _) _ (fun _ _ h => h)⟩⟩
              case measure => rw [HEX.out]; show (bs v).size < _; rw [bs_size]; exact HMS.out
          · have HH := Aside.mk hH
            by_cases hu0 : u = []
            · subst hu0
              obtain ⟨t2, ht2⟩ : ∃ b, tyOk 3 es = b := ⟨_, rfl⟩
              have HT := Aside.mk ht2
              have eb : bs [] = (⟨#[]⟩ : ByteArray) := rfl
              rw [eb]
              clear ht2 hH
              cases t2
              · have HNO : Aside (¬ IsTy l) := ⟨noTy (k := 3) (by decide) HLU.out HSM.out HH.out (.inr HT.out)⟩
                go_wp2_with (go_at_call 34; (with_reducible refine (isType_calls (TV.mk (SO.sv HRO.out).iv) HT.out).mono ?_); rintro e w4 ⟨rfl, he⟩; have hk4 := hk2.ext he; have hb4 := hb2.ext he; have HRO4 := Aside.mk (HRO.out.ext IntC.ext he); clear he)
                have HK4 := Aside.mk hk4
                clear hk2 hb2 hk4 hb4
                go_roundw
                case rel => exact ⟨4, by simp, by simp, ⟨.inl HNO.out⟩, HK4.out⟩
                case measure => simp [intOf]
              · have HOK : Aside (m = ((3, es), 0)) := ⟨by rw [← HM.out]; exact parseS_yes HT.out (by rw [HLU.out, List.append_nil]; exact tyText_eq 3 es)⟩
                go_wp2_with (go_at_call 34; (with_reducible refine (isType_calls (TV.mk (SO.sv HRO.out).iv) HT.out).mono ?_); rintro e w4 ⟨rfl, he⟩; have hk4 := hk2.ext he; have hb4 := hb2.ext he; have HRO4 := Aside.mk (HRO.out.ext IntC.ext he); clear he)
                have HK4 := Aside.mk hk4
                refine bodyPost_ret (v := .tuple #[.agg #[.int .i64 3, .slice NA ne cN], .int .i64 0]) (by simp [results, Tryz.results26, go_sem, hk4]) rfl ⟨?_, (HK4.out.1.out.set (Nat.le_refl _) _).set (Nat.le_refl _) _⟩
                rw [HOK.out]
                refine ⟨NA, cN, by rw [← HNE.out], ?_⟩
                have := ((HRO4.out.set (p := ⟨w.heap.size, 0, none⟩) (Nat.lt_of_lt_of_le (Nat.lt_succ_self _) (Nat.le_succ_of_le HG0.out)) (.int .i64 3) (fun _ _ h => h)).set (p := ⟨w.heap.size, 1, none⟩) (Nat.lt_of_lt_of_le (Nat.lt_succ_self _) (Nat.le_succ_of_le HG0.out)) (.slice NA ne cN) (fun _ _ h => h)).mono (b' := w.heap.size) (by have := HG0.out; omega)
                rw [← HNE.out] at this ⊢
                exact this
            · have HNO : Aside (¬ IsTy l) := ⟨noTy (k := 3) (by decide) HLU.out HSM.out HH.out (.inl hu0)⟩
              have ht1 := bs_nonempty hu0
              have HK2 := Aside.mk hk2
              have hsz := bs_size u
              by_cases h3 : u.length < 3
              · have hs3 : ¬ 3 ≤ (bs u).size := by omega
                obtain ⟨r, hr⟩ : ∃ r, bs u = r := ⟨_, rfl⟩
                simp only [hr] at *
                clear hu0 hsz h3 hr hH
                go_wp2_with fail
                go_roundw
                case rel => exact ⟨4, by simp, by simp, ⟨.inl HNO.out⟩, HK2.out⟩
                case measure => simp [intOf]
              · have h0 : 0 < (bs u).size := by omega
                have h1 : 1 < (bs u).size := by omega
                have h2 : 2 < (bs u).size := by omega
                have hs3 : 3 ≤ (bs u).size := by omega
                have hc := not_headB hH h0 h1 h2
                obtain ⟨r, hr⟩ : ∃ r, bs u = r := ⟨_, rfl⟩
                simp only [hr] at *
                clear hu0 hsz h3 hr hH
                rcases hc with b0 | ⟨b0, b1⟩ | ⟨b0, b1, b2⟩ | ⟨b0, b1, b2, b3⟩
                all_goals
                  go_wp2_with fail
                  go_roundw
                  case rel => exact ⟨4, by simp, by simp, ⟨.inl HNO.out⟩, HK2.out⟩
                  case measure => simp [intOf]
      · have HP := Aside.mk hp
        have HPRE : Aside (Lib.hasPrefix (bs l).data.toList indexB.data.toList = false) := ⟨pre_no hp⟩
        clear hp
        go_wp2_with (go_at_call 78; (with_reducible refine (cut_no HPRE.out).mono ?_); rintro e w1 ⟨rfl, rfl⟩)
        go_roundw
        case rel => exact ⟨4, by simp, by simp, ⟨HN.out.four HP.out⟩, hk0⟩
        case measure => simp [intOf]
    · have HE : Aside (m = ((0, []), 5)) := ⟨by rw [← HM.out]; exact parseS_no HN.out.end⟩
      have HK := Aside.mk hk0
      go_wp2_with fail
      refine bodyPost_ret (v := .tuple #[.agg #[.int .i64 0, .slice none 0 0], .int .i64 5]) (by simp [results, Tryz.results26, go_sem, hk0]) rfl ⟨?_, (HK.out.1.out.set (Nat.le_refl _) _).set (Nat.le_refl _) _⟩
      rw [HE.out]
      exact ⟨none, 0, rfl, SO.nil⟩
end Go.Proofs.YtcbaipnphepbeaaGreatDoor

namespace Go.Proofs.YtcbaipnphepbeaaGreatDoor
open Go.RowKit
attribute [local go_sem ↓] Go.wp_at_zero Go.wp_at_succ

/-- What it says of a text whether it is a type's. -/
def ROut (l : List UInt8) (k : Int) (es : List Int) (ok : Bool) : Prop := (ok = true → parseS l = ((k, es), 0)) ∧ (ok = false → parseS l = ((0, []), 5))
theorem ROut.bad {l : List UInt8} {k : Int} {es : List Int} (h : parseS l = ((0, []), 5)) : ROut l k es false := ⟨(fun h => by cases h), fun _ => h⟩
/-- A type and whether it is one. -/
def RParsed (b : Nat) (w' : World) (l : List UInt8) (e : Ending) : Prop := ∃ (k : Int) (es : List Int) (D : Option Addr) (c : Nat) (ok : Bool), e = .returned (.tuple #[.agg #[.int .i64 k, .slice D es.length c], .bool ok]) ∧ SO b 3 1 IntC w' (.slice D es.length c) es ∧ ROut l k es ok
theorem KR2.set {w W : World} (h : KR2 w W) (j : Nat) (v : Value) : KR2 w (W.setCell ⟨w.heap.size, j, none⟩ v) := ⟨⟨h.1.out.set (Nat.le_refl _) v⟩, h.2.1.set _ _, h.2.2.set _ _⟩
theorem B2.other {w : World} {g : Nat} {x0 x1 : Value} (h0 : B2 w g x0 x1) {p : Addr} (hp : p.block ≠ g) (v : Value) : B2 (w.setCell p v) g x0 x1 := by
  obtain ⟨⟨h1, h2⟩, f1, f2⟩ := h0
  have hc : ∀ {j : Nat} {u : Value}, w.cell? ⟨g, j, none⟩ = some u → (w.setCell p v).cell? ⟨g, j, none⟩ = some u := fun h => (World.cell?_setCell_other _ _ _ v (by rintro rfl; exact hp rfl)).trans h
  exact ⟨⟨hc h1, hc h2⟩, by rw [World.frozen?_setCell]; exact f1, by rw [World.frozen?_setCell]; exact f2⟩
/-- The result, the type read, and its sizes. -/
abbrev SP (w : World) (k : Int) (x : Value) (es : List Int) (W : World) : Prop := KR2 w W ∧ B2 W (w.heap.size + 1) (.int .i64 k) x ∧ Aside (SO (w.heap.size + 1 + 1) 3 1 IntC W x es)
theorem SP.ext {w W W' : World} {k : Int} {x : Value} {es : List Int} (e : Ext W W') (h : SP w k x es W) : SP w k x es W' := ⟨h.1.ext e, h.2.1.ext e, ⟨h.2.2.out.ext IntC.ext e⟩⟩
theorem SP.set2 {w W : World} {k : Int} {x : Value} {es : List Int} (h : SP w k x es W) (v0 v1 : Value) : SP w k x es ((W.setCell ⟨w.heap.size, 0, none⟩ v0).setCell ⟨w.heap.size, 1, none⟩ v1) := by
  have hn : w.heap.size ≠ w.heap.size + 1 := by omega
  exact ⟨(h.1.set 0 v0).set 1 v1, (h.2.1.other (p := ⟨w.heap.size, 0, none⟩) hn v0).other (p := ⟨w.heap.size, 1, none⟩) hn v1,
    ⟨(h.2.2.out.set (p := ⟨w.heap.size, 0, none⟩) (Nat.lt_succ_of_lt (Nat.lt_succ_self _)) v0 (fun _ _ h => h)).set (p := ⟨w.heap.size, 1, none⟩) (Nat.lt_succ_of_lt (Nat.lt_succ_self _)) v1 (fun _ _ h => h)⟩⟩
theorem kindL_eq {l : List UInt8} {k : Int} (h : (l.head? = some 102 ∧ k = 2) ∨ (l.head? = some 105 ∧ k = 3) ∨ (l.head? ≠ some 102 ∧ l.head? ≠ some 105 ∧ k = 1)) : kindL l = k := by
  unfold kindL
  rcases h with ⟨h, rfl⟩ | ⟨h, rfl⟩ | ⟨h1, h2, rfl⟩
  · rw [h]; rfl
  · rw [h]; rfl
  · rw [if_neg h1, if_neg h2]
theorem head_byte {l : List UInt8} {r : ByteArray} (hr : bs l = r) {c : UInt8} (h : l.head? = some c) : ∃ h0 : 0 < r.size, r[0] = c := by
  subst hr
  cases l with
  | nil => cases h
  | cons a t => exact ⟨by rw [bs_size]; simp, Option.some.inj h⟩
theorem head_not {l : List UInt8} {r : ByteArray} (hr : bs l = r) {c : UInt8} (h : l.head? ≠ some c) (h0 : 0 < r.size) : r[0] ≠ c := by
  subst hr
  cases l with
  | nil => rw [bs_size] at h0; cases h0
  | cons a t => exact fun e => h (congrArg some e)
theorem data_get {l : List UInt8} {r : ByteArray} (hr : bs l = r) {p : Nat} (h : p < r.size) : l[p]? = some r[p] := by
  subst hr
  exact Lib.data_getElem? _ _ h
theorem rp_ok {l : List UInt8} {r sB : ByteArray} {k : Int} {es : List Int} {b : Bool} (hr : bs l = r) (hs : tyB k es = sB) (hb : (sB.toList == r.toList) = b) (ht : tyOk k es = true)
    (hf : (tyOk k es && decide (tyText k es = l)) = decide (parseS l = ((k, es), 0)) ∧ ((tyOk k es && decide (tyText k es = l)) = false → parseS l = ((0, []), 5))) :
    ROut l k es b := by
  subst hr hs
  rw [toList_beq] at hb
  have hb' : decide (tyText k es = l) = b := hb
  rw [hb', ht, Bool.true_and] at hf
  exact ⟨fun h => of_decide_eq_true (hf.1.symm.trans h), hf.2⟩
/-- One byte more. -/
theorem scan_more {l : List UInt8} {es : List Int} {p : Nat} {a b : UInt8} (h : scanL l = es ++ scanL (l.drop p)) (ha : l[p]? = some a) (hb : l[p + 1]? = some b) : (a = 91 → scanL l = (es ++ [(b.toNat : Int) - 48]) ++ scanL (l.drop (p + 1))) ∧ (a ≠ 91 → scanL l = es ++ scanL (l.drop (p + 1))) := by
  have e1 : l.drop p = a :: l.drop (p + 1) := by
    obtain ⟨hp, rfl⟩ := List.getElem?_eq_some_iff.1 ha
    exact List.drop_eq_getElem_cons hp
  have e2 : l.drop (p + 1) = b :: l.drop (p + 2) := by
    obtain ⟨hp, rfl⟩ := List.getElem?_eq_some_iff.1 hb
    exact List.drop_eq_getElem_cons hp
  rw [e1, e2] at h
  refine ⟨?_, fun hn => ?_⟩
  · rintro rfl
    rw [scanL_take, ← e2] at h
    rw [h]; simp
  · rw [scanL_skip hn, ← e2] at h
    exact h
theorem scan_end {l : List UInt8} {p : Nat} (h : l.length ≤ p + 1) : scanL (l.drop p) = [] := by
  match hd : l.drop p with
  | [] => rfl
  | [a] => rfl
  | a :: b :: t =>
    have := congrArg List.length hd
    rw [List.length_drop] at this
    simp at this
    omega
set_option maxRecDepth 10000 in
set_option maxHeartbeats 8000000 in
theorem rParse_calls {w : World} {l : List UInt8} (hl : l.length ≤ 1000000) :
    Calls Tryz.prog 27 #[.string (bs l)] w fun e w' => RParsed w.heap.size w' l e ∧ Ext w w' := by
  have HL := Aside.mk hl
  obtain ⟨r, hr⟩ : ∃ r, bs l = r := ⟨_, rfl⟩
  have HR := Aside.mk hr
  have HRZ : Aside (r.size = l.length) := ⟨by rw [← hr]; exact bs_size l⟩
  have hrl : r.size ≤ 1000000 := by rw [HRZ.out]; exact hl
  rw [hr]
  have hc : l.head? = some 102 ∨ l.head? = some 105 ∨ (l.head? ≠ some 102 ∧ l.head? ≠ some 105) := by
    by_cases h1 : l.head? = some 102
    · exact .inl h1
    · by_cases h2 : l.head? = some 105
      · exact .inr (.inl h2)
      · exact .inr (.inr ⟨h1, h2⟩)
  have HK0 : Aside (∀ i : Int, KR2 w ((w.alloc (.cells #[.int .i64 0, .slice none 0 0] 25)).alloc (.cells #[.int .i64 i, .slice none 0 0] 25)) ∧ B2 ((w.alloc (.cells #[.int .i64 0, .slice none 0 0] 25)).alloc (.cells #[.int .i64 i, .slice none 0 0] 25)) (w.heap.size + 1) (.int .i64 i) (.slice none 0 0)) :=
    ⟨fun i => ⟨(KR2.init w (.int .i64 0) (.slice none 0 0) 25).ext ((Ext.refl _).alloc _), B2.new (g := w.heap.size + 1) (by simp) _ _ _⟩⟩
  clear hl
  rcases hc with hc | hc | hc
  · have HKL : Aside (kindL l = 2) := ⟨kindL_eq (.inl ⟨hc, rfl⟩)⟩
    obtain ⟨h0, e0⟩ := head_byte hr hc
    have b1 := byte_is (b := r[0]) (c := 102) (k := 102) rfl e0
    have b2 := byte_not (b := r[0]) (c := 105) (k := 105) rfl (by rw [e0]; decide)
    clear hc e0 hr
    go_enter Tryz.func27, Tryz.ntmps27
    go_wp2_with fail
    skip
    go_loopw [5] (fun i wr => ∃ (p : Nat) (es : List Int) (NA : Option Addr) (ne cN : Nat), i = .int .i64 (p : Int) ∧ p ≤ r.size ∧ ne ≤ 4 ∧ KR2 w wr ∧ B2 wr (w.heap.size + 1) (.int .i64 2) (.slice NA ne cN) ∧ Aside (es.length = ne ∧ scanL l = es ++ scanL (l.drop p) ∧ SO (w.heap.size + 1 + 1) 3 1 IntC wr (.slice NA ne cN) es)) (fun i _ => r.size - (intOf i).toNat)
    case atStart => exact ⟨0, [], none, 0, 0, rfl, by omega, by omega, (HK0.out 2).1, (HK0.out 2).2, ⟨rfl, rfl, SO.nil⟩⟩
    case round =>
      obtain ⟨p, es, NA, ne, cN, rfl, hp, hne4, hk2, hb2, HS⟩ := hrel
      obtain ⟨hne, hsc, hro⟩ := HS.out
      have HNE := Aside.mk hne
      have HRO := Aside.mk hro
      have HSC := Aside.mk hsc
      clear HS hne hro
      by_cases hc : p + 1 < r.size ∧ ne ≤ 3
      · obtain ⟨hpr, hn3⟩ := hc
        obtain ⟨j, hj⟩ : ∃ j, p + 1 = j := ⟨_, rfl⟩
        have hp0 : p < r.size := by omega
        have hj0 : j < r.size := by omega
        have HA : Aside (l[p]? = some r[p]) := ⟨data_get HR.out hp0⟩
        have HB : Aside (l[p + 1]? = some r[j]) := ⟨by rw [hj]; exact data_get HR.out hj0⟩
        have hmo := scan_more hsc HA.out HB.out
        rw [hj] at hmo
        have HMO := Aside.mk hmo
        clear hmo
        have w0 : IntKind.i64.wrap ((p : Int) + 1) = (j : Int) := by rw [← hj]; exact wrap_i64 _ (by omega) (by omega)
        have w1 : IntKind.i64.wrap (j : Int) = (j : Int) := wrap_i64 _ (by omega) (by omega)
        have w2 : wrap64 ((p : Int) + 1) = (j : Int) := by rw [← hj]; exact wrap64_id (by omega) (by omega)
        have i0 : (0 : Int) ≤ (p : Int) := by omega
        have i1 : (p : Int) < (r.size : Int) := by omega
        have i2 : (0 : Int) ≤ (j : Int) := by omega
        have i3 : (j : Int) < (r.size : Int) := by omega
        have i4 : (ne : Int) ≤ 3 := by omega
        have HJ := Aside.mk hj
        clear hsc hj
        by_cases ha : r[p] = 91
        · have b0 := byte_is (b := r[p]) (c := 91) (k := 91) rfl ha
          have HSC2 := Aside.mk (HMO.out.1 ha)
          have hb8 := r[j].toNat_lt
          obtain ⟨y, hy⟩ : ∃ y : Int, (r[j].toNat : Int) = y := ⟨_, rfl⟩
          obtain ⟨d, hd⟩ : ∃ d, y - 48 = d := ⟨_, rfl⟩
          rw [hy, hd] at HSC2
          have w3 : IntKind.i64.wrap y = y := wrap_i64 _ (by omega) (by omega)
          have w4 : IntKind.i64.wrap (y - 48) = d := by rw [hd]; exact wrap_i64 _ (by omega) (by omega)
          have w5 : wrap64 (y - 48) = d := by rw [hd]; exact wrap64_id (by omega) (by omega)
          have hb3 := hb2.ext (((Ext.refl wr).alloc (.cells #[.int .i64 d] 3)).drew)
          have hk3 := hk2.ext (((Ext.refl wr).alloc (.cells #[.int .i64 d] 3)).drew)
          have hb1' := hb2.ext ((Ext.refl wr).drew)
          have HRO3 := Aside.mk (HRO.out.ext IntC.ext (((Ext.refl wr).alloc (.cells #[.int .i64 d] 3)).drew))
          have HSB := Aside.mk ((SO.lit (e := 3) (R := IntC) wr [.int .i64 d] [d] (by simp) (rows_ints [d] _)).sv.ext IntC.ext ((Ext.refl _).drew))
          have HLT3 := Aside.mk (B2.lt hb3)
          have HLB : Aside (es.length + [d].length ≤ 1073741824) := ⟨by have := HNE.out; simp; omega⟩
          have HLB2 : Aside ((es ++ [d]).length = ne + 1) := ⟨by simp [HNE.out]⟩
          clear ha hd hb8
          go_wp2_with fail
          go_region_law (refine step_append_so (R := IntC) (W := (wr.alloc (.cells #[.int .i64 d] 3)).drew) (w.heap.size + 1 + 1) elemInt rfl (.tmp 43) (.tmp 50) rfl (.slice NA ne cN) (.slice (some ⟨wr.heap.size, 0, none⟩) 1 1) es [d] HRO3.out HSB.out IntC.one (fun _ _ _ _ h => h) (by simp [Act.eval]) (by simp [Act.eval]) HLT3.out HLB.out ?_; rintro v1 w5 ho hg; obtain ⟨A5, c5, rfl, _⟩ := ho.sv.form; rw [HLB2.out] at ho ⊢; have hbel := Below.grown (Below.refl (w.heap.size + 1 + 1) _) hg HLT3.out HRO3.out.low; have hb5 := hb3.below (Nat.lt_succ_self _) hbel; have hk5 := hk3.below (Below.mono hbel (Nat.le_succ _)); have HRO5 := Aside.mk ho; clear ho hg hbel)
          all_goals
            have HB5 := Aside.mk hb5
            have HK5 := Aside.mk hk5
            clear hb2 hb1' hb3 hk2 hk3
            go_wp2_with fail
            go_roundw
            case rel => exact ⟨j, es ++ [d], A5, ne + 1, c5, rfl, by have := HJ.out; omega, by omega, HK5.out.far (Nat.le_refl _) _ _, HB5.out.put 1 _, ⟨HLB2.out, HSC2.out, HRO5.out.set (Nat.lt_succ_self _) _ (fun _ _ h => h)⟩⟩
            case measure => have := HJ.out; simp [intOf]; omega
        · have b0 := byte_not (b := r[p]) (c := 91) (k := 91) rfl ha
          have HSC2 := Aside.mk (HMO.out.2 ha)
          have HK2 := Aside.mk hk2
          have HB2 := Aside.mk hb2
          clear ha
          go_wp2_with fail
          go_roundw
          case rel => exact ⟨j, es, NA, ne, cN, rfl, by have := HJ.out; omega, by omega, HK2.out, HB2.out, ⟨HNE.out, HSC2.out, HRO.out⟩⟩
          case measure => have := HJ.out; simp [intOf]; omega
      · have HMR : Aside (scanL (l.drop p) = [] ∨ 3 < es.length) := ⟨by
          by_cases h1 : p + 1 < r.size
          · right; rw [HNE.out]; omega
          · left; exact scan_end (by have := HRZ.out; omega)⟩
        have HFIN := Aside.mk (ref_parse HSC.out HMR.out)
        rw [HKL.out] at HFIN
        obtain ⟨t2, ht2⟩ : ∃ b, tyOk 2 es = b := ⟨_, rfl⟩
        have HT := Aside.mk ht2
        have hs0 : SP w 2 (.slice NA ne cN) es wr.drew := SP.ext ((Ext.refl _).drew) ⟨hk2, hb2, HRO⟩
        clear hsc ht2
        have w2 : wrap64 ((p : Int) + 1) = (p : Int) + 1 := wrap64_id (by omega) (by omega)
        by_cases h1 : (p : Int) + 1 < (r.size : Int)
        · have h3 : ¬ (ne : Int) ≤ 3 := by omega
          cases t2
          · have HFF : Aside (ROut l 2 es false) := ⟨ROut.bad (HFIN.out.2 (by rw [HT.out]; rfl))⟩
            clear hk2
            go_wp2_with fail
            clear hb2
            refine wp_region_held_drew (S := fun w' => SP w 2 (.slice NA ne cN) es w') (by kernel_rfl) hs0 (fun hHeld => ?_)
            refine wpAnyH_take (i := 0) (v := .agg #[.int .i64 2, .slice NA ne cN]) rfl (by kernel_rfl) (by kernel_rfl) (by kernel_rfl) (fun _ _ _ h => h) (Or.inl ⟨by rfl, ?_⟩) hs0 ?_
            · (intro w hSw; (try dsimp only at hSw); go_simp)
            refine wpAnyH_take (i := 1) (v := .agg #[.int .i64 2, .slice NA ne cN]) rfl (by kernel_rfl) (by kernel_rfl) (by kernel_rfl) (fun _ _ _ h => h) (Or.inl ⟨by rfl, ?_⟩) hs0 ?_
            · (intro w hSw; (try dsimp only at hSw); go_simp)
            refine wpAnyH_ready (rs := [2]) (by kernel_rfl) (by simp) ?_
            refine AllReadyH.cons rfl (fun K hK => ?_) AllReadyH.nil
            go_simp
            go_wp2_with (go_at_call 36; (with_reducible refine (rIsType_calls (TV.mk (SO.sv (Aside.out (And.right (And.right (show SP w 2 (.slice NA ne cN) es _ from by assumption))))).iv) HT.out).mono ?_); rintro e w4 ⟨rfl, he4⟩)
            have hs6 := SP.ext he4 hs0
            refine hK.out _ _ hs6 (fun hHeld => ?_)
            clear hK K hHeld
            refine wpAnyH_take (i := 3) (v := .bool false) rfl (by kernel_rfl) (by kernel_rfl) (by kernel_rfl) (fun _ _ _ h => h) (Or.inl ⟨by rfl, ?_⟩) hs6 ?_
            · (intro w hSw; (try dsimp only at hSw); go_simp)
            refine wpAnyH_take (i := 4) (v := undef) rfl (by kernel_rfl) (by kernel_rfl) (by kernel_rfl) (fun _ _ _ h => h) (Or.inr ⟨by rfl, rfl⟩) hs6 ?_
            refine wpAnyH_take (i := 5) (v := undef) rfl (by kernel_rfl) (by kernel_rfl) (by kernel_rfl) (fun _ _ _ h => h) (Or.inr ⟨by rfl, rfl⟩) hs6 ?_
            refine wpAnyH_take (i := 6) (v := undef) rfl (by kernel_rfl) (by kernel_rfl) (by kernel_rfl) (fun _ _ _ h => h) (Or.inr ⟨by rfl, rfl⟩) hs6 ?_
            refine wpAnyH_take (i := 7) (v := undef) rfl (by kernel_rfl) (by kernel_rfl) (by kernel_rfl) (fun _ _ _ h => h) (Or.inr ⟨by rfl, rfl⟩) hs6 ?_
            refine wpAnyH_take (i := 8) (v := .bool false) rfl (by kernel_rfl) (by kernel_rfl) (by kernel_rfl) (fun _ _ _ h => h) (Or.inl ⟨by rfl, ?_⟩) hs6 ?_
            · (intro w hSw; (try dsimp only at hSw); go_simp)
            refine wpAnyH_ready (rs := [9]) (by kernel_rfl) (by simp) ?_
            refine AllReadyH.cons rfl (fun K hK => ?_) AllReadyH.nil
            go_simp
            refine hK.out _ _ (SP.set2 hs6 _ _) (fun hHeld => ?_)
            clear hK K hHeld
            refine wpAnyH_take (i := 10) (v := .bool false) rfl (by kernel_rfl) (by kernel_rfl) (by kernel_rfl) (fun _ _ _ h => h) (Or.inl ⟨by rfl, ?_⟩) (SP.set2 hs6 _ _) ?_
            · (intro w hSw; (try dsimp only at hSw); go_simp)
            refine wpAnyH_done (by kernel_rfl) ?_ _
            all_goals
              have HS6 := Aside.mk hs6
              have HS7 := Aside.mk (SP.set2 hs6 (.int .i64 2) (.slice NA ne cN))
              go_wp2_with fail
              refine bodyPost_ret (v := .tuple #[.agg #[.int .i64 2, .slice NA ne cN], .bool false]) (by simp [results, Tryz.results27, go_sem, hs6]) rfl ⟨?_, HS7.out.1.1.out⟩
              have hh := HS7.out.2.2.out.mono (b' := w.heap.size) (by omega)
              have hne := HNE.out
              subst hne
              exact ⟨2, es, NA, cN, false, rfl, hh, HFF.out⟩
          · obtain ⟨sB, hsB⟩ : ∃ b, tyB 2 es = b := ⟨_, rfl⟩
            have HSB := Aside.mk hsB
            obtain ⟨b, hb⟩ : ∃ b, (sB.toList == r.toList) = b := ⟨_, rfl⟩
            have HFF := Aside.mk (rp_ok HR.out hsB hb HT.out HFIN.out)
            clear hsB hk2
            go_wp2_with fail
            clear hb2
            go_region_held3 (fun w' => SP w 2 (.slice NA ne cN) es w') (first | assumption | exact SP.ext (by assumption) (by assumption) | exact SP.set2 (by assumption) _ _) (first | (go_at_call 36; (with_reducible refine (rIsType_calls (TV.mk (SO.sv (Aside.out (And.right (And.right (show SP w 2 (.slice NA ne cN) es _ from by assumption))))).iv) HT.out).mono ?_); rintro e w4 ⟨rfl, he4⟩) | (go_at_call 39; (with_reducible refine (rTyText_calls (TV.mk (SO.sv (Aside.out (And.right (And.right (show SP w 2 (.slice NA ne cN) es _ from by assumption))))).iv) HT.out HSB.out).mono ?_); rintro e w6 ⟨rfl, he6⟩))
            all_goals
              have hs6 := SP.ext he6 (SP.ext he4 hs0)
              have HS6 := Aside.mk hs6
              have HS7 := Aside.mk (SP.set2 hs6 (.int .i64 2) (.slice NA ne cN))
              go_wp2_with fail
              refine bodyPost_ret (v := .tuple #[.agg #[.int .i64 2, .slice NA ne cN], .bool b]) (by simp [results, Tryz.results27, go_sem, hs6]) rfl ⟨?_, HS7.out.1.1.out⟩
              have hh := HS7.out.2.2.out.mono (b' := w.heap.size) (by omega)
              have hne := HNE.out
              subst hne
              exact ⟨2, es, NA, cN, b, rfl, hh, HFF.out⟩
        · cases t2
          · have HFF : Aside (ROut l 2 es false) := ⟨ROut.bad (HFIN.out.2 (by rw [HT.out]; rfl))⟩
            clear hk2
            go_wp2_with fail
            clear hb2
            refine wp_region_held_drew (S := fun w' => SP w 2 (.slice NA ne cN) es w') (by kernel_rfl) hs0 (fun hHeld => ?_)
            refine wpAnyH_take (i := 0) (v := .agg #[.int .i64 2, .slice NA ne cN]) rfl (by kernel_rfl) (by kernel_rfl) (by kernel_rfl) (fun _ _ _ h => h) (Or.inl ⟨by rfl, ?_⟩) hs0 ?_
            · (intro w hSw; (try dsimp only at hSw); go_simp)
            refine wpAnyH_take (i := 1) (v := .agg #[.int .i64 2, .slice NA ne cN]) rfl (by kernel_rfl) (by kernel_rfl) (by kernel_rfl) (fun _ _ _ h => h) (Or.inl ⟨by rfl, ?_⟩) hs0 ?_
            · (intro w hSw; (try dsimp only at hSw); go_simp)
            refine wpAnyH_ready (rs := [2]) (by kernel_rfl) (by simp) ?_
            refine AllReadyH.cons rfl (fun K hK => ?_) AllReadyH.nil
            go_simp
            go_wp2_with (go_at_call 36; (with_reducible refine (rIsType_calls (TV.mk (SO.sv (Aside.out (And.right (And.right (show SP w 2 (.slice NA ne cN) es _ from by assumption))))).iv) HT.out).mono ?_); rintro e w4 ⟨rfl, he4⟩)
            have hs6 := SP.ext he4 hs0
            refine hK.out _ _ hs6 (fun hHeld => ?_)
            clear hK K hHeld
            refine wpAnyH_take (i := 3) (v := .bool false) rfl (by kernel_rfl) (by kernel_rfl) (by kernel_rfl) (fun _ _ _ h => h) (Or.inl ⟨by rfl, ?_⟩) hs6 ?_
            · (intro w hSw; (try dsimp only at hSw); go_simp)
            refine wpAnyH_take (i := 4) (v := undef) rfl (by kernel_rfl) (by kernel_rfl) (by kernel_rfl) (fun _ _ _ h => h) (Or.inr ⟨by rfl, rfl⟩) hs6 ?_
            refine wpAnyH_take (i := 5) (v := undef) rfl (by kernel_rfl) (by kernel_rfl) (by kernel_rfl) (fun _ _ _ h => h) (Or.inr ⟨by rfl, rfl⟩) hs6 ?_
            refine wpAnyH_take (i := 6) (v := undef) rfl (by kernel_rfl) (by kernel_rfl) (by kernel_rfl) (fun _ _ _ h => h) (Or.inr ⟨by rfl, rfl⟩) hs6 ?_
            refine wpAnyH_take (i := 7) (v := undef) rfl (by kernel_rfl) (by kernel_rfl) (by kernel_rfl) (fun _ _ _ h => h) (Or.inr ⟨by rfl, rfl⟩) hs6 ?_
            refine wpAnyH_take (i := 8) (v := .bool false) rfl (by kernel_rfl) (by kernel_rfl) (by kernel_rfl) (fun _ _ _ h => h) (Or.inl ⟨by rfl, ?_⟩) hs6 ?_
            · (intro w hSw; (try dsimp only at hSw); go_simp)
            refine wpAnyH_ready (rs := [9]) (by kernel_rfl) (by simp) ?_
            refine AllReadyH.cons rfl (fun K hK => ?_) AllReadyH.nil
            go_simp
            refine hK.out _ _ (SP.set2 hs6 _ _) (fun hHeld => ?_)
            clear hK K hHeld
            refine wpAnyH_take (i := 10) (v := .bool false) rfl (by kernel_rfl) (by kernel_rfl) (by kernel_rfl) (fun _ _ _ h => h) (Or.inl ⟨by rfl, ?_⟩) (SP.set2 hs6 _ _) ?_
            · (intro w hSw; (try dsimp only at hSw); go_simp)
            refine wpAnyH_done (by kernel_rfl) ?_ _
            all_goals
              have HS6 := Aside.mk hs6
              have HS7 := Aside.mk (SP.set2 hs6 (.int .i64 2) (.slice NA ne cN))
              go_wp2_with fail
              refine bodyPost_ret (v := .tuple #[.agg #[.int .i64 2, .slice NA ne cN], .bool false]) (by simp [results, Tryz.results27, go_sem, hs6]) rfl ⟨?_, HS7.out.1.1.out⟩
              have hh := HS7.out.2.2.out.mono (b' := w.heap.size) (by omega)
              have hne := HNE.out
              subst hne
              exact ⟨2, es, NA, cN, false, rfl, hh, HFF.out⟩
          · obtain ⟨sB, hsB⟩ : ∃ b, tyB 2 es = b := ⟨_, rfl⟩
            have HSB := Aside.mk hsB
            obtain ⟨b, hb⟩ : ∃ b, (sB.toList == r.toList) = b := ⟨_, rfl⟩
            have HFF := Aside.mk (rp_ok HR.out hsB hb HT.out HFIN.out)
            clear hsB hk2
            go_wp2_with fail
            clear hb2
            go_region_held3 (fun w' => SP w 2 (.slice NA ne cN) es w') (first | assumption | exact SP.ext (by assumption) (by assumption) | exact SP.set2 (by assumption) _ _) (first | (go_at_call 36; (with_reducible refine (rIsType_calls (TV.mk (SO.sv (Aside.out (And.right (And.right (show SP w 2 (.slice NA ne cN) es _ from by assumption))))).iv) HT.out).mono ?_); rintro e w4 ⟨rfl, he4⟩) | (go_at_call 39; (with_reducible refine (rTyText_calls (TV.mk (SO.sv (Aside.out (And.right (And.right (show SP w 2 (.slice NA ne cN) es _ from by assumption))))).iv) HT.out HSB.out).mono ?_); rintro e w6 ⟨rfl, he6⟩))
            all_goals
              have hs6 := SP.ext he6 (SP.ext he4 hs0)
              have HS6 := Aside.mk hs6
              have HS7 := Aside.mk (SP.set2 hs6 (.int .i64 2) (.slice NA ne cN))
              go_wp2_with fail
              refine bodyPost_ret (v := .tuple #[.agg #[.int .i64 2, .slice NA ne cN], .bool b]) (by simp [results, Tryz.results27, go_sem, hs6]) rfl ⟨?_, HS7.out.1.1.out⟩
              have hh := HS7.out.2.2.out.mono (b' := w.heap.size) (by omega)
              have hne := HNE.out
              subst hne
              exact ⟨2, es, NA, cN, b, rfl, hh, HFF.out⟩
  · have HKL : Aside (kindL l = 3) := ⟨kindL_eq (.inr (.inl ⟨hc, rfl⟩))⟩
    obtain ⟨h0, e0⟩ := head_byte hr hc
    have b1 := byte_not (b := r[0]) (c := 102) (k := 102) rfl (by rw [e0]; decide)
    have b2 := byte_is (b := r[0]) (c := 105) (k := 105) rfl e0
    clear hc e0 hr
    go_enter Tryz.func27, Tryz.ntmps27
    go_wp2_with fail
    skip
    go_loopw [5] (fun i wr => ∃ (p : Nat) (es : List Int) (NA : Option Addr) (ne cN : Nat), i = .int .i64 (p : Int) ∧ p ≤ r.size ∧ ne ≤ 4 ∧ KR2 w wr ∧ B2 wr (w.heap.size + 1) (.int .i64 3) (.slice NA ne cN) ∧ Aside (es.length = ne ∧ scanL l = es ++ scanL (l.drop p) ∧ SO (w.heap.size + 1 + 1) 3 1 IntC wr (.slice NA ne cN) es)) (fun i _ => r.size - (intOf i).toNat)
    case atStart => exact ⟨0, [], none, 0, 0, rfl, by omega, by omega, (HK0.out 3).1, (HK0.out 3).2, ⟨rfl, rfl, SO.nil⟩⟩
    case round =>
      obtain ⟨p, es, NA, ne, cN, rfl, hp, hne4, hk2, hb2, HS⟩ := hrel
      obtain ⟨hne, hsc, hro⟩ := HS.out
      have HNE := Aside.mk hne
      have HRO := Aside.mk hro
      have HSC := Aside.mk hsc
      clear HS hne hro
      by_cases hc : p + 1 < r.size ∧ ne ≤ 3
      · obtain ⟨hpr, hn3⟩ := hc
        obtain ⟨j, hj⟩ : ∃ j, p + 1 = j := ⟨_, rfl⟩
        have hp0 : p < r.size := by omega
        have hj0 : j < r.size := by omega
        have HA : Aside (l[p]? = some r[p]) := ⟨data_get HR.out hp0⟩
        have HB : Aside (l[p + 1]? = some r[j]) := ⟨by rw [hj]; exact data_get HR.out hj0⟩
        have hmo := scan_more hsc HA.out HB.out
        rw [hj] at hmo
        have HMO := Aside.mk hmo
        clear hmo
        have w0 : IntKind.i64.wrap ((p : Int) + 1) = (j : Int) := by rw [← hj]; exact wrap_i64 _ (by omega) (by omega)
        have w1 : IntKind.i64.wrap (j : Int) = (j : Int) := wrap_i64 _ (by omega) (by omega)
        have w2 : wrap64 ((p : Int) + 1) = (j : Int) := by rw [← hj]; exact wrap64_id (by omega) (by omega)
        have i0 : (0 : Int) ≤ (p : Int) := by omega
        have i1 : (p : Int) < (r.size : Int) := by omega
        have i2 : (0 : Int) ≤ (j : Int) := by omega
        have i3 : (j : Int) < (r.size : Int) := by omega
        have i4 : (ne : Int) ≤ 3 := by omega
        have HJ := Aside.mk hj
        clear hsc hj
        by_cases ha : r[p] = 91
        · have b0 := byte_is (b := r[p]) (c := 91) (k := 91) rfl ha
          have HSC2 := Aside.mk (HMO.out.1 ha)
          have hb8 := r[j].toNat_lt
          obtain ⟨y, hy⟩ : ∃ y : Int, (r[j].toNat : Int) = y := ⟨_, rfl⟩
          obtain ⟨d, hd⟩ : ∃ d, y - 48 = d := ⟨_, rfl⟩
          rw [hy, hd] at HSC2
          have w3 : IntKind.i64.wrap y = y := wrap_i64 _ (by omega) (by omega)
          have w4 : IntKind.i64.wrap (y - 48) = d := by rw [hd]; exact wrap_i64 _ (by omega) (by omega)
          have w5 : wrap64 (y - 48) = d := by rw [hd]; exact wrap64_id (by omega) (by omega)
          have hb3 := hb2.ext (((Ext.refl wr).alloc (.cells #[.int .i64 d] 3)).drew)
          have hk3 := hk2.ext (((Ext.refl wr).alloc (.cells #[.int .i64 d] 3)).drew)
          have hb1' := hb2.ext ((Ext.refl wr).drew)
          have HRO3 := Aside.mk (HRO.out.ext IntC.ext (((Ext.refl wr).alloc (.cells #[.int .i64 d] 3)).drew))
          have HSB := Aside.mk ((SO.lit (e := 3) (R := IntC) wr [.int .i64 d] [d] (by simp) (rows_ints [d] _)).sv.ext IntC.ext ((Ext.refl _).drew))
          have HLT3 := Aside.mk (B2.lt hb3)
          have HLB : Aside (es.length + [d].length ≤ 1073741824) := ⟨by have := HNE.out; simp; omega⟩
          have HLB2 : Aside ((es ++ [d]).length = ne + 1) := ⟨by simp [HNE.out]⟩
          clear ha hd hb8
          go_wp2_with fail
          go_region_law (refine step_append_so (R := IntC) (W := (wr.alloc (.cells #[.int .i64 d] 3)).drew) (w.heap.size + 1 + 1) elemInt rfl (.tmp 43) (.tmp 50) rfl (.slice NA ne cN) (.slice (some ⟨wr.heap.size, 0, none⟩) 1 1) es [d] HRO3.out HSB.out IntC.one (fun _ _ _ _ h => h) (by simp [Act.eval]) (by simp [Act.eval]) HLT3.out HLB.out ?_; rintro v1 w5 ho hg; obtain ⟨A5, c5, rfl, _⟩ := ho.sv.form; rw [HLB2.out] at ho ⊢; have hbel := Below.grown (Below.refl (w.heap.size + 1 + 1) _) hg HLT3.out HRO3.out.low; have hb5 := hb3.below (Nat.lt_succ_self _) hbel; have hk5 := hk3.below (Below.mono hbel (Nat.le_succ _)); have HRO5 := Aside.mk ho; clear ho hg hbel)
          all_goals
            have HB5 := Aside.mk hb5
            have HK5 := Aside.mk hk5
            clear hb2 hb1' hb3 hk2 hk3
            go_wp2_with fail
            go_roundw
            case rel => exact ⟨j, es ++ [d], A5, ne + 1, c5, rfl, by have := HJ.out; omega, by omega, HK5.out.far (Nat.le_refl _) _ _, HB5.out.put 1 _, ⟨HLB2.out, HSC2.out, HRO5.out.set (Nat.lt_succ_self _) _ (fun _ _ h => h)⟩⟩
            case measure => have := HJ.out; simp [intOf]; omega
        · have b0 := byte_not (b := r[p]) (c := 91) (k := 91) rfl ha
          have HSC2 := Aside.mk (HMO.out.2 ha)
          have HK2 := Aside.mk hk2
          have HB2 := Aside.mk hb2
          clear ha
          go_wp2_with fail
          go_roundw
          case rel => exact ⟨j, es, NA, ne, cN, rfl, by have := HJ.out; omega, by omega, HK2.out, HB2.out, ⟨HNE.out, HSC2.out, HRO.out⟩⟩
          case measure => have := HJ.out; simp [intOf]; omega
      · have HMR : Aside (scanL (l.drop p) = [] ∨ 3 < es.length) := ⟨by
          by_cases h1 : p + 1 < r.size
          · right; rw [HNE.out]; omega
          · left; exact scan_end (by have := HRZ.out; omega)⟩
        have HFIN := Aside.mk (ref_parse HSC.out HMR.out)
        rw [HKL.out] at HFIN
        obtain ⟨t2, ht2⟩ : ∃ b, tyOk 3 es = b := ⟨_, rfl⟩
        have HT := Aside.mk ht2
        have hs0 : SP w 3 (.slice NA ne cN) es wr.drew := SP.ext ((Ext.refl _).drew) ⟨hk2, hb2, HRO⟩
        clear hsc ht2
        have w2 : wrap64 ((p : Int) + 1) = (p : Int) + 1 := wrap64_id (by omega) (by omega)
        by_cases h1 : (p : Int) + 1 < (r.size : Int)
        · have h3 : ¬ (ne : Int) ≤ 3 := by omega
          cases t2
          · have HFF : Aside (ROut l 3 es false) := ⟨ROut.bad (HFIN.out.2 (by rw [HT.out]; rfl))⟩
            clear hk2
            go_wp2_with fail
            clear hb2
            refine wp_region_held_drew (S := fun w' => SP w 3 (.slice NA ne cN) es w') (by kernel_rfl) hs0 (fun hHeld => ?_)
            refine wpAnyH_take (i := 0) (v := .agg #[.int .i64 3, .slice NA ne cN]) rfl (by kernel_rfl) (by kernel_rfl) (by kernel_rfl) (fun _ _ _ h => h) (Or.inl ⟨by rfl, ?_⟩) hs0 ?_
            · (intro w hSw; (try dsimp only at hSw); go_simp)
            refine wpAnyH_take (i := 1) (v := .agg #[.int .i64 3, .slice NA ne cN]) rfl (by kernel_rfl) (by kernel_rfl) (by kernel_rfl) (fun _ _ _ h => h) (Or.inl ⟨by rfl, ?_⟩) hs0 ?_
            · (intro w hSw; (try dsimp only at hSw); go_simp)
            refine wpAnyH_ready (rs := [2]) (by kernel_rfl) (by simp) ?_
            refine AllReadyH.cons rfl (fun K hK => ?_) AllReadyH.nil
            go_simp
            go_wp2_with (go_at_call 36; (with_reducible refine (rIsType_calls (TV.mk (SO.sv (Aside.out (And.right (And.right (show SP w 3 (.slice NA ne cN) es _ from by assumption))))).iv) HT.out).mono ?_); rintro e w4 ⟨rfl, he4⟩)
            have hs6 := SP.ext he4 hs0
            refine hK.out _ _ hs6 (fun hHeld => ?_)
            clear hK K hHeld
            refine wpAnyH_take (i := 3) (v := .bool false) rfl (by kernel_rfl) (by kernel_rfl) (by kernel_rfl) (fun _ _ _ h => h) (Or.inl ⟨by rfl, ?_⟩) hs6 ?_
            · (intro w hSw; (try dsimp only at hSw); go_simp)
            refine wpAnyH_take (i := 4) (v := undef) rfl (by kernel_rfl) (by kernel_rfl) (by kernel_rfl) (fun _ _ _ h => h) (Or.inr ⟨by rfl, rfl⟩) hs6 ?_
            refine wpAnyH_take (i := 5) (v := undef) rfl (by kernel_rfl) (by kernel_rfl) (by kernel_rfl) (fun _ _ _ h => h) (Or.inr ⟨by rfl, rfl⟩) hs6 ?_
            refine wpAnyH_take (i := 6) (v := undef) rfl (by kernel_rfl) (by kernel_rfl) (by kernel_rfl) (fun _ _ _ h => h) (Or.inr ⟨by rfl, rfl⟩) hs6 ?_
            refine wpAnyH_take (i := 7) (v := undef) rfl (by kernel_rfl) (by kernel_rfl) (by kernel_rfl) (fun _ _ _ h => h) (Or.inr ⟨by rfl, rfl⟩) hs6 ?_
            refine wpAnyH_take (i := 8) (v := .bool false) rfl (by kernel_rfl) (by kernel_rfl) (by kernel_rfl) (fun _ _ _ h => h) (Or.inl ⟨by rfl, ?_⟩) hs6 ?_
            · (intro w hSw; (try dsimp only at hSw); go_simp)
            refine wpAnyH_ready (rs := [9]) (by kernel_rfl) (by simp) ?_
            refine AllReadyH.cons rfl (fun K hK => ?_) AllReadyH.nil
            go_simp
            refine hK.out _ _ (SP.set2 hs6 _ _) (fun hHeld => ?_)
            clear hK K hHeld
            refine wpAnyH_take (i := 10) (v := .bool false) rfl (by kernel_rfl) (by kernel_rfl) (by kernel_rfl) (fun _ _ _ h => h) (Or.inl ⟨by rfl, ?_⟩) (SP.set2 hs6 _ _) ?_
            · (intro w hSw; (try dsimp only at hSw); go_simp)
            refine wpAnyH_done (by kernel_rfl) ?_ _
            all_goals
              have HS6 := Aside.mk hs6
              have HS7 := Aside.mk (SP.set2 hs6 (.int .i64 3) (.slice NA ne cN))
              go_wp2_with fail
              refine bodyPost_ret (v := .tuple #[.agg #[.int .i64 3, .slice NA ne cN], .bool false]) (by simp [results, Tryz.results27, go_sem, hs6]) rfl ⟨?_, HS7.out.1.1.out⟩
              have hh := HS7.out.2.2.out.mono (b' := w.heap.size) (by omega)
              have hne := HNE.out
              subst hne
              exact ⟨3, es, NA, cN, false, rfl, hh, HFF.out⟩
          · obtain ⟨sB, hsB⟩ : ∃ b, tyB 3 es = b := ⟨_, rfl⟩
            have HSB := Aside.mk hsB
            obtain ⟨b, hb⟩ : ∃ b, (sB.toList == r.toList) = b := ⟨_, rfl⟩
            have HFF := Aside.mk (rp_ok HR.out hsB hb HT.out HFIN.out)
            clear hsB hk2
            go_wp2_with fail
            clear hb2
            go_region_held3 (fun w' => SP w 3 (.slice NA ne cN) es w') (first | assumption | exact SP.ext (by assumption) (by assumption) | exact SP.set2 (by assumption) _ _) (first | (go_at_call 36; (with_reducible refine (rIsType_calls (TV.mk (SO.sv (Aside.out (And.right (And.right (show SP w 3 (.slice NA ne cN) es _ from by assumption))))).iv) HT.out).mono ?_); rintro e w4 ⟨rfl, he4⟩) | (go_at_call 39; (with_reducible refine (rTyText_calls (TV.mk (SO.sv (Aside.out (And.right (And.right (show SP w 3 (.slice NA ne cN) es _ from by assumption))))).iv) HT.out HSB.out).mono ?_); rintro e w6 ⟨rfl, he6⟩))
            all_goals
              have hs6 := SP.ext he6 (SP.ext he4 hs0)
              have HS6 := Aside.mk hs6
              have HS7 := Aside.mk (SP.set2 hs6 (.int .i64 3) (.slice NA ne cN))
              go_wp2_with fail
              refine bodyPost_ret (v := .tuple #[.agg #[.int .i64 3, .slice NA ne cN], .bool b]) (by simp [results, Tryz.results27, go_sem, hs6]) rfl ⟨?_, HS7.out.1.1.out⟩
              have hh := HS7.out.2.2.out.mono (b' := w.heap.size) (by omega)
              have hne := HNE.out
              subst hne
              exact ⟨3, es, NA, cN, b, rfl, hh, HFF.out⟩
        · cases t2
          · have HFF : Aside (ROut l 3 es false) := ⟨ROut.bad (HFIN.out.2 (by rw [HT.out]; rfl))⟩
            clear hk2
            go_wp2_with fail
            clear hb2
            refine wp_region_held_drew (S := fun w' => SP w 3 (.slice NA ne cN) es w') (by kernel_rfl) hs0 (fun hHeld => ?_)
            refine wpAnyH_take (i := 0) (v := .agg #[.int .i64 3, .slice NA ne cN]) rfl (by kernel_rfl) (by kernel_rfl) (by kernel_rfl) (fun _ _ _ h => h) (Or.inl ⟨by rfl, ?_⟩) hs0 ?_
            · (intro w hSw; (try dsimp only at hSw); go_simp)
            refine wpAnyH_take (i := 1) (v := .agg #[.int .i64 3, .slice NA ne cN]) rfl (by kernel_rfl) (by kernel_rfl) (by kernel_rfl) (fun _ _ _ h => h) (Or.inl ⟨by rfl, ?_⟩) hs0 ?_
            · (intro w hSw; (try dsimp only at hSw); go_simp)
            refine wpAnyH_ready (rs := [2]) (by kernel_rfl) (by simp) ?_
            refine AllReadyH.cons rfl (fun K hK => ?_) AllReadyH.nil
            go_simp
            go_wp2_with (go_at_call 36; (with_reducible refine (rIsType_calls (TV.mk (SO.sv (Aside.out (And.right (And.right (show SP w 3 (.slice NA ne cN) es _ from by assumption))))).iv) HT.out).mono ?_); rintro e w4 ⟨rfl, he4⟩)
            have hs6 := SP.ext he4 hs0
            refine hK.out _ _ hs6 (fun hHeld => ?_)
            clear hK K hHeld
            refine wpAnyH_take (i := 3) (v := .bool false) rfl (by kernel_rfl) (by kernel_rfl) (by kernel_rfl) (fun _ _ _ h => h) (Or.inl ⟨by rfl, ?_⟩) hs6 ?_
            · (intro w hSw; (try dsimp only at hSw); go_simp)
            refine wpAnyH_take (i := 4) (v := undef) rfl (by kernel_rfl) (by kernel_rfl) (by kernel_rfl) (fun _ _ _ h => h) (Or.inr ⟨by rfl, rfl⟩) hs6 ?_
            refine wpAnyH_take (i := 5) (v := undef) rfl (by kernel_rfl) (by kernel_rfl) (by kernel_rfl) (fun _ _ _ h => h) (Or.inr ⟨by rfl, rfl⟩) hs6 ?_
            refine wpAnyH_take (i := 6) (v := undef) rfl (by kernel_rfl) (by kernel_rfl) (by kernel_rfl) (fun _ _ _ h => h) (Or.inr ⟨by rfl, rfl⟩) hs6 ?_
            refine wpAnyH_take (i := 7) (v := undef) rfl (by kernel_rfl) (by kernel_rfl) (by kernel_rfl) (fun _ _ _ h => h) (Or.inr ⟨by rfl, rfl⟩) hs6 ?_
            refine wpAnyH_take (i := 8) (v := .bool false) rfl (by kernel_rfl) (by kernel_rfl) (by kernel_rfl) (fun _ _ _ h => h) (Or.inl ⟨by rfl, ?_⟩) hs6 ?_
            · (intro w hSw; (try dsimp only at hSw); go_simp)
            refine wpAnyH_ready (rs := [9]) (by kernel_rfl) (by simp) ?_
            refine AllReadyH.cons rfl (fun K hK => ?_) AllReadyH.nil
            go_simp
            refine hK.out _ _ (SP.set2 hs6 _ _) (fun hHeld => ?_)
            clear hK K hHeld
            refine wpAnyH_take (i := 10) (v := .bool false) rfl (by kernel_rfl) (by kernel_rfl) (by kernel_rfl) (fun _ _ _ h => h) (Or.inl ⟨by rfl, ?_⟩) (SP.set2 hs6 _ _) ?_
            · (intro w hSw; (try dsimp only at hSw); go_simp)
            refine wpAnyH_done (by kernel_rfl) ?_ _
            all_goals
              have HS6 := Aside.mk hs6
              have HS7 := Aside.mk (SP.set2 hs6 (.int .i64 3) (.slice NA ne cN))
              go_wp2_with fail
              refine bodyPost_ret (v := .tuple #[.agg #[.int .i64 3, .slice NA ne cN], .bool false]) (by simp [results, Tryz.results27, go_sem, hs6]) rfl ⟨?_, HS7.out.1.1.out⟩
              have hh := HS7.out.2.2.out.mono (b' := w.heap.size) (by omega)
              have hne := HNE.out
              subst hne
              exact ⟨3, es, NA, cN, false, rfl, hh, HFF.out⟩
          · obtain ⟨sB, hsB⟩ : ∃ b, tyB 3 es = b := ⟨_, rfl⟩
            have HSB := Aside.mk hsB
            obtain ⟨b, hb⟩ : ∃ b, (sB.toList == r.toList) = b := ⟨_, rfl⟩
            have HFF := Aside.mk (rp_ok HR.out hsB hb HT.out HFIN.out)
            clear hsB hk2
            go_wp2_with fail
            clear hb2
            go_region_held3 (fun w' => SP w 3 (.slice NA ne cN) es w') (first | assumption | exact SP.ext (by assumption) (by assumption) | exact SP.set2 (by assumption) _ _) (first | (go_at_call 36; (with_reducible refine (rIsType_calls (TV.mk (SO.sv (Aside.out (And.right (And.right (show SP w 3 (.slice NA ne cN) es _ from by assumption))))).iv) HT.out).mono ?_); rintro e w4 ⟨rfl, he4⟩) | (go_at_call 39; (with_reducible refine (rTyText_calls (TV.mk (SO.sv (Aside.out (And.right (And.right (show SP w 3 (.slice NA ne cN) es _ from by assumption))))).iv) HT.out HSB.out).mono ?_); rintro e w6 ⟨rfl, he6⟩))
            all_goals
              have hs6 := SP.ext he6 (SP.ext he4 hs0)
              have HS6 := Aside.mk hs6
              have HS7 := Aside.mk (SP.set2 hs6 (.int .i64 3) (.slice NA ne cN))
              go_wp2_with fail
              refine bodyPost_ret (v := .tuple #[.agg #[.int .i64 3, .slice NA ne cN], .bool b]) (by simp [results, Tryz.results27, go_sem, hs6]) rfl ⟨?_, HS7.out.1.1.out⟩
              have hh := HS7.out.2.2.out.mono (b' := w.heap.size) (by omega)
              have hne := HNE.out
              subst hne
              exact ⟨3, es, NA, cN, b, rfl, hh, HFF.out⟩
  · have HKL : Aside (kindL l = 1) := ⟨kindL_eq (.inr (.inr ⟨hc.1, hc.2, rfl⟩))⟩
    by_cases hz : 0 < r.size
    · have e0 := head_not hr hc.1 hz
      have e1 := head_not hr hc.2 hz
      have b1 := byte_not (b := r[0]) (c := 102) (k := 102) rfl e0
      have b2 := byte_not (b := r[0]) (c := 105) (k := 105) rfl e1
      clear e1
      clear hc e0 hr
      go_enter Tryz.func27, Tryz.ntmps27
      go_wp2_with fail
      skip
      go_loopw [5] (fun i wr => ∃ (p : Nat) (es : List Int) (NA : Option Addr) (ne cN : Nat), i = .int .i64 (p : Int) ∧ p ≤ r.size ∧ ne ≤ 4 ∧ KR2 w wr ∧ B2 wr (w.heap.size + 1) (.int .i64 1) (.slice NA ne cN) ∧ Aside (es.length = ne ∧ scanL l = es ++ scanL (l.drop p) ∧ SO (w.heap.size + 1 + 1) 3 1 IntC wr (.slice NA ne cN) es)) (fun i _ => r.size - (intOf i).toNat)
      case atStart => exact ⟨0, [], none, 0, 0, rfl, by omega, by omega, (HK0.out 1).1, (HK0.out 1).2, ⟨rfl, rfl, SO.nil⟩⟩
      case round =>
        obtain ⟨p, es, NA, ne, cN, rfl, hp, hne4, hk2, hb2, HS⟩ := hrel
        obtain ⟨hne, hsc, hro⟩ := HS.out
        have HNE := Aside.mk hne
        have HRO := Aside.mk hro
        have HSC := Aside.mk hsc
        clear HS hne hro
        by_cases hc : p + 1 < r.size ∧ ne ≤ 3
        · obtain ⟨hpr, hn3⟩ := hc
          obtain ⟨j, hj⟩ : ∃ j, p + 1 = j := ⟨_, rfl⟩
          have hp0 : p < r.size := by omega
          have hj0 : j < r.size := by omega
          have HA : Aside (l[p]? = some r[p]) := ⟨data_get HR.out hp0⟩
          have HB : Aside (l[p + 1]? = some r[j]) := ⟨by rw [hj]; exact data_get HR.out hj0⟩
          have hmo := scan_more hsc HA.out HB.out
          rw [hj] at hmo
          have HMO := Aside.mk hmo
          clear hmo
          have w0 : IntKind.i64.wrap ((p : Int) + 1) = (j : Int) := by rw [← hj]; exact wrap_i64 _ (by omega) (by omega)
          have w1 : IntKind.i64.wrap (j : Int) = (j : Int) := wrap_i64 _ (by omega) (by omega)
          have w2 : wrap64 ((p : Int) + 1) = (j : Int) := by rw [← hj]; exact wrap64_id (by omega) (by omega)
          have i0 : (0 : Int) ≤ (p : Int) := by omega
          have i1 : (p : Int) < (r.size : Int) := by omega
          have i2 : (0 : Int) ≤ (j : Int) := by omega
          have i3 : (j : Int) < (r.size : Int) := by omega
          have i4 : (ne : Int) ≤ 3 := by omega
          have HJ := Aside.mk hj
          clear hsc hj
          by_cases ha : r[p] = 91
          · have b0 := byte_is (b := r[p]) (c := 91) (k := 91) rfl ha
            have HSC2 := Aside.mk (HMO.out.1 ha)
            have hb8 := r[j].toNat_lt
            obtain ⟨y, hy⟩ : ∃ y : Int, (r[j].toNat : Int) = y := ⟨_, rfl⟩
            obtain ⟨d, hd⟩ : ∃ d, y - 48 = d := ⟨_, rfl⟩
            rw [hy, hd] at HSC2
            have w3 : IntKind.i64.wrap y = y := wrap_i64 _ (by omega) (by omega)
            have w4 : IntKind.i64.wrap (y - 48) = d := by rw [hd]; exact wrap_i64 _ (by omega) (by omega)
            have w5 : wrap64 (y - 48) = d := by rw [hd]; exact wrap64_id (by omega) (by omega)
            have hb3 := hb2.ext (((Ext.refl wr).alloc (.cells #[.int .i64 d] 3)).drew)
            have hk3 := hk2.ext (((Ext.refl wr).alloc (.cells #[.int .i64 d] 3)).drew)
            have hb1' := hb2.ext ((Ext.refl wr).drew)
            have HRO3 := Aside.mk (HRO.out.ext IntC.ext (((Ext.refl wr).alloc (.cells #[.int .i64 d] 3)).drew))
            have HSB := Aside.mk ((SO.lit (e := 3) (R := IntC) wr [.int .i64 d] [d] (by simp) (rows_ints [d] _)).sv.ext IntC.ext ((Ext.refl _).drew))
            have HLT3 := Aside.mk (B2.lt hb3)
            have HLB : Aside (es.length + [d].length ≤ 1073741824) := ⟨by have := HNE.out; simp; omega⟩
            have HLB2 : Aside ((es ++ [d]).length = ne + 1) := ⟨by simp [HNE.out]⟩
            clear ha hd hb8
            go_wp2_with fail
            go_region_law (refine step_append_so (R := IntC) (W := (wr.alloc (.cells #[.int .i64 d] 3)).drew) (w.heap.size + 1 + 1) elemInt rfl (.tmp 43) (.tmp 50) rfl (.slice NA ne cN) (.slice (some ⟨wr.heap.size, 0, none⟩) 1 1) es [d] HRO3.out HSB.out IntC.one (fun _ _ _ _ h => h) (by simp [Act.eval]) (by simp [Act.eval]) HLT3.out HLB.out ?_; rintro v1 w5 ho hg; obtain ⟨A5, c5, rfl, _⟩ := ho.sv.form; rw [HLB2.out] at ho ⊢; have hbel := Below.grown (Below.refl (w.heap.size + 1 + 1) _) hg HLT3.out HRO3.out.low; have hb5 := hb3.below (Nat.lt_succ_self _) hbel; have hk5 := hk3.below (Below.mono hbel (Nat.le_succ _)); have HRO5 := Aside.mk ho; clear ho hg hbel)
            all_goals
              have HB5 := Aside.mk hb5
              have HK5 := Aside.mk hk5
              clear hb2 hb1' hb3 hk2 hk3
              go_wp2_with fail
              go_roundw
              case rel => exact ⟨j, es ++ [d], A5, ne + 1, c5, rfl, by have := HJ.out; omega, by omega, HK5.out.far (Nat.le_refl _) _ _, HB5.out.put 1 _, ⟨HLB2.out, HSC2.out, HRO5.out.set (Nat.lt_succ_self _) _ (fun _ _ h => h)⟩⟩
              case measure => have := HJ.out; simp [intOf]; omega
          · have b0 := byte_not (b := r[p]) (c := 91) (k := 91) rfl ha
            have HSC2 := Aside.mk (HMO.out.2 ha)
            have HK2 := Aside.mk hk2
            have HB2 := Aside.mk hb2
            clear ha
            go_wp2_with fail
            go_roundw
            case rel => exact ⟨j, es, NA, ne, cN, rfl, by have := HJ.out; omega, by omega, HK2.out, HB2.out, ⟨HNE.out, HSC2.out, HRO.out⟩⟩
            case measure => have := HJ.out; simp [intOf]; omega
        · have HMR : Aside (scanL (l.drop p) = [] ∨ 3 < es.length) := ⟨by
            by_cases h1 : p + 1 < r.size
            · right; rw [HNE.out]; omega
            · left; exact scan_end (by have := HRZ.out; omega)⟩
          have HFIN := Aside.mk (ref_parse HSC.out HMR.out)
          rw [HKL.out] at HFIN
          obtain ⟨t2, ht2⟩ : ∃ b, tyOk 1 es = b := ⟨_, rfl⟩
          have HT := Aside.mk ht2
          have hs0 : SP w 1 (.slice NA ne cN) es wr.drew := SP.ext ((Ext.refl _).drew) ⟨hk2, hb2, HRO⟩
          clear hsc ht2
          have w2 : wrap64 ((p : Int) + 1) = (p : Int) + 1 := wrap64_id (by omega) (by omega)
          by_cases h1 : (p : Int) + 1 < (r.size : Int)
          · have h3 : ¬ (ne : Int) ≤ 3 := by omega
            cases t2
            · have HFF : Aside (ROut l 1 es false) := ⟨ROut.bad (HFIN.out.2 (by rw [HT.out]; rfl))⟩
              clear hk2
              go_wp2_with fail
              clear hb2
              refine wp_region_held_drew (S := fun w' => SP w 1 (.slice NA ne cN) es w') (by kernel_rfl) hs0 (fun hHeld => ?_)
              refine wpAnyH_take (i := 0) (v := .agg #[.int .i64 1, .slice NA ne cN]) rfl (by kernel_rfl) (by kernel_rfl) (by kernel_rfl) (fun _ _ _ h => h) (Or.inl ⟨by rfl, ?_⟩) hs0 ?_
              · (intro w hSw; (try dsimp only at hSw); go_simp)
              refine wpAnyH_take (i := 1) (v := .agg #[.int .i64 1, .slice NA ne cN]) rfl (by kernel_rfl) (by kernel_rfl) (by kernel_rfl) (fun _ _ _ h => h) (Or.inl ⟨by rfl, ?_⟩) hs0 ?_
              · (intro w hSw; (try dsimp only at hSw); go_simp)
              refine wpAnyH_ready (rs := [2]) (by kernel_rfl) (by simp) ?_
              refine AllReadyH.cons rfl (fun K hK => ?_) AllReadyH.nil
              go_simp
              go_wp2_with (go_at_call 36; (with_reducible refine (rIsType_calls (TV.mk (SO.sv (Aside.out (And.right (And.right (show SP w 1 (.slice NA ne cN) es _ from by assumption))))).iv) HT.out).mono ?_); rintro e w4 ⟨rfl, he4⟩)
              have hs6 := SP.ext he4 hs0
              refine hK.out _ _ hs6 (fun hHeld => ?_)
              clear hK K hHeld
              refine wpAnyH_take (i := 3) (v := .bool false) rfl (by kernel_rfl) (by kernel_rfl) (by kernel_rfl) (fun _ _ _ h => h) (Or.inl ⟨by rfl, ?_⟩) hs6 ?_
              · (intro w hSw; (try dsimp only at hSw); go_simp)
              refine wpAnyH_take (i := 4) (v := undef) rfl (by kernel_rfl) (by kernel_rfl) (by kernel_rfl) (fun _ _ _ h => h) (Or.inr ⟨by rfl, rfl⟩) hs6 ?_
              refine wpAnyH_take (i := 5) (v := undef) rfl (by kernel_rfl) (by kernel_rfl) (by kernel_rfl) (fun _ _ _ h => h) (Or.inr ⟨by rfl, rfl⟩) hs6 ?_
              refine wpAnyH_take (i := 6) (v := undef) rfl (by kernel_rfl) (by kernel_rfl) (by kernel_rfl) (fun _ _ _ h => h) (Or.inr ⟨by rfl, rfl⟩) hs6 ?_
              refine wpAnyH_take (i := 7) (v := undef) rfl (by kernel_rfl) (by kernel_rfl) (by kernel_rfl) (fun _ _ _ h => h) (Or.inr ⟨by rfl, rfl⟩) hs6 ?_
              refine wpAnyH_take (i := 8) (v := .bool false) rfl (by kernel_rfl) (by kernel_rfl) (by kernel_rfl) (fun _ _ _ h => h) (Or.inl ⟨by rfl, ?_⟩) hs6 ?_
              · (intro w hSw; (try dsimp only at hSw); go_simp)
              refine wpAnyH_ready (rs := [9]) (by kernel_rfl) (by simp) ?_
              refine AllReadyH.cons rfl (fun K hK => ?_) AllReadyH.nil
              go_simp
              refine hK.out _ _ (SP.set2 hs6 _ _) (fun hHeld => ?_)
              clear hK K hHeld
              refine wpAnyH_take (i := 10) (v := .bool false) rfl (by kernel_rfl) (by kernel_rfl) (by kernel_rfl) (fun _ _ _ h => h) (Or.inl ⟨by rfl, ?_⟩) (SP.set2 hs6 _ _) ?_
              · (intro w hSw; (try dsimp only at hSw); go_simp)
              refine wpAnyH_done (by kernel_rfl) ?_ _
              all_goals
                have HS6 := Aside.mk hs6
                have HS7 := Aside.mk (SP.set2 hs6 (.int .i64 1) (.slice NA ne cN))
                go_wp2_with fail
                refine bodyPost_ret (v := .tuple #[.agg #[.int .i64 1, .slice NA ne cN], .bool false]) (by simp [results, Tryz.results27, go_sem, hs6]) rfl ⟨?_, HS7.out.1.1.out⟩
                have hh := HS7.out.2.2.out.mono (b' := w.heap.size) (by omega)
                have hne := HNE.out
                subst hne
                exact ⟨1, es, NA, cN, false, rfl, hh, HFF.out⟩
            · obtain ⟨sB, hsB⟩ : ∃ b, tyB 1 es = b := ⟨_, rfl⟩
              have HSB := Aside.mk hsB
              obtain ⟨b, hb⟩ : ∃ b, (sB.toList == r.toList) = b := ⟨_, rfl⟩
              have HFF := Aside.mk (rp_ok HR.out hsB hb HT.out HFIN.out)
              clear hsB hk2
              go_wp2_with fail
              clear hb2
              go_region_held3 (fun w' => SP w 1 (.slice NA ne cN) es w') (first | assumption | exact SP.ext (by assumption) (by assumption) | exact SP.set2 (by assumption) _ _) (first | (go_at_call 36; (with_reducible refine (rIsType_calls (TV.mk (SO.sv (Aside.out (And.right (And.right (show SP w 1 (.slice NA ne cN) es _ from by assumption))))).iv) HT.out).mono ?_); rintro e w4 ⟨rfl, he4⟩) | (go_at_call 39; (with_reducible refine (rTyText_calls (TV.mk (SO.sv (Aside.out (And.right (And.right (show SP w 1 (.slice NA ne cN) es _ from by assumption))))).iv) HT.out HSB.out).mono ?_); rintro e w6 ⟨rfl, he6⟩))
              all_goals
                have hs6 := SP.ext he6 (SP.ext he4 hs0)
                have HS6 := Aside.mk hs6
                have HS7 := Aside.mk (SP.set2 hs6 (.int .i64 1) (.slice NA ne cN))
                go_wp2_with fail
                refine bodyPost_ret (v := .tuple #[.agg #[.int .i64 1, .slice NA ne cN], .bool b]) (by simp [results, Tryz.results27, go_sem, hs6]) rfl ⟨?_, HS7.out.1.1.out⟩
                have hh := HS7.out.2.2.out.mono (b' := w.heap.size) (by omega)
                have hne := HNE.out
                subst hne
                exact ⟨1, es, NA, cN, b, rfl, hh, HFF.out⟩
          · cases t2
            · have HFF : Aside (ROut l 1 es false) := ⟨ROut.bad (HFIN.out.2 (by rw [HT.out]; rfl))⟩
              clear hk2
              go_wp2_with fail
              clear hb2
              refine wp_region_held_drew (S := fun w' => SP w 1 (.slice NA ne cN) es w') (by kernel_rfl) hs0 (fun hHeld => ?_)
              refine wpAnyH_take (i := 0) (v := .agg #[.int .i64 1, .slice NA ne cN]) rfl (by kernel_rfl) (by kernel_rfl) (by kernel_rfl) (fun _ _ _ h => h) (Or.inl ⟨by rfl, ?_⟩) hs0 ?_
              · (intro w hSw; (try dsimp only at hSw); go_simp)
              refine wpAnyH_take (i := 1) (v := .agg #[.int .i64 1, .slice NA ne cN]) rfl (by kernel_rfl) (by kernel_rfl) (by kernel_rfl) (fun _ _ _ h => h) (Or.inl ⟨by rfl, ?_⟩) hs0 ?_
              · (intro w hSw; (try dsimp only at hSw); go_simp)
              refine wpAnyH_ready (rs := [2]) (by kernel_rfl) (by simp) ?_
              refine AllReadyH.cons rfl (fun K hK => ?_) AllReadyH.nil
              go_simp
              go_wp2_with (go_at_call 36; (with_reducible refine (rIsType_calls (TV.mk (SO.sv (Aside.out (And.right (And.right (show SP w 1 (.slice NA ne cN) es _ from by assumption))))).iv) HT.out).mono ?_); rintro e w4 ⟨rfl, he4⟩)
              have hs6 := SP.ext he4 hs0
              refine hK.out _ _ hs6 (fun hHeld => ?_)
              clear hK K hHeld
              refine wpAnyH_take (i := 3) (v := .bool false) rfl (by kernel_rfl) (by kernel_rfl) (by kernel_rfl) (fun _ _ _ h => h) (Or.inl ⟨by rfl, ?_⟩) hs6 ?_
              · (intro w hSw; (try dsimp only at hSw); go_simp)
              refine wpAnyH_take (i := 4) (v := undef) rfl (by kernel_rfl) (by kernel_rfl) (by kernel_rfl) (fun _ _ _ h => h) (Or.inr ⟨by rfl, rfl⟩) hs6 ?_
              refine wpAnyH_take (i := 5) (v := undef) rfl (by kernel_rfl) (by kernel_rfl) (by kernel_rfl) (fun _ _ _ h => h) (Or.inr ⟨by rfl, rfl⟩) hs6 ?_
              refine wpAnyH_take (i := 6) (v := undef) rfl (by kernel_rfl) (by kernel_rfl) (by kernel_rfl) (fun _ _ _ h => h) (Or.inr ⟨by rfl, rfl⟩) hs6 ?_
              refine wpAnyH_take (i := 7) (v := undef) rfl (by kernel_rfl) (by kernel_rfl) (by kernel_rfl) (fun _ _ _ h => h) (Or.inr ⟨by rfl, rfl⟩) hs6 ?_
              refine wpAnyH_take (i := 8) (v := .bool false) rfl (by kernel_rfl) (by kernel_rfl) (by kernel_rfl) (fun _ _ _ h => h) (Or.inl ⟨by rfl, ?_⟩) hs6 ?_
              · (intro w hSw; (try dsimp only at hSw); go_simp)
              refine wpAnyH_ready (rs := [9]) (by kernel_rfl) (by simp) ?_
              refine AllReadyH.cons rfl (fun K hK => ?_) AllReadyH.nil
              go_simp
              refine hK.out _ _ (SP.set2 hs6 _ _) (fun hHeld => ?_)
              clear hK K hHeld
              refine wpAnyH_take (i := 10) (v := .bool false) rfl (by kernel_rfl) (by kernel_rfl) (by kernel_rfl) (fun _ _ _ h => h) (Or.inl ⟨by rfl, ?_⟩) (SP.set2 hs6 _ _) ?_
              · (intro w hSw; (try dsimp only at hSw); go_simp)
              refine wpAnyH_done (by kernel_rfl) ?_ _
              all_goals
                have HS6 := Aside.mk hs6
                have HS7 := Aside.mk (SP.set2 hs6 (.int .i64 1) (.slice NA ne cN))
                go_wp2_with fail
                refine bodyPost_ret (v := .tuple #[.agg #[.int .i64 1, .slice NA ne cN], .bool false]) (by simp [results, Tryz.results27, go_sem, hs6]) rfl ⟨?_, HS7.out.1.1.out⟩
                have hh := HS7.out.2.2.out.mono (b' := w.heap.size) (by omega)
                have hne := HNE.out
                subst hne
                exact ⟨1, es, NA, cN, false, rfl, hh, HFF.out⟩
            · obtain ⟨sB, hsB⟩ : ∃ b, tyB 1 es = b := ⟨_, rfl⟩
              have HSB := Aside.mk hsB
              obtain ⟨b, hb⟩ : ∃ b, (sB.toList == r.toList) = b := ⟨_, rfl⟩
              have HFF := Aside.mk (rp_ok HR.out hsB hb HT.out HFIN.out)
              clear hsB hk2
              go_wp2_with fail
              clear hb2
              go_region_held3 (fun w' => SP w 1 (.slice NA ne cN) es w') (first | assumption | exact SP.ext (by assumption) (by assumption) | exact SP.set2 (by assumption) _ _) (first | (go_at_call 36; (with_reducible refine (rIsType_calls (TV.mk (SO.sv (Aside.out (And.right (And.right (show SP w 1 (.slice NA ne cN) es _ from by assumption))))).iv) HT.out).mono ?_); rintro e w4 ⟨rfl, he4⟩) | (go_at_call 39; (with_reducible refine (rTyText_calls (TV.mk (SO.sv (Aside.out (And.right (And.right (show SP w 1 (.slice NA ne cN) es _ from by assumption))))).iv) HT.out HSB.out).mono ?_); rintro e w6 ⟨rfl, he6⟩))
              all_goals
                have hs6 := SP.ext he6 (SP.ext he4 hs0)
                have HS6 := Aside.mk hs6
                have HS7 := Aside.mk (SP.set2 hs6 (.int .i64 1) (.slice NA ne cN))
                go_wp2_with fail
                refine bodyPost_ret (v := .tuple #[.agg #[.int .i64 1, .slice NA ne cN], .bool b]) (by simp [results, Tryz.results27, go_sem, hs6]) rfl ⟨?_, HS7.out.1.1.out⟩
                have hh := HS7.out.2.2.out.mono (b' := w.heap.size) (by omega)
                have hne := HNE.out
                subst hne
                exact ⟨1, es, NA, cN, b, rfl, hh, HFF.out⟩
    · have e0 := 0
      clear hc e0 hr
      go_enter Tryz.func27, Tryz.ntmps27
      go_wp2_with fail
      clear hz
      go_loopw [5] (fun i wr => ∃ (p : Nat) (es : List Int) (NA : Option Addr) (ne cN : Nat), i = .int .i64 (p : Int) ∧ p ≤ r.size ∧ ne ≤ 4 ∧ KR2 w wr ∧ B2 wr (w.heap.size + 1) (.int .i64 1) (.slice NA ne cN) ∧ Aside (es.length = ne ∧ scanL l = es ++ scanL (l.drop p) ∧ SO (w.heap.size + 1 + 1) 3 1 IntC wr (.slice NA ne cN) es)) (fun i _ => r.size - (intOf i).toNat)
      case atStart => exact ⟨0, [], none, 0, 0, rfl, by omega, by omega, (HK0.out 1).1, (HK0.out 1).2, ⟨rfl, rfl, SO.nil⟩⟩
      case round =>
        obtain ⟨p, es, NA, ne, cN, rfl, hp, hne4, hk2, hb2, HS⟩ := hrel
        obtain ⟨hne, hsc, hro⟩ := HS.out
        have HNE := Aside.mk hne
        have HRO := Aside.mk hro
        have HSC := Aside.mk hsc
        clear HS hne hro
        by_cases hc : p + 1 < r.size ∧ ne ≤ 3
        · obtain ⟨hpr, hn3⟩ := hc
          obtain ⟨j, hj⟩ : ∃ j, p + 1 = j := ⟨_, rfl⟩
          have hp0 : p < r.size := by omega
          have hj0 : j < r.size := by omega
          have HA : Aside (l[p]? = some r[p]) := ⟨data_get HR.out hp0⟩
          have HB : Aside (l[p + 1]? = some r[j]) := ⟨by rw [hj]; exact data_get HR.out hj0⟩
          have hmo := scan_more hsc HA.out HB.out
          rw [hj] at hmo
          have HMO := Aside.mk hmo
          clear hmo
          have w0 : IntKind.i64.wrap ((p : Int) + 1) = (j : Int) := by rw [← hj]; exact wrap_i64 _ (by omega) (by omega)
          have w1 : IntKind.i64.wrap (j : Int) = (j : Int) := wrap_i64 _ (by omega) (by omega)
          have w2 : wrap64 ((p : Int) + 1) = (j : Int) := by rw [← hj]; exact wrap64_id (by omega) (by omega)
          have i0 : (0 : Int) ≤ (p : Int) := by omega
          have i1 : (p : Int) < (r.size : Int) := by omega
          have i2 : (0 : Int) ≤ (j : Int) := by omega
          have i3 : (j : Int) < (r.size : Int) := by omega
          have i4 : (ne : Int) ≤ 3 := by omega
          have HJ := Aside.mk hj
          clear hsc hj
          by_cases ha : r[p] = 91
          · have b0 := byte_is (b := r[p]) (c := 91) (k := 91) rfl ha
            have HSC2 := Aside.mk (HMO.out.1 ha)
            have hb8 := r[j].toNat_lt
            obtain ⟨y, hy⟩ : ∃ y : Int, (r[j].toNat : Int) = y := ⟨_, rfl⟩
            obtain ⟨d, hd⟩ : ∃ d, y - 48 = d := ⟨_, rfl⟩
            rw [hy, hd] at HSC2
            have w3 : IntKind.i64.wrap y = y := wrap_i64 _ (by omega) (by omega)
            have w4 : IntKind.i64.wrap (y - 48) = d := by rw [hd]; exact wrap_i64 _ (by omega) (by omega)
            have w5 : wrap64 (y - 48) = d := by rw [hd]; exact wrap64_id (by omega) (by omega)
            have hb3 := hb2.ext (((Ext.refl wr).alloc (.cells #[.int .i64 d] 3)).drew)
            have hk3 := hk2.ext (((Ext.refl wr).alloc (.cells #[.int .i64 d] 3)).drew)
            have hb1' := hb2.ext ((Ext.refl wr).drew)
            have HRO3 := Aside.mk (HRO.out.ext IntC.ext (((Ext.refl wr).alloc (.cells #[.int .i64 d] 3)).drew))
            have HSB := Aside.mk ((SO.lit (e := 3) (R := IntC) wr [.int .i64 d] [d] (by simp) (rows_ints [d] _)).sv.ext IntC.ext ((Ext.refl _).drew))
            have HLT3 := Aside.mk (B2.lt hb3)
            have HLB : Aside (es.length + [d].length ≤ 1073741824) := ⟨by have := HNE.out; simp; omega⟩
            have HLB2 : Aside ((es ++ [d]).length = ne + 1) := ⟨by simp [HNE.out]⟩
            clear ha hd hb8
            go_wp2_with fail
            go_region_law (refine step_append_so (R := IntC) (W := (wr.alloc (.cells #[.int .i64 d] 3)).drew) (w.heap.size + 1 + 1) elemInt rfl (.tmp 43) (.tmp 50) rfl (.slice NA ne cN) (.slice (some ⟨wr.heap.size, 0, none⟩) 1 1) es [d] HRO3.out HSB.out IntC.one (fun _ _ _ _ h => h) (by simp [Act.eval]) (by simp [Act.eval]) HLT3.out HLB.out ?_; rintro v1 w5 ho hg; obtain ⟨A5, c5, rfl, _⟩ := ho.sv.form; rw [HLB2.out] at ho ⊢; have hbel := Below.grown (Below.refl (w.heap.size + 1 + 1) _) hg HLT3.out HRO3.out.low; have hb5 := hb3.below (Nat.lt_succ_self _) hbel; have hk5 := hk3.below (Below.mono hbel (Nat.le_succ _)); have HRO5 := Aside.mk ho; clear ho hg hbel)
            all_goals
              have HB5 := Aside.mk hb5
              have HK5 := Aside.mk hk5
              clear hb2 hb1' hb3 hk2 hk3
              go_wp2_with fail
              go_roundw
              case rel => exact ⟨j, es ++ [d], A5, ne + 1, c5, rfl, by have := HJ.out; omega, by omega, HK5.out.far (Nat.le_refl _) _ _, HB5.out.put 1 _, ⟨HLB2.out, HSC2.out, HRO5.out.set (Nat.lt_succ_self _) _ (fun _ _ h => h)⟩⟩
              case measure => have := HJ.out; simp [intOf]; omega
          · have b0 := byte_not (b := r[p]) (c := 91) (k := 91) rfl ha
            have HSC2 := Aside.mk (HMO.out.2 ha)
            have HK2 := Aside.mk hk2
            have HB2 := Aside.mk hb2
            clear ha
            go_wp2_with fail
            go_roundw
            case rel => exact ⟨j, es, NA, ne, cN, rfl, by have := HJ.out; omega, by omega, HK2.out, HB2.out, ⟨HNE.out, HSC2.out, HRO.out⟩⟩
            case measure => have := HJ.out; simp [intOf]; omega
        · have HMR : Aside (scanL (l.drop p) = [] ∨ 3 < es.length) := ⟨by
            by_cases h1 : p + 1 < r.size
            · right; rw [HNE.out]; omega
            · left; exact scan_end (by have := HRZ.out; omega)⟩
          have HFIN := Aside.mk (ref_parse HSC.out HMR.out)
          rw [HKL.out] at HFIN
          obtain ⟨t2, ht2⟩ : ∃ b, tyOk 1 es = b := ⟨_, rfl⟩
          have HT := Aside.mk ht2
          have hs0 : SP w 1 (.slice NA ne cN) es wr.drew := SP.ext ((Ext.refl _).drew) ⟨hk2, hb2, HRO⟩
          clear hsc ht2
          have w2 : wrap64 ((p : Int) + 1) = (p : Int) + 1 := wrap64_id (by omega) (by omega)
          by_cases h1 : (p : Int) + 1 < (r.size : Int)
          · have h3 : ¬ (ne : Int) ≤ 3 := by omega
            cases t2
            · have HFF : Aside (ROut l 1 es false) := ⟨ROut.bad (HFIN.out.2 (by rw [HT.out]; rfl))⟩
              clear hk2
              go_wp2_with fail
              clear hb2
              refine wp_region_held_drew (S := fun w' => SP w 1 (.slice NA ne cN) es w') (by kernel_rfl) hs0 (fun hHeld => ?_)
              refine wpAnyH_take (i := 0) (v := .agg #[.int .i64 1, .slice NA ne cN]) rfl (by kernel_rfl) (by kernel_rfl) (by kernel_rfl) (fun _ _ _ h => h) (Or.inl ⟨by rfl, ?_⟩) hs0 ?_
              · (intro w hSw; (try dsimp only at hSw); go_simp)
              refine wpAnyH_take (i := 1) (v := .agg #[.int .i64 1, .slice NA ne cN]) rfl (by kernel_rfl) (by kernel_rfl) (by kernel_rfl) (fun _ _ _ h => h) (Or.inl ⟨by rfl, ?_⟩) hs0 ?_
              · (intro w hSw; (try dsimp only at hSw); go_simp)
              refine wpAnyH_ready (rs := [2]) (by kernel_rfl) (by simp) ?_
              refine AllReadyH.cons rfl (fun K hK => ?_) AllReadyH.nil
              go_simp
              go_wp2_with (go_at_call 36; (with_reducible refine (rIsType_calls (TV.mk (SO.sv (Aside.out (And.right (And.right (show SP w 1 (.slice NA ne cN) es _ from by assumption))))).iv) HT.out).mono ?_); rintro e w4 ⟨rfl, he4⟩)
              have hs6 := SP.ext he4 hs0
              refine hK.out _ _ hs6 (fun hHeld => ?_)
              clear hK K hHeld
              refine wpAnyH_take (i := 3) (v := .bool false) rfl (by kernel_rfl) (by kernel_rfl) (by kernel_rfl) (fun _ _ _ h => h) (Or.inl ⟨by rfl, ?_⟩) hs6 ?_
              · (intro w hSw; (try dsimp only at hSw); go_simp)
              refine wpAnyH_take (i := 4) (v := undef) rfl (by kernel_rfl) (by kernel_rfl) (by kernel_rfl) (fun _ _ _ h => h) (Or.inr ⟨by rfl, rfl⟩) hs6 ?_
              refine wpAnyH_take (i := 5) (v := undef) rfl (by kernel_rfl) (by kernel_rfl) (by kernel_rfl) (fun _ _ _ h => h) (Or.inr ⟨by rfl, rfl⟩) hs6 ?_
              refine wpAnyH_take (i := 6) (v := undef) rfl (by kernel_rfl) (by kernel_rfl) (by kernel_rfl) (fun _ _ _ h => h) (Or.inr ⟨by rfl, rfl⟩) hs6 ?_
              refine wpAnyH_take (i := 7) (v := undef) rfl (by kernel_rfl) (by kernel_rfl) (by kernel_rfl) (fun _ _ _ h => h) (Or.inr ⟨by rfl, rfl⟩) hs6 ?_
              refine wpAnyH_take (i := 8) (v := .bool false) rfl (by kernel_rfl) (by kernel_rfl) (by kernel_rfl) (fun _ _ _ h => h) (Or.inl ⟨by rfl, ?_⟩) hs6 ?_
              · (intro w hSw; (try dsimp only at hSw); go_simp)
              refine wpAnyH_ready (rs := [9]) (by kernel_rfl) (by simp) ?_
              refine AllReadyH.cons rfl (fun K hK => ?_) AllReadyH.nil
              go_simp
              refine hK.out _ _ (SP.set2 hs6 _ _) (fun hHeld => ?_)
              clear hK K hHeld
              refine wpAnyH_take (i := 10) (v := .bool false) rfl (by kernel_rfl) (by kernel_rfl) (by kernel_rfl) (fun _ _ _ h => h) (Or.inl ⟨by rfl, ?_⟩) (SP.set2 hs6 _ _) ?_
              · (intro w hSw; (try dsimp only at hSw); go_simp)
              refine wpAnyH_done (by kernel_rfl) ?_ _
              all_goals
                have HS6 := Aside.mk hs6
                have HS7 := Aside.mk (SP.set2 hs6 (.int .i64 1) (.slice NA ne cN))
                go_wp2_with fail
                refine bodyPost_ret (v := .tuple #[.agg #[.int .i64 1, .slice NA ne cN], .bool false]) (by simp [results, Tryz.results27, go_sem, hs6]) rfl ⟨?_, HS7.out.1.1.out⟩
                have hh := HS7.out.2.2.out.mono (b' := w.heap.size) (by omega)
                have hne := HNE.out
                subst hne
                exact ⟨1, es, NA, cN, false, rfl, hh, HFF.out⟩
            · obtain ⟨sB, hsB⟩ : ∃ b, tyB 1 es = b := ⟨_, rfl⟩
              have HSB := Aside.mk hsB
              obtain ⟨b, hb⟩ : ∃ b, (sB.toList == r.toList) = b := ⟨_, rfl⟩
              have HFF := Aside.mk (rp_ok HR.out hsB hb HT.out HFIN.out)
              clear hsB hk2
              go_wp2_with fail
              clear hb2
              go_region_held3 (fun w' => SP w 1 (.slice NA ne cN) es w') (first | assumption | exact SP.ext (by assumption) (by assumption) | exact SP.set2 (by assumption) _ _) (first | (go_at_call 36; (with_reducible refine (rIsType_calls (TV.mk (SO.sv (Aside.out (And.right (And.right (show SP w 1 (.slice NA ne cN) es _ from by assumption))))).iv) HT.out).mono ?_); rintro e w4 ⟨rfl, he4⟩) | (go_at_call 39; (with_reducible refine (rTyText_calls (TV.mk (SO.sv (Aside.out (And.right (And.right (show SP w 1 (.slice NA ne cN) es _ from by assumption))))).iv) HT.out HSB.out).mono ?_); rintro e w6 ⟨rfl, he6⟩))
              all_goals
                have hs6 := SP.ext he6 (SP.ext he4 hs0)
                have HS6 := Aside.mk hs6
                have HS7 := Aside.mk (SP.set2 hs6 (.int .i64 1) (.slice NA ne cN))
                go_wp2_with fail
                refine bodyPost_ret (v := .tuple #[.agg #[.int .i64 1, .slice NA ne cN], .bool b]) (by simp [results, Tryz.results27, go_sem, hs6]) rfl ⟨?_, HS7.out.1.1.out⟩
                have hh := HS7.out.2.2.out.mono (b' := w.heap.size) (by omega)
                have hne := HNE.out
                subst hne
                exact ⟨1, es, NA, cN, b, rfl, hh, HFF.out⟩
          · cases t2
            · have HFF : Aside (ROut l 1 es false) := ⟨ROut.bad (HFIN.out.2 (by rw [HT.out]; rfl))⟩
              clear hk2
              go_wp2_with fail
              clear hb2
              refine wp_region_held_drew (S := fun w' => SP w 1 (.slice NA ne cN) es w') (by kernel_rfl) hs0 (fun hHeld => ?_)
              refine wpAnyH_take (i := 0) (v := .agg #[.int .i64 1, .slice NA ne cN]) rfl (by kernel_rfl) (by kernel_rfl) (by kernel_rfl) (fun _ _ _ h => h) (Or.inl ⟨by rfl, ?_⟩) hs0 ?_
              · (intro w hSw; (try dsimp only at hSw); go_simp)
              refine wpAnyH_take (i := 1) (v := .agg #[.int .i64 1, .slice NA ne cN]) rfl (by kernel_rfl) (by kernel_rfl) (by kernel_rfl) (fun _ _ _ h => h) (Or.inl ⟨by rfl, ?_⟩) hs0 ?_
              · (intro w hSw; (try dsimp only at hSw); go_simp)
              refine wpAnyH_ready (rs := [2]) (by kernel_rfl) (by simp) ?_
              refine AllReadyH.cons rfl (fun K hK => ?_) AllReadyH.nil
              go_simp
              go_wp2_with (go_at_call 36; (with_reducible refine (rIsType_calls (TV.mk (SO.sv (Aside.out (And.right (And.right (show SP w 1 (.slice NA ne cN) es _ from by assumption))))).iv) HT.out).mono ?_); rintro e w4 ⟨rfl, he4⟩)
              have hs6 := SP.ext he4 hs0
              refine hK.out _ _ hs6 (fun hHeld => ?_)
              clear hK K hHeld
              refine wpAnyH_take (i := 3) (v := .bool false) rfl (by kernel_rfl) (by kernel_rfl) (by kernel_rfl) (fun _ _ _ h => h) (Or.inl ⟨by rfl, ?_⟩) hs6 ?_
              · (intro w hSw; (try dsimp only at hSw); go_simp)
              refine wpAnyH_take (i := 4) (v := undef) rfl (by kernel_rfl) (by kernel_rfl) (by kernel_rfl) (fun _ _ _ h => h) (Or.inr ⟨by rfl, rfl⟩) hs6 ?_
              refine wpAnyH_take (i := 5) (v := undef) rfl (by kernel_rfl) (by kernel_rfl) (by kernel_rfl) (fun _ _ _ h => h) (Or.inr ⟨by rfl, rfl⟩) hs6 ?_
              refine wpAnyH_take (i := 6) (v := undef) rfl (by kernel_rfl) (by kernel_rfl) (by kernel_rfl) (fun _ _ _ h => h) (Or.inr ⟨by rfl, rfl⟩) hs6 ?_
              refine wpAnyH_take (i := 7) (v := undef) rfl (by kernel_rfl) (by kernel_rfl) (by kernel_rfl) (fun _ _ _ h => h) (Or.inr ⟨by rfl, rfl⟩) hs6 ?_
              refine wpAnyH_take (i := 8) (v := .bool false) rfl (by kernel_rfl) (by kernel_rfl) (by kernel_rfl) (fun _ _ _ h => h) (Or.inl ⟨by rfl, ?_⟩) hs6 ?_
              · (intro w hSw; (try dsimp only at hSw); go_simp)
              refine wpAnyH_ready (rs := [9]) (by kernel_rfl) (by simp) ?_
              refine AllReadyH.cons rfl (fun K hK => ?_) AllReadyH.nil
              go_simp
              refine hK.out _ _ (SP.set2 hs6 _ _) (fun hHeld => ?_)
              clear hK K hHeld
              refine wpAnyH_take (i := 10) (v := .bool false) rfl (by kernel_rfl) (by kernel_rfl) (by kernel_rfl) (fun _ _ _ h => h) (Or.inl ⟨by rfl, ?_⟩) (SP.set2 hs6 _ _) ?_
              · (intro w hSw; (try dsimp only at hSw); go_simp)
              refine wpAnyH_done (by kernel_rfl) ?_ _
              all_goals
                have HS6 := Aside.mk hs6
                have HS7 := Aside.mk (SP.set2 hs6 (.int .i64 1) (.slice NA ne cN))
                go_wp2_with fail
                refine bodyPost_ret (v := .tuple #[.agg #[.int .i64 1, .slice NA ne cN], .bool false]) (by simp [results, Tryz.results27, go_sem, hs6]) rfl ⟨?_, HS7.out.1.1.out⟩
                have hh := HS7.out.2.2.out.mono (b' := w.heap.size) (by omega)
                have hne := HNE.out
                subst hne
                exact ⟨1, es, NA, cN, false, rfl, hh, HFF.out⟩
            · obtain ⟨sB, hsB⟩ : ∃ b, tyB 1 es = b := ⟨_, rfl⟩
              have HSB := Aside.mk hsB
              obtain ⟨b, hb⟩ : ∃ b, (sB.toList == r.toList) = b := ⟨_, rfl⟩
              have HFF := Aside.mk (rp_ok HR.out hsB hb HT.out HFIN.out)
              clear hsB hk2
              go_wp2_with fail
              clear hb2
              go_region_held3 (fun w' => SP w 1 (.slice NA ne cN) es w') (first | assumption | exact SP.ext (by assumption) (by assumption) | exact SP.set2 (by assumption) _ _) (first | (go_at_call 36; (with_reducible refine (rIsType_calls (TV.mk (SO.sv (Aside.out (And.right (And.right (show SP w 1 (.slice NA ne cN) es _ from by assumption))))).iv) HT.out).mono ?_); rintro e w4 ⟨rfl, he4⟩) | (go_at_call 39; (with_reducible refine (rTyText_calls (TV.mk (SO.sv (Aside.out (And.right (And.right (show SP w 1 (.slice NA ne cN) es _ from by assumption))))).iv) HT.out HSB.out).mono ?_); rintro e w6 ⟨rfl, he6⟩))
              all_goals
                have hs6 := SP.ext he6 (SP.ext he4 hs0)
                have HS6 := Aside.mk hs6
                have HS7 := Aside.mk (SP.set2 hs6 (.int .i64 1) (.slice NA ne cN))
                go_wp2_with fail
                refine bodyPost_ret (v := .tuple #[.agg #[.int .i64 1, .slice NA ne cN], .bool b]) (by simp [results, Tryz.results27, go_sem, hs6]) rfl ⟨?_, HS7.out.1.1.out⟩
                have hh := HS7.out.2.2.out.mono (b' := w.heap.size) (by omega)
                have hne := HNE.out
                subst hne
                exact ⟨1, es, NA, cN, b, rfl, hh, HFF.out⟩
end Go.Proofs.YtcbaipnphepbeaaGreatDoor
