/- Texts of nested words: both readings of them are the same; plain. Texts of nested words: how the specification reads them; plain. The two readings of a value's text are the same; Read of Show, Show of Read; plain. -/
import Derived.Test.YtcbaipnphepbeaaGreatDoorNn
import Derived.Test.YtcbaipnphepbeaaGreatDoorNm
import Derived.Test.YtcbaipnphepbeaaGreatDoorNj
import Derived.Test.YtcbaipnphepbeaaGreatDoorNo
import Derived.Test.YtcbaipnphepbeaaGreatDoorNi
namespace Go.Proofs.YtcbaipnphepbeaaGreatDoor
open Go.RowKit

/-- Texts, a comma and a blank between. -/
def jn : List (List UInt8) → List UInt8
  | [] => []
  | [x] => x
  | x :: y :: l => x ++ 44 :: 32 :: jn (y :: l)
theorem jn_join : ∀ l : List (List UInt8), Lib.join l [44, 32] = jn l
  | [] => rfl
  | [x] => by simp [Lib.join, jn, List.intercalate, List.intersperse]
  | x :: y :: l => by
    have ih := jn_join (y :: l)
    unfold jn
    rw [← ih]
    simp [Lib.join, List.intercalate, List.intersperse]
/-- A text is that of words in brackets, so many at each depth. -/
def Fm : List Int → List (List UInt8) → List UInt8 → Prop
  | [], ws, s => ws = [s]
  | d :: ds, ws, s => ∃ l : List (List (List UInt8) × List UInt8), (l.length : Int) = d ∧ l ≠ [] ∧ (∀ p ∈ l, Fm ds p.1 p.2) ∧ ws = l.flatMap (·.1) ∧ s = 123 :: (jn (l.map (·.2)) ++ [125])
theorem Fm.len : ∀ {ds : List Int} {ws : List (List UInt8)} {s : List UInt8}, Fm ds ws s → (ws.length : Int) = prodI ds
  | [], ws, s, h => by
    have h : ws = [s] := h
    subst h; rfl
  | d :: ds, ws, s, ⟨l, h1, h2, h3, h4, h5⟩ => by
    rw [prodI_cons, ← h1, h4]
    clear h1 h2 h4 h5
    induction l with
    | nil => simp
    | cons p l ih =>
      have hp := (h3 p List.mem_cons_self).len
      have := ih (fun q hq => h3 q (List.mem_cons_of_mem _ hq))
      rw [List.flatMap_cons, List.length_append, Int.natCast_add, this, hp, List.length_cons, Int.natCast_add]
      generalize prodI ds = P
      rw [Int.add_mul]
      simp [Int.add_comm]
theorem flat_inj {α : Type} {m : Nat} : ∀ {l l' : List (List α)}, (∀ x ∈ l, x.length = m) → (∀ x ∈ l', x.length = m) → l.length = l'.length → l.flatten = l'.flatten → l = l'
  | [], [], _, _, _, _ => rfl
  | x :: l, y :: l', h, h', hl, he => by
    rw [List.flatten_cons, List.flatten_cons] at he
    have hx := h x List.mem_cons_self
    have hy := h' y List.mem_cons_self
    obtain ⟨e1, e2⟩ := List.append_inj he (by rw [hx, hy])
    rw [e1, flat_inj (fun z hz => h z (List.mem_cons_of_mem _ hz)) (fun z hz => h' z (List.mem_cons_of_mem _ hz)) (by simpa using hl) e2]
  | [], _ :: _, _, _, h, _ => by simp at h
  | _ :: _, [], _, _, h, _ => by simp at h
/-- Words and sizes make one text. -/
theorem Fm.uniq : ∀ {ds : List Int} {ws : List (List UInt8)} {s s' : List UInt8}, Fm ds ws s → Fm ds ws s' → s = s'
  | [], ws, s, s', h, h' => by
    have h : ws = [s] := h
    have h' : ws = [s'] := h'
    rw [h] at h'
    injection h'
  | d :: ds, ws, s, s', ⟨l, h1, h2, h3, h4, h5⟩, ⟨l', h1', h2', h3', h4', h5'⟩ => by
    have hlen : l.length = l'.length := by omega
    have hm : ∀ {l : List (List (List UInt8) × List UInt8)}, (∀ p ∈ l, Fm ds p.1 p.2) → ∀ x ∈ l.map (·.1), x.length = (prodI ds).toNat := fun h x hx => by
      obtain ⟨p, hp, rfl⟩ := List.mem_map.1 hx
      have := (h p hp).len
      omega
    have he : l.map (·.1) = l'.map (·.1) := flat_inj (hm h3) (hm h3') (by simpa using hlen) (by rw [← List.flatMap_def, ← List.flatMap_def, ← h4, ← h4'])
    have : l.map (·.2) = l'.map (·.2) := by
      clear h1 h1' h2 h2' h4 h4' h5 h5' hm
      induction l generalizing l' with
      | nil => cases l' with
        | nil => rfl
        | cons _ _ => simp at hlen
      | cons p l ih => cases l' with
        | nil => simp at hlen
        | cons q l' =>
          rw [List.map_cons, List.map_cons] at he ⊢
          injection he with e1 e2
          have hp := h3 p List.mem_cons_self
          rw [e1] at hp
          rw [Fm.uniq hp (h3' q List.mem_cons_self), ih (fun x hx => h3 x (List.mem_cons_of_mem _ hx)) l' (fun x hx => h3' x (List.mem_cons_of_mem _ hx)) (by simpa using hlen) e2]
    rw [h5, h5', this]
/-- A word that take reads as it stands. -/
def Wd (w : List UInt8) : Prop := ∀ c ∈ w, sepB c = false ∧ c ≠ 123
theorem word_app {w r : List UInt8} (hw : ∀ c ∈ w, sepB c = false) (hr : r = [] ∨ ∃ c t, r = c :: t ∧ sepB c = true) : wordT (w ++ r) = w ∧ restT (w ++ r) = r := by
  induction w with
  | nil =>
    rcases hr with rfl | ⟨c, t, rfl, hc⟩
    · exact ⟨rfl, rfl⟩
    · constructor
      · unfold wordT; rw [List.nil_append, List.takeWhile_cons]; simp [hc]
      · unfold restT; rw [List.nil_append, List.dropWhile_cons]; simp [hc]
  | cons c w ih =>
    have hc := hw c List.mem_cons_self
    obtain ⟨e1, e2⟩ := ih fun x hx => hw x (List.mem_cons_of_mem _ hx)
    constructor
    · unfold wordT at e1 ⊢; rw [List.cons_append, List.takeWhile_cons]; simp [hc, e1]
    · unfold restT at e2 ⊢; rw [List.cons_append, List.dropWhile_cons]; simp [hc, e2]
theorem takeL_fm {f : List UInt8 → Option (List Int × List UInt8 × List (List UInt8))} {ds : List Int} : ∀ (l : List (List (List UInt8) × List UInt8)) (k n : Nat) (first : List Int) (acc : List (List UInt8)) (r : List UInt8), l ≠ [] → l.length ≤ k →
    (∀ p ∈ l, ∀ t, (∃ c u, t = c :: u ∧ sepB c = true) → f (p.2 ++ t) = some (ds, t, p.1)) → (n = 1 ∨ first = ds) → 1 ≤ n →
    takeL f k n first (jn (l.map (·.2)) ++ 125 :: r) acc = some (((n + l.length - 1 : Nat) : Int) :: ds, r, acc ++ l.flatMap (·.1))
  | [], _, _, _, _, _, h, _, _, _, _ => absurd rfl h
  | p :: l, 0, _, _, _, _, _, h, _, _, _ => by simp at h
  | [p], k + 1, n, first, acc, r, _, _, hf, hn, h1 => by
    have hp := hf p List.mem_cons_self (125 :: r) ⟨125, r, rfl, rfl⟩
    show takeL f (k + 1) n first (p.2 ++ 125 :: r) acc = _
    rw [takeL_end hp (fun ⟨h2, h3⟩ => by rcases hn with h | h; omega; exact h3 h.symm)]
    simp
  | p :: q :: l, k + 1, n, first, acc, r, _, hk, hf, hn, h1 => by
    have hp := hf p List.mem_cons_self (44 :: 32 :: (jn ((q :: l).map (·.2)) ++ 125 :: r)) ⟨44, _, rfl, rfl⟩
    have e : jn ((p :: q :: l).map (·.2)) ++ 125 :: r = p.2 ++ 44 :: 32 :: (jn ((q :: l).map (·.2)) ++ 125 :: r) := by simp [jn]
    rw [e, takeL_next hp (fun ⟨h2, h3⟩ => by rcases hn with h | h; omega; exact h3 h.symm)]
    rw [takeL_fm (q :: l) k (n + 1) ds (acc ++ p.1) r (by simp) (by simpa using hk) (fun x hx => hf x (List.mem_cons_of_mem _ hx)) (.inr rfl) (by omega)]
    congr 3
    · simp; omega
    · simp
/-- take reads such a text. -/
theorem takeF_fm : ∀ (m : Nat) (ds : List Int) (ws : List (List UInt8)) (s r : List UInt8), Fm ds ws s → ds.length ≤ m → (∀ d ∈ ds, d ≤ 8) → (∀ w ∈ ws, Wd w) → (ds ≠ [] ∨ r = [] ∨ ∃ c t, r = c :: t ∧ sepB c = true) →
    takeF m (s ++ r) = some (ds, r, ws)
  | m, [], ws, s, r, h, _, _, hw, hr => by
    have h : ws = [s] := h
    subst h
    have hw := hw s List.mem_cons_self
    have hr : r = [] ∨ ∃ c t, r = c :: t ∧ sepB c = true := hr.resolve_left (by simp)
    obtain ⟨e1, e2⟩ := word_app (fun c hc => (hw c hc).1) hr
    have hh : (s ++ r).head? ≠ some 123 := by
      cases s with
      | nil =>
        rcases hr with rfl | ⟨c, t, rfl, hc⟩
        · simp
        · rw [List.nil_append]
          intro e
          injection e with e
          subst e
          cases hc
      | cons c s =>
        rw [List.cons_append]
        intro e
        injection e with e
        exact (hw c List.mem_cons_self).2 e
    cases m with
    | zero => unfold takeF; rw [if_neg hh, e1, e2]
    | succ m => unfold takeF; rw [if_neg hh, e1, e2]
  | 0, _ :: _, _, _, _, _, h, _, _, _ => by simp at h
  | m + 1, d :: ds, ws, s, r, ⟨l, h1, h2, h3, h4, h5⟩, hm, hd, hw, _ => by
    subst h5
    have hd8 := hd d List.mem_cons_self
    unfold takeF
    rw [if_pos (by rfl)]
    have e : (123 :: (jn (l.map (·.2)) ++ [125]) ++ r : List UInt8).tail = jn (l.map (·.2)) ++ 125 :: r := by simp
    rw [e, takeL_fm (f := takeF m) (ds := ds) l 8 1 [] [] r h2 (by omega) (fun p hp t ht => takeF_fm m ds p.1 p.2 t (h3 p hp) (by simpa using hm) (fun x hx => hd x (List.mem_cons_of_mem _ hx))
      (fun w hw' => hw w (by rw [h4]; exact List.mem_flatMap.2 ⟨p, hp, hw'⟩)) (.inr (.inr ht))) (.inl rfl) (Nat.le_refl _), h4]
    congr 3
    · have : l.length ≠ 0 := fun e => h2 (List.eq_nil_of_length_eq_zero e)
      omega
theorem takeL_mf {f : List UInt8 → Option (List Int × List UInt8 × List (List UInt8))} {Q : List Int → Prop} (hf : ∀ s d r w, f s = some (d, r, w) → ∃ t, s = t ++ r ∧ Fm d w t ∧ Q d ∧ ∀ x ∈ w, ∀ c ∈ x, sepB c = false) :
    ∀ (k n : Nat) (first : List Int) (s : List UInt8) (acc : List (List UInt8)) D r W, takeL f k n first s acc = some (D, r, W) → 1 ≤ n →
    ∃ (l : List (List (List UInt8) × List UInt8)) (ds : List Int), l ≠ [] ∧ l.length ≤ k ∧ D = ((n + l.length - 1 : Nat) : Int) :: ds ∧ (1 < n → ds = first) ∧ (∀ p ∈ l, Fm ds p.1 p.2) ∧ Q ds ∧ W = acc ++ l.flatMap (·.1) ∧ s = jn (l.map (·.2)) ++ 125 :: r ∧
      ∀ p ∈ l, ∀ x ∈ p.1, ∀ c ∈ x, sepB c = false
  | 0, _, _, _, _, _, _, _, h, _ => by cases h
  | k + 1, n, first, s, acc, D, r, W, h, h1n => by
    cases hfs : f s with
    | none => rw [takeL_none hfs] at h; cases h
    | some x =>
      obtain ⟨d0, r0, w0⟩ := x
      obtain ⟨t, hs, hF, hQ, hW⟩ := hf _ _ _ _ hfs
      by_cases hn : 1 < n ∧ d0 ≠ first
      · rw [takeL_ne hfs hn.1 hn.2] at h; cases h
      · by_cases h125 : r0.head? = some 125
        · obtain ⟨r1, rfl⟩ : ∃ r1, r0 = 125 :: r1 := by
            cases r0 with
            | nil => cases h125
            | cons c r1 => injection h125 with e; exact ⟨r1, by rw [e]⟩
          rw [takeL_end hfs hn] at h
          injection h with h; injection h with h1 h2; injection h2 with h2 h3
          refine ⟨[(w0, t)], d0, by simp, by simp, ?_, fun h1n => Classical.byContradiction fun e => hn ⟨h1n, e⟩, ?_, hQ, by rw [← h3]; simp, by rw [← h2, hs]; simp [jn], ?_⟩
          · rw [← h1]; simp
          · intro p hp; rw [List.mem_singleton.1 hp]; exact hF
          · intro p hp; rw [List.mem_singleton.1 hp]; exact hW
        · by_cases h44 : ∃ r2, r0 = 44 :: 32 :: r2
          · obtain ⟨r2, rfl⟩ := h44
            rw [takeL_next hfs hn] at h
            obtain ⟨l, ds, g1, g2, g3, g4, g5, g6, g7, g8, g9⟩ := takeL_mf hf k (n + 1) d0 r2 (acc ++ w0) D r W h (by omega)
            obtain rfl := g4 (by omega)
            refine ⟨(w0, t) :: l, ds, by simp, by simpa using g2, by rw [g3]; congr 2; simp <;> omega, fun h1n => Classical.byContradiction fun e => hn ⟨h1n, e⟩, ?_, hQ, by rw [g7]; simp, ?_, ?_⟩
            · intro p hp
              rcases List.mem_cons.1 hp with rfl | hp
              · exact hF
              · exact g5 p hp
            · rw [hs, g8]
              cases l with
              | nil => exact absurd rfl g1
              | cons q l => simp [jn]
            · intro p hp
              rcases List.mem_cons.1 hp with rfl | hp
              · exact hW
              · exact g9 p hp
          · rw [takeL_bad hfs h125 (fun t e => h44 ⟨t, e⟩)] at h; cases h
/-- What take reads is such a text. -/
theorem fm_takeF : ∀ (m : Nat) (s : List UInt8) d r w, takeF m s = some (d, r, w) → ∃ t, s = t ++ r ∧ Fm d w t ∧ (d.length ≤ m ∧ ∀ x ∈ d, 1 ≤ x ∧ x ≤ 8) ∧ ∀ x ∈ w, ∀ c ∈ x, sepB c = false
  | m, s, d, r, w, h => by
    have leaf : some (([] : List Int), restT s, [wordT s]) = some (d, r, w) → ∃ t, s = t ++ r ∧ Fm d w t ∧ (d.length ≤ m ∧ ∀ x ∈ d, 1 ≤ x ∧ x ≤ 8) ∧ ∀ x ∈ w, ∀ c ∈ x, sepB c = false := fun h => by
      injection h with h; injection h with h1 h2; injection h2 with h2 h3
      subst h1 h2 h3
      refine ⟨wordT s, (word_rest s).symm, rfl, ⟨Nat.zero_le _, by simp⟩, fun x hx c hc => ?_⟩
      rw [List.mem_singleton.1 hx] at hc
      have := List.all_eq_true.1 (List.all_takeWhile (l := s) (p := fun c => !sepB c)) c hc
      simpa using this
    cases m with
    | zero =>
      unfold takeF at h
      split at h
      · cases h
      · exact leaf h
    | succ m =>
      unfold takeF at h
      split at h
      · rename_i hh
        obtain ⟨l, ds, g1, g2, g3, -, g5, g6, g7, g8, g9⟩ := takeL_mf (Q := fun d => d.length ≤ m ∧ ∀ x ∈ d, 1 ≤ x ∧ x ≤ 8) (fun s d r w h => fm_takeF m s d r w h) 8 1 [] s.tail [] d r w h (Nat.le_refl _)
        have hl : l.length ≠ 0 := fun e => g1 (List.eq_nil_of_length_eq_zero e)
        refine ⟨123 :: (jn (l.map (·.2)) ++ [125]), ?_, ?_, ⟨?_, ?_⟩, ?_⟩
        · cases s with
          | nil => cases hh
          | cons c s =>
            injection hh with hh
            subst hh
            rw [List.tail_cons] at g8
            rw [g8]; simp
        · rw [g3]
          exact ⟨l, by omega, g1, g5, by rw [g7, List.nil_append], rfl⟩
        · rw [g3, List.length_cons]; have := g6.1; omega
        · rw [g3]
          intro x hx
          rcases List.mem_cons.1 hx with rfl | hx
          · omega
          · exact g6.2 x hx
        · rw [g7, List.nil_append]
          intro x hx
          obtain ⟨p, hp, hx⟩ := List.mem_flatMap.1 hx
          exact g9 p hp x hx
      · exact leaf h
end Go.Proofs.YtcbaipnphepbeaaGreatDoor

namespace Go.Proofs.YtcbaipnphepbeaaGreatDoor
open Go.RowKit

/-- Does a byte stand between scalars? -/
def sclB (c : UInt8) : Bool := c == 123 || c == 125 || c == 44 || c == 32
/-- A scalar's text. -/
def Sc (w : List UInt8) : Prop := w ≠ [] ∧ ∀ c ∈ w, sclB c = false
theorem Sc.wd {w : List UInt8} (h : Sc w) : Wd w := fun c hc => by
  have := h.2 c hc
  unfold sclB at this
  unfold sepB
  simp only [Bool.or_eq_false_iff, beq_eq_false_iff_ne] at this ⊢
  exact ⟨⟨this.1.2, this.1.1.2⟩, this.1.1.1⟩
end Go.Proofs.YtcbaipnphepbeaaGreatDoor

namespace Go.Proofs.YtcbaipnphepbeaaGreatDoor
open Go.RowKit

/-- A value's words. -/
def wordsV (v : Vq) : List (List UInt8) := if v.k = 1 then v.nums.map rtext else v.bits.map bitT
theorem chunks {α : Type} (m : Nat) (ws : List α) : ∀ d : Nat, (List.range d).flatMap (fun i => (ws.drop (i * m)).take m) = ws.take (d * m)
  | 0 => by simp
  | d + 1 => by
    rw [List.range_succ, List.flatMap_append, chunks m ws d, Nat.succ_mul, List.take_add]
    simp
theorem words_elem (v : Vq) (i : Nat) : wordsV (elemV v i) = ((wordsV v).drop (i * (prodI v.ds.tail).toNat)).take (prodI v.ds.tail).toNat := by
  unfold wordsV elemV
  by_cases hk : v.k = 1
  · simp only [hk, if_true, List.map_take, List.map_drop]
  · simp only [hk, if_false, List.map_take, List.map_drop]
theorem words_len {v : Vq} (h : valOk v = true) : ((wordsV v).length : Int) = prodI v.ds := by
  unfold valOk at h
  unfold wordsV
  simp only [Bool.and_eq_true] at h
  have h2 := h.2
  split at h2
  · rename_i hk
    rw [if_pos hk, List.length_map]
    simp only [Bool.and_eq_true, beq_iff_eq] at h2
    exact h2.1.1
  · rename_i hk
    rw [if_neg hk, List.length_map]
    split at h2
    · simp only [Bool.and_eq_true, beq_iff_eq] at h2
      exact h2.1.1
    · cases h2
theorem fm_showN : ∀ (n : Nat) (v : Vq), valOk v = true → v.ds.length = n → Fm v.ds (wordsV v) (showN n v)
  | 0, v, h, hd => by
    have hd := List.eq_nil_of_length_eq_zero hd
    rw [hd]
    show wordsV v = [scalT v]
    unfold wordsV scalT
    rcases scal_parts h hd with ⟨hk, q, hn, _⟩ | ⟨hk, b, hb, _⟩
    · rw [if_pos hk, if_pos hk, hn]; rfl
    · rw [if_neg (by omega), if_neg (by omega), hb]; rfl
  | n + 1, v, h, hd => by
    obtain ⟨d, ds, hds⟩ : ∃ d ds, v.ds = d :: ds := by
      cases hv : v.ds with
      | nil => rw [hv] at hd; cases hd
      | cons d ds => exact ⟨d, ds, rfl⟩
    have hD := (valOk_dims h).2 d (by rw [hds]; simp)
    obtain ⟨dn, rfl⟩ : ∃ dn : Nat, d = dn := ⟨d.toNat, by omega⟩
    have hl := words_len h
    rw [hds, prodI_cons] at hl
    have ht : v.ds.tail = ds := by rw [hds]; rfl
    rw [hds, showN_succ hds, jn_join]
    refine ⟨(List.range dn).map fun i => (wordsV (elemV v i), showN n (elemV v i)), by simp, ?_, ?_, ?_, ?_⟩
    · intro e
      have := congrArg List.length e
      simp at this
      omega
    · intro p hp
      obtain ⟨i, hi, rfl⟩ := List.mem_map.1 hp
      have hi := List.mem_range.1 hi
      have := fm_showN n (elemV v i) (elem_ok h hds (by omega)) (by
        show v.ds.tail.length = n
        rw [ht]
        rw [hds] at hd
        simpa using hd)
      have he : (elemV v i).ds = ds := ht
      rw [he] at this
      exact this
    · rw [List.flatMap_map]
      have : (fun i => wordsV (elemV v i)) = fun i => ((wordsV v).drop (i * (prodI ds).toNat)).take (prodI ds).toNat := by
        funext i; rw [words_elem, ht]
      rw [this, chunks, List.take_of_length_le]
      have hp : 1 ≤ prodI ds := (dims_tail (hds ▸ valOk_dims h)).prod.1
      obtain ⟨P, hP⟩ : ∃ P : Nat, prodI ds = P := ⟨(prodI ds).toNat, by omega⟩
      rw [hP] at hl ⊢
      rw [Int.toNat_natCast]
      have : (wordsV v).length = dn * P := by exact_mod_cast hl
      omega
    · rw [List.map_map]; rfl
theorem fm_show {v : Vq} (h : valOk v = true) : Fm v.ds (wordsV v) (showV v) := fm_showN _ v h rfl
/-! Words -/
theorem isd_scl {c : UInt8} (h : isd c = true) : sclB c = false := by
  unfold isd at h
  simp only [Bool.and_eq_true, decide_eq_true_eq] at h
  unfold sclB
  simp only [Bool.or_eq_false_iff, beq_eq_false_iff_ne]
  refine ⟨⟨⟨?_, ?_⟩, ?_⟩, ?_⟩ <;> (rintro rfl; revert h; decide)
theorem ntext_sc (neg : Bool) (a b : Nat) : Sc (ntext neg a b) := by
  have hd : ∀ a, ∀ c ∈ dtext a, sclB c = false := fun a c hc => isd_scl (List.all_eq_true.1 (dtext_all a) c hc)
  unfold ntext
  constructor
  · intro e
    have := congrArg List.length e
    have h3 := List.length_pos_iff.2 (dtext_ne a)
    simp only [List.length_append, List.length_nil] at this
    omega
  · intro c hc
    rcases List.mem_append.1 hc with hc | hc
    · rcases List.mem_append.1 hc with hc | hc
      · split at hc
        · rw [List.mem_singleton.1 hc]; rfl
        · cases hc
      · exact hd a c hc
    · split at hc
      · cases hc
      · rcases List.mem_cons.1 hc with rfl | hc
        · rfl
        · exact hd b c hc
theorem faultT_sc (f : Int) : Sc (faultB f).data.toList := by
  unfold faultB
  split
  · exact ⟨by decide, by decide⟩
  · exact ⟨by decide, by decide⟩
theorem rtext_sc (q : Rq) : Sc (rtext q) := by
  unfold rtext
  split
  · exact ntext_sc _ _ _
  · exact faultT_sc _
theorem bitT_sc (b : Bq) : Sc (bitT b) := by
  unfold bitT bitB
  split
  · exact faultT_sc _
  · split
    · exact ⟨by decide, by decide⟩
    · exact ⟨by decide, by decide⟩
theorem words_sc (v : Vq) : ∀ w ∈ wordsV v, Sc w := by
  intro w hw
  unfold wordsV at hw
  split at hw
  · obtain ⟨q, _, rfl⟩ := List.mem_map.1 hw; exact rtext_sc q
  · obtain ⟨b, _, rfl⟩ := List.mem_map.1 hw; exact bitT_sc b
theorem rtext_len3 {q : Rq} (h : okq q = true) (hd : Ds q.num ∧ Ds q.den) : (rtext q).length ≤ 4900 := by
  unfold rtext
  split
  · rename_i hf
    have k := okq_ds h hf hd
    have h1 := dtext_le k.la
    have h2 := dtext_le k.lb
    unfold ntext
    split <;> split <;> simp <;> omega
  · unfold faultB
    split <;> decide
theorem fparse_rtext {q : Rq} (h : okq q = true) (hd : Ds q.num ∧ Ds q.den) : fparse (rtext q) = (q, 0) := parse_text h hd (rtext_len3 h hd)
theorem fq_ds (f : Int) : Ds (fq f).num ∧ Ds (fq f).den := ⟨fun _ h => (by cases h), fun _ h => (by cases h)⟩
theorem fparse_fault {f : Int} (h : f = 4 ∨ f = 11) : fparse (faultB f).data.toList = (fq f, 0) := by
  have := fparse_rtext (okq_fault h) (fq_ds f)
  have e : rtext (fq f) = (faultB f).data.toList := by rcases h with rfl | rfl <;> rfl
  rw [e] at this
  exact this
/-- A Rat's text begins with no letter. -/
theorem rtext_head (q : Rq) : ∃ c t, rtext q = c :: t ∧ c.toNat < 58 := by
  unfold rtext
  split
  · unfold ntext
    split
    · exact ⟨45, _, rfl, by decide⟩
    · obtain ⟨c, l, e, hc⟩ := dtext_cons (val q.num)
      rw [e]
      refine ⟨c, _, rfl, ?_⟩
      unfold isd at hc
      simp only [Bool.and_eq_true, decide_eq_true_eq] at hc
      omega
  · unfold faultB
    split
    · exact ⟨33, _, rfl, by decide⟩
    · exact ⟨33, _, rfl, by decide⟩
theorem rtext_ne (q : Rq) : rtext q ≠ yesT ∧ rtext q ≠ noT := by
  obtain ⟨c, t, e, hc⟩ := rtext_head q
  rw [e]
  constructor <;> (intro h; injection h with h; subst h; revert hc; decide)
/-! A value's words read -/
theorem stepW_num {q : Rq} (h : okq q = true) (hd : Ds q.num ∧ Ds q.den) : stepW 1 (rtext q) = some ([q], []) := by
  unfold stepW
  rw [fparse_rtext h hd, if_neg (by simp), if_neg (by simp), if_neg (by decide)]
theorem okb_parts {b : Bq} (h : okb b.f b.on = true) : b.f = 0 ∨ ((b.f = 4 ∨ b.f = 11) ∧ b.on = false) := by
  unfold okb at h
  simp only [Bool.or_eq_true, Bool.and_eq_true, beq_iff_eq, Bool.not_eq_true'] at h
  exact h
theorem stepW_bit {b : Bq} (h : okb b.f b.on = true) : stepW 2 (bitT b) = some ([], [b]) := by
  obtain ⟨f, on⟩ := b
  rcases okb_parts h with h0 | ⟨hf, ho⟩
  · have h0 : f = 0 := h0
    subst h0
    cases on
    · unfold stepW; rw [if_pos ⟨rfl, .inr rfl⟩]; rfl
    · unfold stepW; rw [if_pos ⟨rfl, .inl rfl⟩]; rfl
  · have ho : on = false := ho
    have hf : f = 4 ∨ f = 11 := hf
    subst ho
    have h0 : f ≠ 0 := by omega
    have e : bitT ⟨f, false⟩ = (faultB f).data.toList := by unfold bitT bitB; rw [if_pos h0]
    have hp := fparse_fault hf
    rw [e]
    unfold stepW
    rw [hp, if_neg, if_neg, if_pos rfl]
    · rfl
    · rintro (h | ⟨_, h⟩)
      · exact h rfl
      · exact h0 h
    · rintro ⟨_, h | h⟩
      · rcases hf with rfl | rfl <;> revert h <;> decide
      · rcases hf with rfl | rfl <;> revert h <;> decide
theorem readW_nums : ∀ (l : List Rq), (∀ q ∈ l, okq q = true ∧ Ds q.num ∧ Ds q.den) → readW 1 (l.map rtext) = some (l, [])
  | [], _ => rfl
  | q :: l, h => by
    have hq := h q List.mem_cons_self
    rw [List.map_cons, readW, stepW_num hq.1 hq.2]
    simp only
    rw [readW_nums l fun x hx => h x (List.mem_cons_of_mem _ hx)]
    rfl
theorem readW_bits : ∀ (l : List Bq), (∀ b ∈ l, okb b.f b.on = true) → readW 2 (l.map bitT) = some ([], l)
  | [], _ => rfl
  | b :: l, h => by
    rw [List.map_cons, readW, stepW_bit (h b List.mem_cons_self)]
    simp only
    rw [readW_bits l fun x hx => h x (List.mem_cons_of_mem _ hx)]
    rfl
theorem valOk_elems {v : Vq} (h : valOk v = true) : (v.k = 1 ∧ v.bits = [] ∧ ∀ q ∈ v.nums, okq q = true) ∨ (v.k = 2 ∧ v.nums = [] ∧ ∀ b ∈ v.bits, okb b.f b.on = true) := by
  unfold valOk at h
  simp only [Bool.and_eq_true] at h
  have h2 := h.2
  split at h2
  · rename_i hk
    simp only [Bool.and_eq_true, beq_iff_eq, Bool.not_eq_true'] at h2
    refine .inl ⟨hk, List.eq_nil_of_length_eq_zero (by omega), fun q hq => ?_⟩
    have := List.any_eq_false.1 h2.2 q hq
    simpa using this
  · split at h2
    · rename_i hk
      simp only [Bool.and_eq_true, beq_iff_eq, Bool.not_eq_true'] at h2
      refine .inr ⟨hk, List.eq_nil_of_length_eq_zero (by omega), fun q hq => ?_⟩
      have := List.any_eq_false.1 h2.2 q hq
      simpa using this
    · cases h2
theorem readW_words {v : Vq} (h : valOk v = true) (hg : Good v) : readW v.k (wordsV v) = some (v.nums, v.bits) := by
  unfold wordsV
  rcases valOk_elems h with ⟨hk, hb, hq⟩ | ⟨hk, hn, hb⟩
  · rw [if_pos hk, hk, hb]
    exact readW_nums _ fun q hq' => ⟨hq q hq', hg q hq'⟩
  · rw [if_neg (by omega), hk, hn]
    exact readW_bits _ hb
/-- What was read: words and elements. -/
theorem stepW_back {k : Int} {w : List UInt8} {a : List Rq} {b : List Bq} (hk : k = 1 ∨ k = 2) (h : stepW k w = some (a, b)) :
    (k = 1 ∧ b = [] ∧ ∃ q, a = [q] ∧ okq q = true ∧ (Ds q.num ∧ Ds q.den) ∧ rtext q = w) ∨ (k = 2 ∧ a = [] ∧ ∃ x : Bq, b = [x] ∧ okb x.f x.on = true ∧ bitT x = w) := by
  unfold stepW at h
  split at h
  · rename_i hy
    injection h with h; injection h with h1 h2
    subst h1 h2
    refine .inr ⟨hy.1, rfl, _, rfl, rfl, ?_⟩
    rcases hy.2 with rfl | rfl
    · rfl
    · rfl
  · split at h
    · cases h
    · rename_i hy hp
      have hp0 : (fparse w).2 = 0 := Classical.byContradiction fun e => hp (.inl e)
      have h1 : fparse w = ((fparse w).1, 0) := by rw [← hp0]
      obtain ⟨g1, g2, g3, g4, _⟩ := text_parse h1
      split at h
      · rename_i hk2
        injection h with h; injection h with h1 h2
        subst h1 h2
        have hf : (fparse w).1.f ≠ 0 := fun e => hp (.inr ⟨hk2, e⟩)
        have hq := okq_fq g1 hf
        have hf2 : (fparse w).1.f = 4 ∨ (fparse w).1.f = 11 := by
          unfold okq at g1
          rw [if_neg hf] at g1
          simp only [Bool.and_eq_true, Bool.or_eq_true, beq_iff_eq] at g1
          exact g1.1.1
        refine .inr ⟨hk2, rfl, _, rfl, ?_, ?_⟩
        · unfold okb
          rcases hf2 with e | e <;> simp [e]
        · unfold bitT bitB
          rw [if_pos hf]
          unfold rtext at g4
          rw [if_neg hf] at g4
          exact g4
      · rename_i hk2
        injection h with h; injection h with h1 h2
        subst h1 h2
        exact .inl ⟨hk.resolve_right hk2, rfl, _, rfl, g1, ⟨g2, g3⟩, g4⟩
theorem readW_back {k : Int} (hk : k = 1 ∨ k = 2) : ∀ {ws : List (List UInt8)} {ns : List Rq} {bts : List Bq}, readW k ws = some (ns, bts) →
    (k = 1 ∧ bts = [] ∧ ns.map rtext = ws ∧ ∀ q ∈ ns, okq q = true ∧ Ds q.num ∧ Ds q.den) ∨ (k = 2 ∧ ns = [] ∧ bts.map bitT = ws ∧ ∀ b ∈ bts, okb b.f b.on = true)
  | [], ns, bts, h => by
    injection h with h; injection h with h1 h2
    subst h1 h2
    rcases hk with hk | hk
    · exact .inl ⟨hk, rfl, rfl, fun _ h => by cases h⟩
    · exact .inr ⟨hk, rfl, rfl, fun _ h => by cases h⟩
  | w :: ws, ns, bts, h => by
    unfold readW at h
    split at h
    · cases h
    · rename_i a b hs
      split at h
      · cases h
      · rename_i ns' bts' hr
        injection h with h; injection h with h1 h2
        rcases stepW_back hk hs with ⟨k1, e1, q, e2, g1, g2, g3⟩ | ⟨k1, e1, x, e2, g1, g2⟩
        · rcases readW_back hk hr with ⟨_, f1, f2, f3⟩ | ⟨k2, _⟩
          · subst e1 e2 f1
            refine .inl ⟨k1, by rw [← h2]; rfl, by rw [← h1]; simp [g3, f2], ?_⟩
            rw [← h1]
            intro p hp
            rcases List.mem_cons.1 hp with rfl | hp
            · exact ⟨g1, g2⟩
            · exact f3 p hp
          · omega
        · rcases readW_back hk hr with ⟨k2, _⟩ | ⟨_, f1, f2, f3⟩
          · omega
          · subst e1 e2 f1
            refine .inr ⟨k1, by rw [← h1]; rfl, by rw [← h2]; simp [g2, f2], ?_⟩
            rw [← h2]
            intro p hp
            rcases List.mem_cons.1 hp with rfl | hp
            · exact g1
            · exact f3 p hp
theorem kindW_12 (ws : List (List UInt8)) : kindW ws = 1 ∨ kindW ws = 2 := by unfold kindW; split <;> simp
theorem any_not {α : Type} {p : α → Bool} {l : List α} (h : ∀ x ∈ l, p x = true) : (l.any fun x => !p x) = false := List.any_eq_false.2 fun x hx => by simp [h x hx]
theorem tyOk_of {k : Int} {ds : List Int} (hk : k = 1 ∨ k = 2) (hl : ds.length ≤ 3) (hd : ∀ x ∈ ds, 1 ≤ x ∧ x ≤ 8) : tyOk k ds = true := by
  unfold tyOk
  have h1 : ds.any badd = false := List.any_eq_false.2 fun x hx => by
    have := hd x hx
    unfold badd
    simp only [Bool.or_eq_true, decide_eq_true_eq]
    omega
  rw [h1, if_pos hk]
  simpa using hl
theorem valOk_of {k : Int} {ds : List Int} {ws : List (List UInt8)} {ns : List Rq} {bts : List Bq} (hk : k = 1 ∨ k = 2) (hl : ds.length ≤ 3) (hd : ∀ x ∈ ds, 1 ≤ x ∧ x ≤ 8) (hn : (ws.length : Int) = prodI ds) (h : readW k ws = some (ns, bts)) :
    valOk ⟨k, ds, ns, bts⟩ = true ∧ wordsV ⟨k, ds, ns, bts⟩ = ws ∧ Good ⟨k, ds, ns, bts⟩ := by
  have ht := tyOk_of hk hl hd
  rcases readW_back hk h with ⟨k1, e1, e2, e3⟩ | ⟨k1, e1, e2, e3⟩
  · subst k1 e1 e2
    rw [List.length_map] at hn
    refine ⟨?_, rfl, fun q hq => (e3 q hq).2⟩
    unfold valOk
    simp only [ht, Bool.true_and, if_true]
    rw [hn, any_not fun q hq => (e3 q hq).1]
    simp
  · subst k1 e1 e2
    rw [List.length_map] at hn
    refine ⟨?_, rfl, fun q hq => by cases hq⟩
    unfold valOk
    simp only [ht, Bool.true_and]
    rw [if_neg (by decide), if_pos trivial, hn, any_not e3]
    simp
/-- Show of Read is the text. -/
theorem show_read {s : List UInt8} {v : Vq} (h : readF s = (v, 0)) : valOk v = true ∧ Good v ∧ showV v = s ∧ takeF 3 s = some (v.ds, [], wordsV v) ∧ v.k = kindW (wordsV v) ∧ s.length ≤ 20000 := by
  unfold readF at h
  split at h
  · injection h with _ h; cases h
  · rename_i hl
    split at h
    · injection h with _ h; cases h
    · rename_i dims r ws ht
      split at h
      · rename_i hr
        subst hr
        split at h
        · injection h with _ h; cases h
        · rename_i ns bts hw
          injection h with h _
          subst h
          obtain ⟨t, hs, hF, ⟨h3, h8⟩, _⟩ := fm_takeF _ _ _ _ _ ht
          rw [List.append_nil] at hs
          obtain ⟨g1, g2, g3⟩ := valOk_of (kindW_12 ws) h3 h8 hF.len hw
          have hF2 := fm_show g1
          rw [g2] at hF2
          exact ⟨g1, g3, by rw [hs]; exact hF2.uniq hF, by rw [g2]; exact ht, by rw [g2], by omega⟩
      · injection h with _ h; cases h
theorem take_show {v : Vq} (h : valOk v = true) : takeF 3 (showV v) = some (v.ds, [], wordsV v) := by
  have hd := valOk_dims h
  have := takeF_fm 3 v.ds (wordsV v) (showV v) [] (fm_show h) hd.1 (fun d hm => (hd.2 d hm).2) (fun w hw => (words_sc v w hw).wd) (.inr (.inl rfl))
  rw [List.append_nil] at this
  exact this
/-- Read of Show. -/
theorem read_show {v : Vq} (h : valOk v = true) (hg : Good v) (hk : kindW (wordsV v) = v.k) (hl : (showV v).length ≤ 20000) : readF (showV v) = (v, 0) := by
  unfold readF
  rw [if_neg (by omega), take_show h]
  simp only [if_true]
  rw [hk, readW_words h hg]
/-! The specification's reading -/
theorem read_cases (s : List UInt8) : (∃ v, readF s = (v, 0)) ∨ readF s = (zeroV, if 20000 < s.length then 3 else 5) := by
  unfold readF
  split
  · exact .inr rfl
  · split
    · exact .inr rfl
    · split
      · split
        · exact .inr rfl
        · exact .inl ⟨_, rfl⟩
      · exact .inr rfl
end Go.Proofs.YtcbaipnphepbeaaGreatDoor
