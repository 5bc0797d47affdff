/- Contracts of shape and fluxionref03: Text of types. Rows of anything: lists the elements of which take k cells each. Contracts of shape: IsValue. append of rows of anything; slices.Clone of ints, Bits, Rats. -/
import Derived.Test.YtcbaipnphepbeaaGreatDoorNh
import Derived.Test.YtcbaipnphepbeaaGreatDoorNj
import Derived.Test.YtcbaipnphepbeaaGreatDoorNd
namespace Go.Proofs.YtcbaipnphepbeaaGreatDoor
open Go.RowKit

def tyB (k : Int) (ds : List Int) : ByteArray := ⟨(tyText k ds).toArray⟩
theorem dtext_dim {d : Int} (h : 1 ≤ d ∧ d ≤ 8) : (dtext d.toNat).length = 1 := by
  obtain ⟨i, rfl⟩ : ∃ i : Nat, d = (i : Int) := ⟨d.toNat, by omega⟩
  rw [Int.toNat_natCast, ← digits_small ⟨i, by omega⟩]
  have : i = 1 ∨ i = 2 ∨ i = 3 ∨ i = 4 ∨ i = 5 ∨ i = 6 ∨ i = 7 ∨ i = 8 := by omega
  rcases this with h | h | h | h | h | h | h | h <;> subst h <;> (simp [Lib.decDigits])
theorem dimsT_len : ∀ (ds : List Int), (∀ d ∈ ds, 1 ≤ d ∧ d ≤ 8) → (dimsT ds).length = 3 * ds.length
  | [], _ => rfl
  | d :: t, h => by
    have h1 := dimsT_len t fun x hx => h x (List.mem_cons_of_mem _ hx)
    have h2 := dtext_dim (h d (by simp))
    simp only [dimsT, List.flatMap_cons, List.length_append, List.length_cons] at h1 ⊢
    rw [h1]
    simp [dimT, h2]; omega
theorem tyB_snoc (k : Int) (ds : List Int) (d : Int) : tyB k (ds ++ [d]) = tyB k ds ++ (⟨#[91]⟩ ++ ⟨(dtext d.toNat).toArray⟩ ++ ⟨#[93]⟩) := by
  unfold tyB
  rw [show (⟨#[93]⟩ : ByteArray) = ⟨[93].toArray⟩ from rfl, show (⟨#[91]⟩ : ByteArray) = ⟨[91].toArray⟩ from rfl, bcat, bcat, bcat]
  simp [tyText, dimsT, dimT]
theorem kindB_size (k : Int) : (kindB k).size ≤ 5 := by
  unfold kindB
  split
  · decide
  · split <;> decide
theorem tyB_nil (k : Int) : tyB k [] = kindB k := by
  unfold tyB
  simp [tyText, dimsT]
theorem tyB_size {k : Int} {ds : List Int} (h : Dims ds) : (tyB k ds).size ≤ 14 := by
  have h1 := dimsT_len ds h.2
  have h2 := kindB_size k
  have h3 : (tyB k ds).size = (kindB k).size + (dimsT ds).length := by
    show (tyText k ds).toArray.size = _
    simp [tyText]
  have := h.1
  omega
theorem tyOk_kind {k : Int} {ds : List Int} (h : tyOk k ds = true) : k = 1 ∨ k = 2 ∨ k = 3 := by
  unfold tyOk at h
  by_cases h1 : k = 1 ∨ k = 2
  · omega
  · by_cases h3 : k = 3
    · omega
    · rw [if_neg h1, if_neg h3, Bool.and_false] at h; cases h

set_option maxHeartbeats 2000000 in
theorem shText_calls {w : World} {v : Value} {k : Int} {ds : List Int} (hg : Glob3 w) (h : TV w v k ds) (hd : tyOk k ds = true) {s : ByteArray} (hs : tyB k ds = s) :
    Calls Tryz.prog 32 #[v] w fun e w' => e = .returned (.tuple #[.string s, .int .i64 0]) ∧ Ext w w' := by
  have H := Aside.mk h
  have HT := Aside.mk hd
  have HD := Aside.mk (tyOk_dims hd)
  have hk1 := tyOk_kind hd
  obtain ⟨x, rfl, hi⟩ := h
  have HI := Aside.mk hi
  have hk0 := KTy.init w (.int .i64 k) x 25
  obtain ⟨A, c, rfl, hc, hl, _, _⟩ := hi
  obtain ⟨n, hn⟩ : ∃ n, ds.length = n := ⟨_, rfl⟩
  have HN := Aside.mk hn
  have HS := Aside.mk hs
  rw [hn] at hc hl HI hk0 H ⊢
  have hcell0 : ∀ w', Ext w w' → w'.cell? ⟨0, k.toNat, none⟩ = some (.string (kindB k)) := by
    intro w' e
    rcases hk1 with rfl | rfl | rfl
    · exact (hg.ext e).k1
    · exact (hg.ext e).k2
    · exact (hg.ext e).k3
  have hkr : 1 ≤ k ∧ k ≤ 3 := by omega
  have HC0 := Aside.mk hcell0
  have HK0 := Aside.mk (tyB_nil k)
  clear hg hd hn hs hk1 hcell0
  obtain ⟨kb, hkb⟩ : ∃ b, kindB k = b := ⟨_, rfl⟩
  rw [hkb] at HC0 HK0
  clear hkb
  go_enter Tryz.func32, Tryz.ntmps32
  go_wp2_with (go_at_call 34; with_reducible refine (isType_calls (H.out.ext hk0.1.out) HT.out).mono ?_; rintro e w1 ⟨rfl, he⟩; replace hk0 := KTy.ext he hk0; clear he; have hcell := HC0.out _ hk0.1.out)
  go_loop [4, 17] (fun t i => ∃ j : Nat, j ≤ n ∧ i = .int .i64 (j : Int) ∧ t = .string (tyB k (ds.take j))) (fun _ i => n - (intOf i).toNat)
  case atStart => exact ⟨0, by omega, rfl, by rw [List.take_zero, HK0.out]⟩
  case round =>
    obtain ⟨j, hj, rfl, rfl⟩ := hrel
    have hz1 := tyB_size (k := k) (HD.out.take j)
    by_cases hlt : j < n
    · obtain ⟨ad, rfl, hcell⟩ := (HI.out.ext hk0.1.out).at' j (by rw [HN.out]; exact hlt)
      have hx := HD.out.get (k := j) (by rw [HN.out]; exact hlt)
      have hz2 := tyB_size (k := k) (HD.out.take (j + 1))
      obtain ⟨d, hdd⟩ : ∃ d, ds.getD j 0 = d := ⟨_, rfl⟩
      have hst := take_succ_int ds j (by rw [HN.out]; exact hlt)
      rw [hdd] at hcell hx hst
      have hcat := tyB_snoc k (ds.take j) d
      rw [← hst] at hcat
      have hz3 : (⟨(dtext d.toNat).toArray⟩ : ByteArray).size ≤ 1 := by
        show (dtext d.toNat).toArray.size ≤ 1
        simp [dtext_dim hx]
      obtain ⟨sd, hsd⟩ : ∃ b, (⟨(dtext d.toNat).toArray⟩ : ByteArray) = b := ⟨_, rfl⟩
      have HSD := Aside.mk hsd
      have HX := Aside.mk hx
      rw [hsd] at hcat hz3
      have HCAT := Aside.mk hcat
      obtain ⟨sj, hsj⟩ : ∃ b, tyB k (ds.take j) = b := ⟨_, rfl⟩
      rw [hsj] at hz1 HCAT ⊢
      clear hdd hst hcat hsd hx hsj
      go_wp2_with (go_at_call 83; with_reducible refine (itoa_calls HX.out.1 HX.out.2 HSD.out).mono ?_; rintro e w2 ⟨rfl, rfl⟩)
      go_round
      case rel => exact ⟨j + 1, by omega, by go_num, by rw [HCAT.out]⟩
      case measure => simp [intOf]; omega
    · have hjn : j = n := by omega
      have HF : Aside (tyB k (ds.take j) = s) := ⟨by rw [← HS.out, hjn, ← HN.out, List.take_length]⟩
      rw [HF.out]
      go_wp2
      go_ret2
      exact ⟨rfl, hk0.1.out⟩
/-! ref03.Text -/
end Go.Proofs.YtcbaipnphepbeaaGreatDoor

namespace Go.Proofs.YtcbaipnphepbeaaGreatDoor
open Go.RowKit

section
variable {α : Type} {k : Nat} {R S : List Value → α → Prop}
/-- A flat row of elements, k cells each. -/
def Rows (k : Nat) (R : List Value → α → Prop) : List Value → List α → Prop
  | xs, [] => xs = []
  | xs, a :: l => ∃ c t, xs = c ++ t ∧ c.length = k ∧ R c a ∧ Rows k R t l
theorem Rows.length : ∀ {xs : List Value} {l : List α}, Rows k R xs l → xs.length = l.length * k
  | xs, [], h => by cases (show xs = [] from h); simp
  | xs, a :: l, h => by
    obtain ⟨c, t, rfl, hc, _, h⟩ := h
    have := h.length
    rw [List.length_append, List.length_cons, Nat.succ_mul]; omega
theorem Rows.append : ∀ {xs ys : List Value} {l m : List α}, Rows k R xs l → Rows k R ys m → Rows k R (xs ++ ys) (l ++ m)
  | xs, ys, [], m, h, h2 => by cases (show xs = [] from h); exact h2
  | xs, ys, a :: l, m, h, h2 => by
    obtain ⟨c, t, rfl, hc, ha, h⟩ := h
    exact ⟨c, t ++ ys, by simp, hc, ha, h.append h2⟩
theorem Rows.mono (hR : ∀ c a, R c a → S c a) : ∀ {xs : List Value} {l : List α}, Rows k R xs l → Rows k S xs l
  | xs, [], h => h
  | xs, a :: l, h => by
    obtain ⟨c, t, rfl, hc, ha, h⟩ := h
    exact ⟨c, t, rfl, hc, hR _ _ ha, h.mono hR⟩
theorem Rows.one {c : List Value} {a : α} (hc : c.length = k) (h : R c a) : Rows k R c [a] := ⟨c, [], by simp, hc, h, rfl⟩
theorem Rows.get : ∀ {xs : List Value} {l : List α} (j : Nat) {a : α}, Rows k R xs l → l[j]? = some a → ∃ c, c.length = k ∧ R c a ∧ ∀ i v, c[i]? = some v → xs[j * k + i]? = some v
  | xs, [], j, a, h, hj => by simp at hj
  | xs, b :: l, 0, a, h, hj => by
    obtain ⟨c, t, rfl, hc, ha, h⟩ := h
    simp at hj; subst hj
    refine ⟨c, hc, ha, fun i v hi => ?_⟩
    have : i < c.length := (List.getElem?_eq_some_iff.1 hi).1
    rw [Nat.zero_mul, Nat.zero_add, List.getElem?_append_left this]; exact hi
  | xs, b :: l, j + 1, a, h, hj => by
    obtain ⟨c, t, rfl, hc, ha, h⟩ := h
    obtain ⟨c', hc', ha', hg⟩ := h.get j (by simpa using hj)
    refine ⟨c', hc', ha', fun i v hi => ?_⟩
    rw [List.getElem?_append_right (by rw [hc, Nat.succ_mul]; omega), hc, show (j + 1) * k + i - k = j * k + i from by rw [Nat.succ_mul]; omega]
    exact hg i v hi
theorem Rows.drop : ∀ {xs : List Value} {l : List α} (j : Nat), Rows k R xs l → Rows k R (xs.drop (j * k)) (l.drop j)
  | xs, [], j, h => by cases (show xs = [] from h); simp [Rows]
  | xs, b :: l, 0, h => by simpa using h
  | xs, b :: l, j + 1, h => by
    obtain ⟨c, t, rfl, hc, ha, h⟩ := h
    rw [List.drop_succ_cons, Nat.succ_mul, Nat.add_comm, ← List.drop_drop, ← hc, List.drop_left, hc]
    exact h.drop j
theorem Rows.take : ∀ {xs : List Value} {l : List α} (j : Nat), Rows k R xs l → Rows k R (xs.take (j * k)) (l.take j)
  | xs, [], j, h => by cases (show xs = [] from h); simp [Rows]
  | xs, b :: l, 0, h => by simp [Rows]
  | xs, b :: l, j + 1, h => by
    obtain ⟨c, t, rfl, hc, ha, h⟩ := h
    rw [List.take_succ_cons]
    refine ⟨c, t.take (j * k), ?_, hc, ha, h.take j⟩
    rw [Nat.succ_mul, Nat.add_comm, ← hc, List.take_length_add_append]
end
section
variable {α : Type}
/-- A slice that reads as a list. -/
def SV (k : Nat) (R : World → List Value → α → Prop) (w : World) (v : Value) (l : List α) : Prop :=
  ∃ A c xs, v = .slice A l.length c ∧ l.length ≤ c ∧ l.length ≤ 1073741824 ∧ (∀ ad, A = some ad → ad.spot = none) ∧ Rd w A xs ∧ Rows k (R w) xs l
/-- A slice that the call owns and that reads as a list. -/
def SO (base : Nat) (e : TypeId) (k : Nat) (R : World → List Value → α → Prop) (w : World) (v : Value) (l : List α) : Prop :=
  ∃ xs, w.ownsRow base e k v l.length xs ∧ l.length ≤ 1073741824 ∧ Rows k (R w) xs l
/-- A relation that outlives a growing world. -/
def Grows (R : World → List Value → α → Prop) : Prop := ∀ (w w' : World) (c : List Value) (a : α), Ext w w' → R w c a → R w' c a
theorem SV.ext {k : Nat} {R : World → List Value → α → Prop} (hR : Grows R) {w w' : World} {v : Value} {l : List α} (h : SV k R w v l) (e : Ext w w') : SV k R w' v l := by
  obtain ⟨A, c, xs, h1, h2, h3, h4, h5, h6⟩ := h
  exact ⟨A, c, xs, h1, h2, h3, h4, h5.ext e, h6.mono fun c a => hR _ _ c a e⟩
theorem SV.form {k : Nat} {R : World → List Value → α → Prop} {w : World} {v : Value} {l : List α} (h : SV k R w v l) : ∃ A c, v = .slice A l.length c ∧ l.length ≤ c ∧ l.length ≤ 1073741824 :=
  let ⟨A, c, _, h1, h2, h3, _⟩ := h; ⟨A, c, h1, h2, h3⟩
theorem SV.at' {k : Nat} {R : World → List Value → α → Prop} {w : World} {A : Option Addr} {n c : Nat} {l : List α} (hk : 0 < k) (h : SV k R w (.slice A n c) l) (j : Nat) {a : α} (hj : l[j]? = some a) :
    ∃ ad cs, A = some ad ∧ cs.length = k ∧ R w cs a ∧ ∀ i v, cs[i]? = some v → w.cell? (ad.add (j * k + i)) = some v := by
  obtain ⟨A', c', xs, e, _, _, _, h5, h6⟩ := h
  injection e with e1 e2 e3
  subst e1
  obtain ⟨cs, h7, h8, h9⟩ := h6.get j hj
  obtain ⟨v0, hv0⟩ : ∃ v, cs[0]? = some v := ⟨cs[0], List.getElem?_eq_getElem (by omega)⟩
  obtain ⟨ad, rfl, _⟩ := h5 _ _ (h9 0 v0 hv0)
  exact ⟨ad, cs, rfl, h7, h8, fun i v hi => h5.cell1 _ _ (h9 i v hi)⟩
theorem SV.spot {k : Nat} {R : World → List Value → α → Prop} {w : World} {A : Option Addr} {n c : Nat} {l : List α} (h : SV k R w (.slice A n c) l) : ∀ ad, A = some ad → ad.spot = none := by
  obtain ⟨A', c', xs, e, _, _, h4, _⟩ := h
  injection e with e1 e2 e3
  subst e1
  exact h4
theorem SV.nil {k : Nat} {R : World → List Value → α → Prop} {w : World} : SV k R w (.slice none 0 0) ([] : List α) :=
  ⟨none, 0, [], rfl, Nat.le_refl _, Nat.zero_le _, (fun _ h => by cases h), (fun j v h => by simp at h), rfl⟩
theorem SO.sv {base : Nat} {e : TypeId} {k : Nat} {R : World → List Value → α → Prop} {w : World} {v : Value} {l : List α} (h : SO base e k R w v l) : SV k R w v l := by
  obtain ⟨xs, ho, hl, hr⟩ := h
  rcases ho.2 with ⟨rfl, h0⟩ | ⟨g, cap, cur, rfl, _, _, hc, _⟩
  · have : l = [] := List.eq_nil_of_length_eq_zero h0
    subst this
    exact SV.nil
  · exact ⟨some ⟨g, 0, none⟩, cap, xs, rfl, hc, hl, (fun ad h => by injection h with h; rw [← h]), fun j v hj => ⟨_, rfl, ho.cells (g := g) rfl j v hj⟩, hr⟩
theorem SO.nil {base : Nat} {e : TypeId} {k : Nat} {R : World → List Value → α → Prop} {w : World} : SO base e k R w (.slice none 0 0) ([] : List α) :=
  ⟨[], World.ownsRow_nil _ _ _ _, Nat.zero_le _, rfl⟩
theorem SO.mono {b b' : Nat} {e : TypeId} {k : Nat} {R : World → List Value → α → Prop} {w : World} {v : Value} {l : List α} (h : SO b e k R w v l) (hb : b' ≤ b) : SO b' e k R w v l := by
  obtain ⟨xs, ho, hl, hr⟩ := h
  refine ⟨xs, ⟨ho.1, ?_⟩, hl, hr⟩
  rcases ho.2 with h' | ⟨g, cap, cur, h1, h2, h3⟩
  · exact .inl h'
  · exact .inr ⟨g, cap, cur, h1, Nat.le_trans hb h2, h3⟩
end

theorem cells_at {w : World} {ad : Addr} {cs : List Value} {n : Nat} (hs : ad.spot = none) (h : ∀ i v, cs[i]? = some v → w.cell? (ad.add (n + i)) = some v) (i : Nat) {v : Value} (hi : cs[i]? = some v) : w.cell? ⟨ad.block, ad.off + n + i, none⟩ = some v := by
  have := h i v hi
  rw [(addr_of hs (n + i)).2, ← Nat.add_assoc] at this
  exact this
/-! Rats -/
def RatC (w : World) (c : List Value) (q : Rq) : Prop := ∃ x y, c = [.int .i64 q.f, .bool q.neg, x, y] ∧ RV w x q.num ∧ RV w y q.den
/-- A slice of Rats. -/
abbrev QV : World → Value → List Rq → Prop := SV 4 RatC
theorem RatC.ext : Grows RatC := fun _ _ _ _ e h => let ⟨x, y, h1, h2, h3⟩ := h; ⟨x, y, h1, h2.ext e, h3.ext e⟩
theorem QV.at' {w : World} {A : Option Addr} {n c : Nat} {l : List Rq} (h : QV w (.slice A n c) l) (j : Nat) {q : Rq} (hj : l[j]? = some q) :
    ∃ b o x y, A = some ⟨b, o, none⟩ ∧ w.cell? ⟨b, o + j * 4, none⟩ = some (.int .i64 q.f) ∧ w.cell? ⟨b, o + j * 4 + 1, none⟩ = some (.bool q.neg) ∧ w.cell? ⟨b, o + j * 4 + 2, none⟩ = some x ∧ w.cell? ⟨b, o + j * 4 + 3, none⟩ = some y ∧ RR w (.agg #[.int .i64 q.f, .bool q.neg, x, y]) q := by
  have hs := h.spot
  obtain ⟨ad, cs, rfl, h1, ⟨x, y, rfl, hx, hy⟩, h3⟩ := SV.at' (by decide) h j hj
  have h4 := cells_at (hs ad rfl) h3
  exact ⟨ad.block, ad.off, x, y, by rw [← (addr_of (hs ad rfl) 0).1], h4 0 rfl, h4 1 rfl, h4 2 rfl, h4 3 rfl, x, y, rfl, hx, hy⟩
/-! Bits -/
structure Bq where
  f : Int
  on : Bool
deriving DecidableEq
def BitC (_ : World) (c : List Value) (b : Bq) : Prop := c = [.int .i64 b.f, .bool b.on]
abbrev BV : World → Value → List Bq → Prop := SV 2 BitC
theorem BitC.ext : Grows BitC := fun _ _ _ _ _ h => h
theorem BV.at' {w : World} {A : Option Addr} {n c : Nat} {l : List Bq} (h : BV w (.slice A n c) l) (j : Nat) {q : Bq} (hj : l[j]? = some q) :
    ∃ b o, A = some ⟨b, o, none⟩ ∧ w.cell? ⟨b, o + j * 2, none⟩ = some (.int .i64 q.f) ∧ w.cell? ⟨b, o + j * 2 + 1, none⟩ = some (.bool q.on) := by
  have hs := h.spot
  obtain ⟨ad, cs, rfl, h1, rfl, h3⟩ := SV.at' (by decide) h j hj
  have h4 := cells_at (hs ad rfl) h3
  exact ⟨ad.block, ad.off, by rw [← (addr_of (hs ad rfl) 0).1], h4 0 rfl, h4 1 rfl⟩
/-! Values -/
structure Vq where
  k : Int
  ds : List Int
  nums : List Rq
  bits : List Bq
def ValC (w : World) (c : List Value) (v : Vq) : Prop := ∃ d n b, c = [.int .i64 v.k, d, n, b] ∧ IV w d v.ds ∧ QV w n v.nums ∧ BV w b v.bits
theorem ValC.ext : Grows ValC := fun _ _ _ _ e h => let ⟨d, n, b, h1, h2, h3, h4⟩ := h; ⟨d, n, b, h1, h2.ext e, h3.ext RatC.ext e, h4.ext BitC.ext e⟩
/-- A slice of Values. -/
abbrev LV : World → Value → List Vq → Prop := SV 4 ValC
/-- A value. -/
def VV (w : World) (x : Value) (v : Vq) : Prop := ∃ d n b, x = .agg #[.int .i64 v.k, d, n, b] ∧ IV w d v.ds ∧ QV w n v.nums ∧ BV w b v.bits
theorem VV.ext {w w' : World} {x : Value} {v : Vq} (h : VV w x v) (e : Ext w w') : VV w' x v := let ⟨d, n, b, h1, h2, h3, h4⟩ := h; ⟨d, n, b, h1, h2.ext e, h3.ext RatC.ext e, h4.ext BitC.ext e⟩
theorem LV.at' {w : World} {A : Option Addr} {n c : Nat} {l : List Vq} (h : LV w (.slice A n c) l) (j : Nat) {q : Vq} (hj : l[j]? = some q) :
    ∃ b o d x y, A = some ⟨b, o, none⟩ ∧ w.cell? ⟨b, o + j * 4, none⟩ = some (.int .i64 q.k) ∧ w.cell? ⟨b, o + j * 4 + 1, none⟩ = some d ∧ w.cell? ⟨b, o + j * 4 + 2, none⟩ = some x ∧ w.cell? ⟨b, o + j * 4 + 3, none⟩ = some y ∧ VV w (.agg #[.int .i64 q.k, d, x, y]) q := by
  have hs := h.spot
  obtain ⟨ad, cs, rfl, h1, ⟨d, x, y, rfl, hd, hx, hy⟩, h3⟩ := SV.at' (by decide) h j hj
  have h4 := cells_at (hs ad rfl) h3
  exact ⟨ad.block, ad.off, d, x, y, by rw [← (addr_of (hs ad rfl) 0).1], h4 0 rfl, h4 1 rfl, h4 2 rfl, h4 3 rfl, d, x, y, rfl, hd, hx, hy⟩

/-- IndexFunc over Rats, Bits, Values. -/
theorem indexRat_calls {w : World} {F : FuncId} {v : Value} {l : List Rq} {p : Rq → Bool} (hC : ∀ args w, Sem.run Tryz.prog (callFunc F args) w = .ok (.enter F args) w) (h : QV w v l)
    (hF : ∀ w' x q, Ext w w' → RR w' x q → Calls Tryz.prog F #[x] w' fun e w2 => e = .returned (.bool (p q)) ∧ Ext w' w2) :
    Calls Tryz.prog 102 #[v, .func (.func F) #[] #[]] w fun e w' => (∃ r : Int, e = .returned (.int .i64 r) ∧ decide (0 ≤ r) = l.any p) ∧ Ext w w' := by
  obtain ⟨A, c, rfl, hc, hl⟩ := h.form
  have H := Aside.mk h
  have HF := Aside.mk hF
  clear h hF
  obtain ⟨n, hn⟩ : ∃ n, l.length = n := ⟨_, rfl⟩
  have HN := Aside.mk hn
  rw [hn] at hc hl H ⊢
  clear hn
  go_enter Tryz.func102, Tryz.ntmps102
  go_wp2
  go_loopw [8] (fun i wr => ∃ k : Nat, k ≤ n ∧ i = .int .i64 (k : Int) ∧ Aside ((l.take k).any p = false) ∧ Aside (Ext w wr)) (fun i _ => n - (intOf i).toNat)
  case atStart => exact ⟨0, by omega, rfl, ⟨by simp⟩, ⟨Ext.refl w⟩⟩
  case round =>
    obtain ⟨k, hk, rfl, HP, HE⟩ := hrel
    by_cases hlt : k < n
    · obtain ⟨q, hq⟩ : ∃ q, l[k]? = some q := ⟨l[k]'(by rw [HN.out]; exact hlt), List.getElem?_eq_getElem _⟩
      obtain ⟨b0, o0, x, y, rfl, hc0, hc1, hc2, hc3, hrr⟩ := QV.at' (SV.ext RatC.ext H.out HE.out) k hq; have HR := Aside.mk hrr; clear hrr
      have HG := Aside.mk hq
      obtain ⟨b, hb⟩ : ∃ b, p q = b := ⟨_, rfl⟩
      have HB := Aside.mk hb
      clear hb hq
      cases b
      · have HP2 : Aside ((l.take (k + 1)).any p = false) := ⟨by rw [List.take_add_one, HG.out, List.any_append, HP.out]; simp [HB.out]⟩
        go_wp2_with (with_reducible refine (HF.out _ _ _ HE.out HR.out).mono ?_; rw [HB.out]; rintro e w2 ⟨rfl, he⟩; have HE2 := Aside.mk (HE.out.trans he); clear he)
        go_roundw
        case rel => exact ⟨k + 1, by omega, by go_num, HP2, HE2⟩
        case measure => simp [intOf]; omega
      · have HT : Aside (l.any p = true) := ⟨List.any_eq_true.2 ⟨q, List.mem_of_getElem? HG.out, HB.out⟩⟩
        go_wp2_with (with_reducible refine (HF.out _ _ _ HE.out HR.out).mono ?_; rw [HB.out]; rintro e w2 ⟨rfl, he⟩; have HE2 := Aside.mk (HE.out.trans he); clear he)
        go_ret
        exact ⟨⟨_, rfl, by rw [HT.out]; simp⟩, HE2.out⟩
    · have hkn : k = n := by omega
      have HT : Aside (l.any p = false) := ⟨by have := HP.out; rw [hkn, ← HN.out, List.take_length] at this; exact this⟩
      go_wp2
      go_ret
      exact ⟨⟨_, rfl, by rw [HT.out]; rfl⟩, HE.out⟩
theorem indexBit_calls {w : World} {F : FuncId} {v : Value} {l : List Bq} {p : Bq → Bool} (hC : ∀ args w, Sem.run Tryz.prog (callFunc F args) w = .ok (.enter F args) w) (h : BV w v l)
    (hF : ∀ w' q, Ext w w' → Calls Tryz.prog F #[.agg #[.int .i64 q.f, .bool q.on]] w' fun e w2 => e = .returned (.bool (p q)) ∧ Ext w' w2) :
    Calls Tryz.prog 107 #[v, .func (.func F) #[] #[]] w fun e w' => (∃ r : Int, e = .returned (.int .i64 r) ∧ decide (0 ≤ r) = l.any p) ∧ Ext w w' := by
  obtain ⟨A, c, rfl, hc, hl⟩ := h.form
  have H := Aside.mk h
  have HF := Aside.mk hF
  clear h hF
  obtain ⟨n, hn⟩ : ∃ n, l.length = n := ⟨_, rfl⟩
  have HN := Aside.mk hn
  rw [hn] at hc hl H ⊢
  clear hn
  go_enter Tryz.func107, Tryz.ntmps107
  go_wp2
  go_loopw [8] (fun i wr => ∃ k : Nat, k ≤ n ∧ i = .int .i64 (k : Int) ∧ Aside ((l.take k).any p = false) ∧ Aside (Ext w wr)) (fun i _ => n - (intOf i).toNat)
  case atStart => exact ⟨0, by omega, rfl, ⟨by simp⟩, ⟨Ext.refl w⟩⟩
  case round =>
    obtain ⟨k, hk, rfl, HP, HE⟩ := hrel
    by_cases hlt : k < n
    · obtain ⟨q, hq⟩ : ∃ q, l[k]? = some q := ⟨l[k]'(by rw [HN.out]; exact hlt), List.getElem?_eq_getElem _⟩
      obtain ⟨b0, o0, rfl, hc0, hc1⟩ := BV.at' (SV.ext BitC.ext H.out HE.out) k hq
      have HG := Aside.mk hq
      obtain ⟨b, hb⟩ : ∃ b, p q = b := ⟨_, rfl⟩
      have HB := Aside.mk hb
      clear hb hq
      cases b
      · have HP2 : Aside ((l.take (k + 1)).any p = false) := ⟨by rw [List.take_add_one, HG.out, List.any_append, HP.out]; simp [HB.out]⟩
        go_wp2_with (with_reducible refine (HF.out _ q HE.out).mono ?_; rw [HB.out]; rintro e w2 ⟨rfl, he⟩; have HE2 := Aside.mk (HE.out.trans he); clear he)
        go_roundw
        case rel => exact ⟨k + 1, by omega, by go_num, HP2, HE2⟩
        case measure => simp [intOf]; omega
      · have HT : Aside (l.any p = true) := ⟨List.any_eq_true.2 ⟨q, List.mem_of_getElem? HG.out, HB.out⟩⟩
        go_wp2_with (with_reducible refine (HF.out _ q HE.out).mono ?_; rw [HB.out]; rintro e w2 ⟨rfl, he⟩; have HE2 := Aside.mk (HE.out.trans he); clear he)
        go_ret
        exact ⟨⟨_, rfl, by rw [HT.out]; simp⟩, HE2.out⟩
    · have hkn : k = n := by omega
      have HT : Aside (l.any p = false) := ⟨by have := HP.out; rw [hkn, ← HN.out, List.take_length] at this; exact this⟩
      go_wp2
      go_ret
      exact ⟨⟨_, rfl, by rw [HT.out]; rfl⟩, HE.out⟩
theorem indexVal_calls {w : World} {F : FuncId} {v : Value} {l : List Vq} {p : Vq → Bool} (hC : ∀ args w, Sem.run Tryz.prog (callFunc F args) w = .ok (.enter F args) w) (h : LV w v l)
    (hF : ∀ w' x q, Ext w w' → VV w' x q → Calls Tryz.prog F #[x] w' fun e w2 => e = .returned (.bool (p q)) ∧ Ext w' w2) :
    Calls Tryz.prog 128 #[v, .func (.func F) #[] #[]] w fun e w' => (∃ r : Int, e = .returned (.int .i64 r) ∧ decide (0 ≤ r) = l.any p) ∧ Ext w w' := by
  obtain ⟨A, c, rfl, hc, hl⟩ := h.form
  have H := Aside.mk h
  have HF := Aside.mk hF
  clear h hF
  obtain ⟨n, hn⟩ : ∃ n, l.length = n := ⟨_, rfl⟩
  have HN := Aside.mk hn
  rw [hn] at hc hl H ⊢
  clear hn
  go_enter Tryz.func128, Tryz.ntmps128
  go_wp2
  go_loopw [8] (fun i wr => ∃ k : Nat, k ≤ n ∧ i = .int .i64 (k : Int) ∧ Aside ((l.take k).any p = false) ∧ Aside (Ext w wr)) (fun i _ => n - (intOf i).toNat)
  case atStart => exact ⟨0, by omega, rfl, ⟨by simp⟩, ⟨Ext.refl w⟩⟩
  case round =>
    obtain ⟨k, hk, rfl, HP, HE⟩ := hrel
    by_cases hlt : k < n
    · obtain ⟨q, hq⟩ : ∃ q, l[k]? = some q := ⟨l[k]'(by rw [HN.out]; exact hlt), List.getElem?_eq_getElem _⟩
      obtain ⟨b0, o0, d, x, y, rfl, hc0, hc1, hc2, hc3, hrr⟩ := LV.at' (SV.ext ValC.ext H.out HE.out) k hq; have HR := Aside.mk hrr; clear hrr
      have HG := Aside.mk hq
      obtain ⟨b, hb⟩ : ∃ b, p q = b := ⟨_, rfl⟩
      have HB := Aside.mk hb
      clear hb hq
      cases b
      · have HP2 : Aside ((l.take (k + 1)).any p = false) := ⟨by rw [List.take_add_one, HG.out, List.any_append, HP.out]; simp [HB.out]⟩
        go_wp2_with (with_reducible refine (HF.out _ _ _ HE.out HR.out).mono ?_; rw [HB.out]; rintro e w2 ⟨rfl, he⟩; have HE2 := Aside.mk (HE.out.trans he); clear he)
        go_roundw
        case rel => exact ⟨k + 1, by omega, by go_num, HP2, HE2⟩
        case measure => simp [intOf]; omega
      · have HT : Aside (l.any p = true) := ⟨List.any_eq_true.2 ⟨q, List.mem_of_getElem? HG.out, HB.out⟩⟩
        go_wp2_with (with_reducible refine (HF.out _ _ _ HE.out HR.out).mono ?_; rw [HB.out]; rintro e w2 ⟨rfl, he⟩; have HE2 := Aside.mk (HE.out.trans he); clear he)
        go_ret
        exact ⟨⟨_, rfl, by rw [HT.out]; simp⟩, HE2.out⟩
    · have hkn : k = n := by omega
      have HT : Aside (l.any p = false) := ⟨by have := HP.out; rw [hkn, ← HN.out, List.take_length] at this; exact this⟩
      go_wp2
      go_ret
      exact ⟨⟨_, rfl, by rw [HT.out]; rfl⟩, HE.out⟩
theorem containsRat_calls {w : World} {F : FuncId} {v : Value} {l : List Rq} {p : Rq → Bool} {b : Bool} (hC : ∀ args w, Sem.run Tryz.prog (callFunc F args) w = .ok (.enter F args) w) (h : QV w v l) (hb : l.any p = b)
    (hF : ∀ w' x q, Ext w w' → RR w' x q → Calls Tryz.prog F #[x] w' fun e w2 => e = .returned (.bool (p q)) ∧ Ext w' w2) :
    Calls Tryz.prog 59 #[v, .func (.func F) #[] #[]] w fun e w' => e = .returned (.bool b) ∧ Ext w w' := by
  have H := Aside.mk h
  have HF := Aside.mk hF
  obtain ⟨A, c, rfl, _⟩ := h.form
  have HB := Aside.mk hb
  clear h hb hF
  go_enter Tryz.func59, Tryz.ntmps59
  go_wp2_with (go_at_call 102; refine (indexRat_calls hC H.out HF.out).mono ?_; rintro e w1 ⟨⟨r, rfl, hr⟩, he⟩)
  go_ret
  exact ⟨by rw [← HB.out, ← hr]; rfl, he⟩
theorem containsBit_calls {w : World} {F : FuncId} {v : Value} {l : List Bq} {p : Bq → Bool} {b : Bool} (hC : ∀ args w, Sem.run Tryz.prog (callFunc F args) w = .ok (.enter F args) w) (h : BV w v l) (hb : l.any p = b)
    (hF : ∀ w' q, Ext w w' → Calls Tryz.prog F #[.agg #[.int .i64 q.f, .bool q.on]] w' fun e w2 => e = .returned (.bool (p q)) ∧ Ext w' w2) :
    Calls Tryz.prog 62 #[v, .func (.func F) #[] #[]] w fun e w' => e = .returned (.bool b) ∧ Ext w w' := by
  have H := Aside.mk h
  have HF := Aside.mk hF
  obtain ⟨A, c, rfl, _⟩ := h.form
  have HB := Aside.mk hb
  clear h hb hF
  go_enter Tryz.func62, Tryz.ntmps62
  go_wp2_with (go_at_call 107; refine (indexBit_calls hC H.out HF.out).mono ?_; rintro e w1 ⟨⟨r, rfl, hr⟩, he⟩)
  go_ret
  exact ⟨by rw [← HB.out, ← hr]; rfl, he⟩
theorem containsVal_calls {w : World} {F : FuncId} {v : Value} {l : List Vq} {p : Vq → Bool} {b : Bool} (hC : ∀ args w, Sem.run Tryz.prog (callFunc F args) w = .ok (.enter F args) w) (h : LV w v l) (hb : l.any p = b)
    (hF : ∀ w' x q, Ext w w' → VV w' x q → Calls Tryz.prog F #[x] w' fun e w2 => e = .returned (.bool (p q)) ∧ Ext w' w2) :
    Calls Tryz.prog 91 #[v, .func (.func F) #[] #[]] w fun e w' => e = .returned (.bool b) ∧ Ext w w' := by
  have H := Aside.mk h
  have HF := Aside.mk hF
  obtain ⟨A, c, rfl, _⟩ := h.form
  have HB := Aside.mk hb
  clear h hb hF
  go_enter Tryz.func91, Tryz.ntmps91
  go_wp2_with (go_at_call 128; refine (indexVal_calls hC H.out HF.out).mono ?_; rintro e w1 ⟨⟨r, rfl, hr⟩, he⟩)
  go_ret
  exact ⟨by rw [← HB.out, ← hr]; rfl, he⟩
end Go.Proofs.YtcbaipnphepbeaaGreatDoor

namespace Go.Proofs.YtcbaipnphepbeaaGreatDoor
open Go.RowKit

/-- Is a value one? -/
def valOk (v : Vq) : Bool :=
  tyOk v.k v.ds && (if v.k = 1 then ((v.nums.length : Int) == prodI v.ds) && ((v.bits.length : Int) == 0) && !(v.nums.any fun q => !okq q)
    else if v.k = 2 then ((v.bits.length : Int) == prodI v.ds) && ((v.nums.length : Int) == 0) && !(v.bits.any fun b => !okb b.f b.on) else false)
theorem badRat_calls {w : World} {x : Value} {q : Rq} (h : RR w x q) :
    Calls Tryz.prog 60 #[x] w fun e w' => e = .returned (.bool (!okq q)) ∧ Ext w w' := by
  have H := Aside.mk h
  obtain ⟨b, hb⟩ : ∃ b, okq q = b := ⟨_, rfl⟩
  rw [hb]
  have HB := Aside.mk hb
  obtain ⟨A, c, B, d, rfl⟩ := h.form
  have hk0 := KeepB.init w (.int .i64 q.f) (.bool q.neg) (.slice A q.num.length c) (.slice B q.den.length d) 83
  clear h hb
  go_enter Tryz.func60, Tryz.ntmps60
  go_wp2_with (go_at_call 61; with_reducible refine (israt_b (H.out.ext hk0.1.out) HB.out).mono ?_; rintro e w1 ⟨rfl, he⟩; replace hk0 := KeepB.ext he hk0; clear he)
  go_ret
  exact ⟨rfl, hk0.1.out⟩
/-- A box of two cells. -/
theorem badBit_calls {w : World} {q : Bq} :
    Calls Tryz.prog 63 #[.agg #[.int .i64 q.f, .bool q.on]] w fun e w' => e = .returned (.bool (!okb q.f q.on)) ∧ Ext w w' := by
  have hk0 := KTy.init w (.int .i64 q.f) (.bool q.on) 46
  go_enter Tryz.func63, Tryz.ntmps63
  go_wp2_with (go_at_call 64; with_reducible refine isbit_calls.mono ?_; rintro e w1 ⟨rfl, he⟩; replace hk0 := KTy.ext he hk0; clear he)
  go_ret
  exact ⟨rfl, hk0.1.out⟩
theorem VV.ty {w : World} {k : Int} {d n b : Value} {v : Vq} (h : VV w (.agg #[.int .i64 k, d, n, b]) v) : k = v.k ∧ TV w (.agg #[.int .i64 k, d]) v.k v.ds ∧ QV w n v.nums ∧ BV w b v.bits := by
  obtain ⟨d', n', b', e, h1, h2, h3⟩ := h
  simp only [Value.agg.injEq, Array.mk.injEq, List.cons.injEq, Value.int.injEq, true_and, and_true] at e
  obtain ⟨rfl, rfl, rfl, rfl⟩ := e
  exact ⟨rfl, ⟨_, rfl, h1⟩, h2, h3⟩
set_option maxHeartbeats 4000000 in
theorem isValue_calls {w : World} {x : Value} {v : Vq} {t : Bool} (h : VV w x v) (ht : valOk v = t) :
    Calls Tryz.prog 15 #[x] w fun e w' => e = .returned (.bool t) ∧ Ext w w' := by
  obtain ⟨d, n, b, rfl, hd, hn, hb⟩ := h
  obtain ⟨k, ds, nums, bits⟩ := v
  unfold valOk at ht
  dsimp only at hd hn hb ht ⊢
  have HTV : Aside (TV w (.agg #[.int .i64 k, d]) k ds) := ⟨_, rfl, hd⟩
  have HN := Aside.mk hn
  have HBV := Aside.mk hb
  obtain ⟨A, c, rfl, hc, hl⟩ := hn.form
  obtain ⟨B, c2, rfl, hc2, hl2⟩ := hb.form
  have hk0 := KeepB.init w (.int .i64 k) d (.slice A nums.length c) (.slice B bits.length c2) 29
  obtain ⟨t0, ht0⟩ : ∃ t, tyOk k ds = t := ⟨_, rfl⟩
  have HT := Aside.mk ht0
  rw [ht0] at ht
  clear hd hn hb
  cases t0
  · have HV : Aside (t = false) := ⟨by rw [← ht]; rfl⟩
    clear ht ht0
    go_enter Tryz.func15, Tryz.ntmps15
    go_wp2_with (first | (go_at_call 34; with_reducible refine (isType_calls (HTV.out.ext hk0.1.out) HT.out).mono ?_; rintro e w1 ⟨rfl, he⟩; replace hk0 := KeepB.ext he hk0; clear he) | (go_at_call 58; with_reducible refine (shSize_calls (HTV.out.ext hk0.1.out) HD.out).mono ?_; rw [HP.out]; rintro e w1 ⟨rfl, he⟩; replace hk0 := KeepB.ext he hk0; clear he) | (go_at_call 59; with_reducible refine (containsRat_calls (p := fun q => !okq q) HC.out (HN.out.ext RatC.ext hk0.1.out) HA.out (fun w' x q _ h => badRat_calls h)).mono ?_; rintro e w1 ⟨rfl, he⟩; replace hk0 := KeepB.ext he hk0; clear he) | (go_at_call 62; with_reducible refine (containsBit_calls (p := fun q => !okb q.f q.on) HC.out (HBV.out.ext BitC.ext hk0.1.out) HA.out (fun w' q _ => badBit_calls)).mono ?_; rintro e w1 ⟨rfl, he⟩; replace hk0 := KeepB.ext he hk0; clear he))
    go_ret
    exact ⟨by rw [HV.out]; rfl, hk0.1.out⟩
  · have HD := Aside.mk (tyOk_dims ht0)
    obtain ⟨p, hp⟩ : ∃ p, prodI ds = p := ⟨_, rfl⟩
    have HP := Aside.mk hp
    rw [hp] at ht
    clear ht0 hp
    by_cases h1 : k = 1
    · have hk1 : (k == 1) = true := by simp [h1]
      rw [if_pos h1] at ht
      obtain ⟨b1, hb1⟩ : ∃ b, ((nums.length : Int) == p) = b := ⟨_, rfl⟩
      obtain ⟨b2, hb2⟩ : ∃ b, ((bits.length : Int) == 0) = b := ⟨_, rfl⟩
      obtain ⟨b3, hb3⟩ : ∃ b, (nums.any fun q => !okq q) = b := ⟨_, rfl⟩
      rw [hb1, hb2, hb3] at ht
      have HA := Aside.mk hb3
      have HC : Aside (∀ args w, Sem.run Tryz.prog (callFunc 60 args) w = .ok (.enter 60 args) w) := ⟨by intro args w; simp [go_sem]⟩
      clear h1 hb3
      generalize nums.length = ln at *
      generalize bits.length = lb at *
      cases b1
      · have HV : Aside (t = false) := ⟨by rw [← ht]; rfl⟩
        clear ht
        go_enter Tryz.func15, Tryz.ntmps15
        go_wp2_with (first | (go_at_call 34; with_reducible refine (isType_calls (HTV.out.ext hk0.1.out) HT.out).mono ?_; rintro e w1 ⟨rfl, he⟩; replace hk0 := KeepB.ext he hk0; clear he) | (go_at_call 58; with_reducible refine (shSize_calls (HTV.out.ext hk0.1.out) HD.out).mono ?_; rw [HP.out]; rintro e w1 ⟨rfl, he⟩; replace hk0 := KeepB.ext he hk0; clear he) | (go_at_call 59; with_reducible refine (containsRat_calls (p := fun q => !okq q) HC.out (HN.out.ext RatC.ext hk0.1.out) HA.out (fun w' x q _ h => badRat_calls h)).mono ?_; rintro e w1 ⟨rfl, he⟩; replace hk0 := KeepB.ext he hk0; clear he) | (go_at_call 62; with_reducible refine (containsBit_calls (p := fun q => !okb q.f q.on) HC.out (HBV.out.ext BitC.ext hk0.1.out) HA.out (fun w' q _ => badBit_calls)).mono ?_; rintro e w1 ⟨rfl, he⟩; replace hk0 := KeepB.ext he hk0; clear he))
        go_ret
        exact ⟨by rw [HV.out]; rfl, hk0.1.out⟩
      · cases b2
        · have HV : Aside (t = false) := ⟨by rw [← ht]; rfl⟩
          clear ht
          go_enter Tryz.func15, Tryz.ntmps15
          go_wp2_with (first | (go_at_call 34; with_reducible refine (isType_calls (HTV.out.ext hk0.1.out) HT.out).mono ?_; rintro e w1 ⟨rfl, he⟩; replace hk0 := KeepB.ext he hk0; clear he) | (go_at_call 58; with_reducible refine (shSize_calls (HTV.out.ext hk0.1.out) HD.out).mono ?_; rw [HP.out]; rintro e w1 ⟨rfl, he⟩; replace hk0 := KeepB.ext he hk0; clear he) | (go_at_call 59; with_reducible refine (containsRat_calls (p := fun q => !okq q) HC.out (HN.out.ext RatC.ext hk0.1.out) HA.out (fun w' x q _ h => badRat_calls h)).mono ?_; rintro e w1 ⟨rfl, he⟩; replace hk0 := KeepB.ext he hk0; clear he) | (go_at_call 62; with_reducible refine (containsBit_calls (p := fun q => !okb q.f q.on) HC.out (HBV.out.ext BitC.ext hk0.1.out) HA.out (fun w' q _ => badBit_calls)).mono ?_; rintro e w1 ⟨rfl, he⟩; replace hk0 := KeepB.ext he hk0; clear he))
          go_ret
          exact ⟨by rw [HV.out]; rfl, hk0.1.out⟩
        · have HV : Aside (t = !b3) := ⟨by rw [← ht]; rfl⟩
          clear ht
          cases b3
          · go_enter Tryz.func15, Tryz.ntmps15
            go_wp2_with (first | (go_at_call 34; with_reducible refine (isType_calls (HTV.out.ext hk0.1.out) HT.out).mono ?_; rintro e w1 ⟨rfl, he⟩; replace hk0 := KeepB.ext he hk0; clear he) | (go_at_call 58; with_reducible refine (shSize_calls (HTV.out.ext hk0.1.out) HD.out).mono ?_; rw [HP.out]; rintro e w1 ⟨rfl, he⟩; replace hk0 := KeepB.ext he hk0; clear he) | (go_at_call 59; with_reducible refine (containsRat_calls (p := fun q => !okq q) HC.out (HN.out.ext RatC.ext hk0.1.out) HA.out (fun w' x q _ h => badRat_calls h)).mono ?_; rintro e w1 ⟨rfl, he⟩; replace hk0 := KeepB.ext he hk0; clear he) | (go_at_call 62; with_reducible refine (containsBit_calls (p := fun q => !okb q.f q.on) HC.out (HBV.out.ext BitC.ext hk0.1.out) HA.out (fun w' q _ => badBit_calls)).mono ?_; rintro e w1 ⟨rfl, he⟩; replace hk0 := KeepB.ext he hk0; clear he))
            go_ret
            exact ⟨by rw [HV.out]; rfl, hk0.1.out⟩
          · go_enter Tryz.func15, Tryz.ntmps15
            go_wp2_with (first | (go_at_call 34; with_reducible refine (isType_calls (HTV.out.ext hk0.1.out) HT.out).mono ?_; rintro e w1 ⟨rfl, he⟩; replace hk0 := KeepB.ext he hk0; clear he) | (go_at_call 58; with_reducible refine (shSize_calls (HTV.out.ext hk0.1.out) HD.out).mono ?_; rw [HP.out]; rintro e w1 ⟨rfl, he⟩; replace hk0 := KeepB.ext he hk0; clear he) | (go_at_call 59; with_reducible refine (containsRat_calls (p := fun q => !okq q) HC.out (HN.out.ext RatC.ext hk0.1.out) HA.out (fun w' x q _ h => badRat_calls h)).mono ?_; rintro e w1 ⟨rfl, he⟩; replace hk0 := KeepB.ext he hk0; clear he) | (go_at_call 62; with_reducible refine (containsBit_calls (p := fun q => !okb q.f q.on) HC.out (HBV.out.ext BitC.ext hk0.1.out) HA.out (fun w' q _ => badBit_calls)).mono ?_; rintro e w1 ⟨rfl, he⟩; replace hk0 := KeepB.ext he hk0; clear he))
            go_ret
            exact ⟨by rw [HV.out]; rfl, hk0.1.out⟩
    · have hk1 : (k == 1) = false := beq_eq_false_iff_ne.2 h1
      rw [if_neg h1] at ht
      by_cases h2 : k = 2
      · have hk2 : (k == 2) = true := by simp [h2]
        rw [if_pos h2] at ht
        obtain ⟨b1, hb1⟩ : ∃ b, ((bits.length : Int) == p) = b := ⟨_, rfl⟩
        obtain ⟨b2, hb2⟩ : ∃ b, ((nums.length : Int) == 0) = b := ⟨_, rfl⟩
        obtain ⟨b3, hb3⟩ : ∃ b, (bits.any fun q => !okb q.f q.on) = b := ⟨_, rfl⟩
        rw [hb1, hb2, hb3] at ht
        have HA := Aside.mk hb3
        have HC : Aside (∀ args w, Sem.run Tryz.prog (callFunc 63 args) w = .ok (.enter 63 args) w) := ⟨by intro args w; simp [go_sem]⟩
        clear h1 h2 hb3
        generalize nums.length = ln at *
        generalize bits.length = lb at *
        cases b1
        · have HV : Aside (t = false) := ⟨by rw [← ht]; rfl⟩
          clear ht
          go_enter Tryz.func15, Tryz.ntmps15
          go_wp2_with (first | (go_at_call 34; with_reducible refine (isType_calls (HTV.out.ext hk0.1.out) HT.out).mono ?_; rintro e w1 ⟨rfl, he⟩; replace hk0 := KeepB.ext he hk0; clear he) | (go_at_call 58; with_reducible refine (shSize_calls (HTV.out.ext hk0.1.out) HD.out).mono ?_; rw [HP.out]; rintro e w1 ⟨rfl, he⟩; replace hk0 := KeepB.ext he hk0; clear he) | (go_at_call 59; with_reducible refine (containsRat_calls (p := fun q => !okq q) HC.out (HN.out.ext RatC.ext hk0.1.out) HA.out (fun w' x q _ h => badRat_calls h)).mono ?_; rintro e w1 ⟨rfl, he⟩; replace hk0 := KeepB.ext he hk0; clear he) | (go_at_call 62; with_reducible refine (containsBit_calls (p := fun q => !okb q.f q.on) HC.out (HBV.out.ext BitC.ext hk0.1.out) HA.out (fun w' q _ => badBit_calls)).mono ?_; rintro e w1 ⟨rfl, he⟩; replace hk0 := KeepB.ext he hk0; clear he))
          go_ret
          exact ⟨by rw [HV.out]; rfl, hk0.1.out⟩
        · cases b2
          · have HV : Aside (t = false) := ⟨by rw [← ht]; rfl⟩
            clear ht
            go_enter Tryz.func15, Tryz.ntmps15
            go_wp2_with (first | (go_at_call 34; with_reducible refine (isType_calls (HTV.out.ext hk0.1.out) HT.out).mono ?_; rintro e w1 ⟨rfl, he⟩; replace hk0 := KeepB.ext he hk0; clear he) | (go_at_call 58; with_reducible refine (shSize_calls (HTV.out.ext hk0.1.out) HD.out).mono ?_; rw [HP.out]; rintro e w1 ⟨rfl, he⟩; replace hk0 := KeepB.ext he hk0; clear he) | (go_at_call 59; with_reducible refine (containsRat_calls (p := fun q => !okq q) HC.out (HN.out.ext RatC.ext hk0.1.out) HA.out (fun w' x q _ h => badRat_calls h)).mono ?_; rintro e w1 ⟨rfl, he⟩; replace hk0 := KeepB.ext he hk0; clear he) | (go_at_call 62; with_reducible refine (containsBit_calls (p := fun q => !okb q.f q.on) HC.out (HBV.out.ext BitC.ext hk0.1.out) HA.out (fun w' q _ => badBit_calls)).mono ?_; rintro e w1 ⟨rfl, he⟩; replace hk0 := KeepB.ext he hk0; clear he))
            go_ret
            exact ⟨by rw [HV.out]; rfl, hk0.1.out⟩
          · have HV : Aside (t = !b3) := ⟨by rw [← ht]; rfl⟩
            clear ht
            cases b3
            · go_enter Tryz.func15, Tryz.ntmps15
              go_wp2_with (first | (go_at_call 34; with_reducible refine (isType_calls (HTV.out.ext hk0.1.out) HT.out).mono ?_; rintro e w1 ⟨rfl, he⟩; replace hk0 := KeepB.ext he hk0; clear he) | (go_at_call 58; with_reducible refine (shSize_calls (HTV.out.ext hk0.1.out) HD.out).mono ?_; rw [HP.out]; rintro e w1 ⟨rfl, he⟩; replace hk0 := KeepB.ext he hk0; clear he) | (go_at_call 59; with_reducible refine (containsRat_calls (p := fun q => !okq q) HC.out (HN.out.ext RatC.ext hk0.1.out) HA.out (fun w' x q _ h => badRat_calls h)).mono ?_; rintro e w1 ⟨rfl, he⟩; replace hk0 := KeepB.ext he hk0; clear he) | (go_at_call 62; with_reducible refine (containsBit_calls (p := fun q => !okb q.f q.on) HC.out (HBV.out.ext BitC.ext hk0.1.out) HA.out (fun w' q _ => badBit_calls)).mono ?_; rintro e w1 ⟨rfl, he⟩; replace hk0 := KeepB.ext he hk0; clear he))
              go_ret
              exact ⟨by rw [HV.out]; rfl, hk0.1.out⟩
            · go_enter Tryz.func15, Tryz.ntmps15
              go_wp2_with (first | (go_at_call 34; with_reducible refine (isType_calls (HTV.out.ext hk0.1.out) HT.out).mono ?_; rintro e w1 ⟨rfl, he⟩; replace hk0 := KeepB.ext he hk0; clear he) | (go_at_call 58; with_reducible refine (shSize_calls (HTV.out.ext hk0.1.out) HD.out).mono ?_; rw [HP.out]; rintro e w1 ⟨rfl, he⟩; replace hk0 := KeepB.ext he hk0; clear he) | (go_at_call 59; with_reducible refine (containsRat_calls (p := fun q => !okq q) HC.out (HN.out.ext RatC.ext hk0.1.out) HA.out (fun w' x q _ h => badRat_calls h)).mono ?_; rintro e w1 ⟨rfl, he⟩; replace hk0 := KeepB.ext he hk0; clear he) | (go_at_call 62; with_reducible refine (containsBit_calls (p := fun q => !okb q.f q.on) HC.out (HBV.out.ext BitC.ext hk0.1.out) HA.out (fun w' q _ => badBit_calls)).mono ?_; rintro e w1 ⟨rfl, he⟩; replace hk0 := KeepB.ext he hk0; clear he))
              go_ret
              exact ⟨by rw [HV.out]; rfl, hk0.1.out⟩
      · have hk2 : (k == 2) = false := beq_eq_false_iff_ne.2 h2
        rw [if_neg h2] at ht
        have HV : Aside (t = false) := ⟨by rw [← ht]; rfl⟩
        clear h1 h2 ht
        go_enter Tryz.func15, Tryz.ntmps15
        go_wp2_with (first | (go_at_call 34; with_reducible refine (isType_calls (HTV.out.ext hk0.1.out) HT.out).mono ?_; rintro e w1 ⟨rfl, he⟩; replace hk0 := KeepB.ext he hk0; clear he) | (go_at_call 58; with_reducible refine (shSize_calls (HTV.out.ext hk0.1.out) HD.out).mono ?_; rw [HP.out]; rintro e w1 ⟨rfl, he⟩; replace hk0 := KeepB.ext he hk0; clear he) | (go_at_call 59; with_reducible refine (containsRat_calls (p := fun q => !okq q) HC.out (HN.out.ext RatC.ext hk0.1.out) HA.out (fun w' x q _ h => badRat_calls h)).mono ?_; rintro e w1 ⟨rfl, he⟩; replace hk0 := KeepB.ext he hk0; clear he) | (go_at_call 62; with_reducible refine (containsBit_calls (p := fun q => !okb q.f q.on) HC.out (HBV.out.ext BitC.ext hk0.1.out) HA.out (fun w' q _ => badBit_calls)).mono ?_; rintro e w1 ⟨rfl, he⟩; replace hk0 := KeepB.ext he hk0; clear he))
        go_ret
        exact ⟨by rw [HV.out]; rfl, hk0.1.out⟩
end Go.Proofs.YtcbaipnphepbeaaGreatDoor

namespace Go.Proofs.YtcbaipnphepbeaaGreatDoor
open Go.RowKit

theorem SV.none_nil {α : Type} {k : Nat} {R : World → List Value → α → Prop} {w : World} {n c : Nat} {l : List α} (hk : 0 < k) (h : SV k R w (.slice none n c) l) : l = [] := by
  cases l with
  | nil => rfl
  | cons b l => obtain ⟨ad, cs, e, _⟩ := h.at' hk 0 (a := b) rfl; cases e
theorem ownsRow_ext {base : Nat} {e : TypeId} {k : Nat} {w w' : World} {v : Value} {n : Nat} {xs : List Value} (h : w.ownsRow base e k v n xs) (x : Ext w w') : w'.ownsRow base e k v n xs := by
  refine ⟨h.1, ?_⟩
  rcases h.2 with h' | ⟨g, cap, cur, h1, h2, h3, h4⟩
  · exact .inl h'
  · exact .inr ⟨g, cap, cur, h1, h2, by rw [x.block g (Array.getElem?_eq_some_iff.1 h3).1]; exact h3, h4⟩
theorem SO.ext {α : Type} {base : Nat} {e : TypeId} {k : Nat} {R : World → List Value → α → Prop} (hR : Grows R) {w w' : World} {v : Value} {l : List α} (h : SO base e k R w v l) (x : Ext w w') : SO base e k R w' v l := by
  obtain ⟨xs, ho, hl, hr⟩ := h
  exact ⟨xs, ownsRow_ext ho x, hl, hr.mono fun c a => hR _ _ c a x⟩
theorem SO.ext_grown {α : Type} {base : Nat} {e : TypeId} {k : Nat} {R : World → List Value → α → Prop} {w0 W w1 : World} {v : Value} {l : List α} (h : SO base e k R W v l) (hE : Ext w0 W) (hb : w0.heap.size ≤ base) (hg : W.grownBy w1 v.ownBlock) : Ext w0 w1 := by
  obtain ⟨xs, ho, hl, hr⟩ := h
  exact hE.grown hg fun k hk => Nat.le_trans hb (ho.lt k hk).1
theorem SO.lit {α : Type} {e : TypeId} {k : Nat} {R : World → List Value → α → Prop} (w : World) (xs : List Value) (l : List α) (hl : l.length ≤ 1073741824) (h : Rows k (R (w.alloc (.cells xs.toArray e))) xs l) :
    SO w.heap.size e k R (w.alloc (.cells xs.toArray e)) (.slice (some ⟨w.heap.size, 0, none⟩) l.length l.length) l := by
  have h2 := World.ownsRow_lit (base := w.heap.size) (e := e) (size := k) w xs.toArray l.length (Nat.le_refl _) (by simp only [maxLen]; omega) (by simp [h.length])
  exact ⟨xs, by simpa using h2, hl, h⟩
/-- A row of ints. -/
def IntC (_ : World) (c : List Value) (n : Int) : Prop := c = [.int .i64 n]
theorem IntC.ext : Grows IntC := fun _ _ _ _ _ h => h
theorem rows_ints : ∀ (ds : List Int) (w : World), Rows 1 (IntC w) (ivs ds) ds
  | [], _ => rfl
  | d :: t, w => ⟨[.int .i64 d], ivs t, rfl, rfl, rfl, rows_ints t w⟩
theorem rows_ints_eq : ∀ {ds : List Int} {xs : List Value} {w : World}, Rows 1 (IntC w) xs ds → xs = ivs ds
  | [], _, _, h => h
  | d :: t, xs, w, h => by
    obtain ⟨c, u, rfl, _, rfl, h⟩ := h
    rw [rows_ints_eq h]; rfl
theorem IV.sv {w : World} {v : Value} {ds : List Int} (h : IV w v ds) : SV 1 IntC w v ds := by
  obtain ⟨A, c, h1, h2, h3, h4, h5⟩ := h
  exact ⟨A, c, _, h1, h2, h3, h4, h5, rows_ints ds w⟩
theorem SV.iv {w : World} {v : Value} {ds : List Int} (h : SV 1 IntC w v ds) : IV w v ds := by
  obtain ⟨A, c, xs, h1, h2, h3, h4, h5, h6⟩ := h
  rw [rows_ints_eq h6] at h5
  exact ⟨A, c, h1, h2, h3, h4, h5⟩

theorem Tryz.info_rat : (Tryz.prog.info? 83).map (fun i => (i.zero, i.size, i.bytes)) = some (some (.agg #[.int .i64 0, .bool false, .slice none 0 0, .slice none 0 0]), 4, 64) := by kernel_rfl
theorem Tryz.info_bit : (Tryz.prog.info? 46).map (fun i => (i.zero, i.size, i.bytes)) = some (some (.agg #[.int .i64 0, .bool false]), 2, 16) := by kernel_rfl
theorem Tryz.info_value : (Tryz.prog.info? 29).map (fun i => (i.zero, i.size, i.bytes)) = some (some (.agg #[.int .i64 0, .slice none 0 0, .slice none 0 0, .slice none 0 0]), 4, 80) := by kernel_rfl
theorem Tryz.info_type : (Tryz.prog.info? 25).map (fun i => (i.zero, i.size, i.bytes)) = some (some (.agg #[.int .i64 0, .slice none 0 0]), 2, 32) := by kernel_rfl
theorem Tryz.info_i64 : (Tryz.prog.info? 3).map (fun i => (i.zero, i.size, i.bytes)) = some (some (.int .i64 0), 1, 8) := by kernel_rfl
theorem Tryz.info_str : (Tryz.prog.info? 9).map (fun i => (i.zero, i.size, i.bytes)) = some (some (.string ⟨#[]⟩), 1, 16) := by kernel_rfl
/-- What append needs to know of a type. -/
structure ElemT (t e : TypeId) (k : Nat) : Prop where
  und : Tryz.prog.underlying t = some (.slice e)
  info : ∃ i z b, Tryz.prog.info? e = some i ∧ i.zero = some z ∧ i.size = k ∧ i.bytes = b ∧ z.cells.size = k ∧ b ≤ 100
  pos : 0 < k
theorem ElemT.of {t e : TypeId} {k b : Nat} {z : Value} (hu : Tryz.prog.underlying t = some (.slice e)) (hi : (Tryz.prog.info? e).map (fun i => (i.zero, i.size, i.bytes)) = some (some z, k, b)) (hz : z.cells.size = k) (hb : b ≤ 100) (hk : 0 < k) : ElemT t e k := by
  obtain ⟨i, h1, h2, h3, h4⟩ := info_parts hi
  exact ⟨hu, ⟨i, z, b, h1, h2, h3, h4, hz, hb⟩, hk⟩
theorem elemInt : ElemT 23 3 1 := ElemT.of Tryz.underlying23 Tryz.info_i64 rfl (by decide) (by decide)
theorem elemRat : ElemT 26 83 4 := ElemT.of Tryz.underlying26 Tryz.info_rat rfl (by decide) (by decide)
theorem elemBit : ElemT 27 46 2 := ElemT.of Tryz.underlying27 Tryz.info_bit rfl (by decide) (by decide)
theorem elemVal : ElemT 66 29 4 := ElemT.of Tryz.underlying66 Tryz.info_value rfl (by decide) (by decide)
theorem elemStr : ElemT 100 9 1 := ElemT.of Tryz.underlying100 Tryz.info_str rfl (by decide) (by decide)
section
variable {ops : Array Oper} {rest : List Oper} {o : Oper} {a : Act} {Q : Exit → Act → World → Prop}
/-- `append(v, ys...)` of anything. -/
theorem append_so {α : Type} {R : World → List Value → α → Prop} {W : World} {t e : TypeId} {k : Nat} (base : Nat) (hT : ElemT t e k) (hgd : o.guard = none) (s x : Operand)
    (ho : o.op = .call { callee := .builtin .append, args := #[s, x], argTypes := #[t, t] })
    (v y : Value) (l m : List α) (HO : SO base e k R W v l) (HS : SV k R W y m) (hone : ∀ c a, R W c a → ∀ u ∈ c, u.oneCell' = true)
    (hst : ∀ w1, W.grownBy w1 v.ownBlock → ∀ c a, R W c a → R w1 c a)
    (hs : a.eval s = v) (hx : a.eval x = y) (hbase : base ≤ W.heap.size) (hl : l.length + m.length ≤ 1073741824)
    (h : ∀ v1 w1, SO base e k R w1 v1 (l ++ m) → W.grownBy w1 v.ownBlock → wpList Tryz.prog ops Q rest (a.put o.dst v1) w1) :
    wpList Tryz.prog ops Q (o :: rest) a W := by
  obtain ⟨i0, z, b, hi, hz0, hz1, hz2, hz3, hb⟩ := hT.info
  have hk := hT.pos
  obtain ⟨xs, how, hl0, hr⟩ := HO
  obtain ⟨A, c, ys, rfl, hc, hm, hsp, hrd, hr2⟩ := id HS
  cases A with
  | some ad =>
    have hall : ∀ {ys : List Value} {m : List α}, Rows k (R W) ys m → ∀ u ∈ ys, u.oneCell' = true := by
      intro ys m
      induction m generalizing ys with
      | nil => intro h u hu; cases (show ys = [] from h); cases hu
      | cons b m ih =>
        rintro ⟨c, t, rfl, hc, ha, h⟩ u hu
        rcases List.mem_append.1 hu with hu | hu
        · exact hone c b ha u hu
        · exact ih h u hu
    refine wpList_append_own_at W hgd s x t ho base e i0 z k b hT.und hi hz0 hz1 hz2 hz3 hk v l.length xs hs how ad m.length c ys hx hr2.length
      (Rd.cell1 hrd) (hall hr2) (by simp only [maxLen]; omega) ?_ hbase ?_
    · have h1 : (l.length + m.length) * b ≤ 1073741824 * 100 := Nat.mul_le_mul hl hb
      omega
    intro v1 w1 hown hg _ _
    refine h v1 w1 ⟨xs ++ ys, by rw [List.length_append]; exact hown, by rw [List.length_append]; exact hl, (hr.mono fun c a => hst w1 hg c a).append (hr2.mono fun c a => hst w1 hg c a)⟩ hg
  | none =>
    obtain rfl := HS.none_nil hk
    have hrun := run_append_none base t o.type e i0 k hT.und hi v l.length c xs how
    refine wpList_plain hgd fun K hK => ?_
    unfold Oper.wp execOp
    simp only [ho, resolve, invoke, builtin, Sem.run_bind, Sem.run_pure, Result.andThen_ok, List.map_toArray, List.map_cons, List.map_nil, hs, hx]
    have e0 : ([] : List α).length = 0 := rfl
    rw [e0, hrun]
    exact hK _ _ (h v W (by rw [List.append_nil]; exact ⟨xs, how, hl0, hr⟩) ⟨rfl, rfl, rfl, Nat.le_refl _, fun _ _ _ => rfl⟩)
end
theorem IntC.one {w : World} : ∀ c a, IntC w c a → ∀ u ∈ c, u.oneCell' = true := by
  rintro c a rfl u hu
  rw [List.mem_singleton.1 hu]; rfl
theorem BitC.one {w : World} : ∀ c a, BitC w c a → ∀ u ∈ c, u.oneCell' = true := by
  rintro c a rfl u hu
  simp only [List.mem_cons, List.not_mem_nil, or_false] at hu
  rcases hu with rfl | rfl <;> rfl
/-- Rats that are read in a world of old. -/
def RatK (w0 : World) (_ : World) (c : List Value) (q : Rq) : Prop := RatC w0 c q
theorem SV.old {w w' : World} {v : Value} {l : List Rq} (h : QV w v l) (e : Ext w w') : SV 4 (RatK w) w' v l :=
  let ⟨A, c, xs, h1, h2, h3, h4, h5, h6⟩ := h; ⟨A, c, xs, h1, h2, h3, h4, h5.ext e, h6⟩
theorem RV.oneCell {w : World} {v : Value} {xs : List Nat} (h : RV w v xs) : v.oneCell' = true := by
  obtain ⟨A, c, rfl, _⟩ := h; rfl
theorem RatC.one {w : World} : ∀ c a, RatC w c a → ∀ u ∈ c, u.oneCell' = true := by
  rintro c a ⟨x, y, rfl, hx, hy⟩ u hu
  simp only [List.mem_cons, List.not_mem_nil, or_false] at hu
  rcases hu with rfl | rfl | rfl | rfl
  · rfl
  · rfl
  · exact hx.oneCell
  · exact hy.oneCell
theorem cloneInt_calls {w : World} {u : Value} {l : List Int} (hu : SV 1 IntC w u l) :
    Calls Tryz.prog 108 #[u] w fun e w' => ∃ r, e = .returned r ∧ SO w.heap.size 3 1 IntC w' r l ∧ Ext w w' := by
  obtain ⟨A, c, rfl, hc, hl⟩ := hu.form
  have HU := Aside.mk hu
  cases A with
  | none =>
    have hx := hu.none_nil (by decide)
    subst hx
    clear hu
    have he : ∀ W : World, (binOp .eql 23 (.slice none (0 : Nat) c) (.slice none 0 0)).run Tryz.prog W = .ok (.bool true) W := fun W => by simpa using Lib.run_eql_slice_nil (P := Tryz.prog) W 23 3 none 0 c 0 0 elemInt.und
    go_enter Tryz.func108, Tryz.ntmps108
    go_wp2
    go_ret
    exact ⟨.slice none 0 0, rfl, SO.nil, Ext.refl _⟩
  | some ad =>
    clear hu
    have h0 : SO w.heap.size 3 1 IntC (w.alloc (.cells #[] 3)) (.slice (some ⟨w.heap.size, 0, none⟩) 0 0) [] := SO.lit w [] [] (Nat.zero_le _) rfl
    have H0 := Aside.mk h0
    have he : ∀ W : World, (binOp .eql 23 (.slice (some ad) l.length c) (.slice none 0 0)).run Tryz.prog W = .ok (.bool false) W := fun W => by simpa using Lib.run_eql_slice_nil (P := Tryz.prog) W 23 3 (some ad) l.length c 0 0 elemInt.und
    have HL := Aside.mk hl
    clear h0
    go_enter Tryz.func108, Tryz.ntmps108
    go_wp2_with (at_builtin; (refine append_so w.heap.size elemInt rfl _ _ rfl _ _ [] l H0.out (HU.out.ext IntC.ext ((Ext.refl _).alloc _)) IntC.one (fun _ _ _ _ h => h) rfl rfl (by simp) (by simpa using HL.out) ?_; intro v1 w1 ho hg; have HO := Aside.mk ho; have HB := Aside.mk (H0.out.ext_grown ((Ext.refl w).alloc _) (Nat.le_refl _) hg); clear ho hg))
    go_ret
    exact ⟨v1, rfl, HO.out, HB.out⟩
theorem cloneBit_calls {w : World} {u : Value} {l : List Bq} (hu : BV w u l) :
    Calls Tryz.prog 109 #[u] w fun e w' => ∃ r, e = .returned r ∧ SO w.heap.size 46 2 BitC w' r l ∧ Ext w w' := by
  obtain ⟨A, c, rfl, hc, hl⟩ := hu.form
  have HU := Aside.mk hu
  cases A with
  | none =>
    have hx := hu.none_nil (by decide)
    subst hx
    clear hu
    have he : ∀ W : World, (binOp .eql 27 (.slice none (0 : Nat) c) (.slice none 0 0)).run Tryz.prog W = .ok (.bool true) W := fun W => by simpa using Lib.run_eql_slice_nil (P := Tryz.prog) W 27 46 none 0 c 0 0 elemBit.und
    go_enter Tryz.func109, Tryz.ntmps109
    go_wp2
    go_ret
    exact ⟨.slice none 0 0, rfl, SO.nil, Ext.refl _⟩
  | some ad =>
    clear hu
    have h0 : SO w.heap.size 46 2 BitC (w.alloc (.cells #[] 46)) (.slice (some ⟨w.heap.size, 0, none⟩) 0 0) [] := SO.lit w [] [] (Nat.zero_le _) rfl
    have H0 := Aside.mk h0
    have he : ∀ W : World, (binOp .eql 27 (.slice (some ad) l.length c) (.slice none 0 0)).run Tryz.prog W = .ok (.bool false) W := fun W => by simpa using Lib.run_eql_slice_nil (P := Tryz.prog) W 27 46 (some ad) l.length c 0 0 elemBit.und
    have HL := Aside.mk hl
    clear h0
    go_enter Tryz.func109, Tryz.ntmps109
    go_wp2_with (at_builtin; (refine append_so w.heap.size elemBit rfl _ _ rfl _ _ [] l H0.out (HU.out.ext BitC.ext ((Ext.refl _).alloc _)) BitC.one (fun _ _ _ _ h => h) rfl rfl (by simp) (by simpa using HL.out) ?_; intro v1 w1 ho hg; have HO := Aside.mk ho; have HB := Aside.mk (H0.out.ext_grown ((Ext.refl w).alloc _) (Nat.le_refl _) hg); clear ho hg))
    go_ret
    exact ⟨v1, rfl, HO.out, HB.out⟩
theorem cloneRat_calls {w : World} {u : Value} {l : List Rq} (hu : QV w u l) :
    Calls Tryz.prog 110 #[u] w fun e w' => ∃ r, e = .returned r ∧ SO w.heap.size 83 4 (RatK w) w' r l ∧ Ext w w' := by
  obtain ⟨A, c, rfl, hc, hl⟩ := hu.form
  have HU := Aside.mk hu
  cases A with
  | none =>
    have hx := hu.none_nil (by decide)
    subst hx
    clear hu
    have he : ∀ W : World, (binOp .eql 26 (.slice none (0 : Nat) c) (.slice none 0 0)).run Tryz.prog W = .ok (.bool true) W := fun W => by simpa using Lib.run_eql_slice_nil (P := Tryz.prog) W 26 83 none 0 c 0 0 elemRat.und
    go_enter Tryz.func110, Tryz.ntmps110
    go_wp2
    go_ret
    exact ⟨.slice none 0 0, rfl, SO.nil, Ext.refl _⟩
  | some ad =>
    clear hu
    have h0 : SO w.heap.size 83 4 (RatK w) (w.alloc (.cells #[] 83)) (.slice (some ⟨w.heap.size, 0, none⟩) 0 0) [] := SO.lit w [] [] (Nat.zero_le _) rfl
    have H0 := Aside.mk h0
    have he : ∀ W : World, (binOp .eql 26 (.slice (some ad) l.length c) (.slice none 0 0)).run Tryz.prog W = .ok (.bool false) W := fun W => by simpa using Lib.run_eql_slice_nil (P := Tryz.prog) W 26 83 (some ad) l.length c 0 0 elemRat.und
    have HL := Aside.mk hl
    clear h0
    go_enter Tryz.func110, Tryz.ntmps110
    go_wp2_with (at_builtin; (refine append_so w.heap.size elemRat rfl _ _ rfl _ _ [] l H0.out (HU.out.old ((Ext.refl _).alloc _)) RatC.one (fun _ _ _ _ h => h) rfl rfl (by simp) (by simpa using HL.out) ?_; intro v1 w1 ho hg; have HO := Aside.mk ho; have HB := Aside.mk (H0.out.ext_grown ((Ext.refl w).alloc _) (Nat.le_refl _) hg); clear ho hg))
    go_ret
    exact ⟨v1, rfl, HO.out, HB.out⟩
end Go.Proofs.YtcbaipnphepbeaaGreatDoor
