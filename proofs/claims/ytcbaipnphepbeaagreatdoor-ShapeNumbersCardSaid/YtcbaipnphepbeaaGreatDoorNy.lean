/- Rows of types; contracts of fluxionlaw03: types. Contracts of fluxionref03: Many, Equals of two readings of one list. A list of Values whose numbers are stored into. Contracts of shape: Back. Contracts of shape: Back. Contracts of shape: Back. Contracts of fluxionref03: Back. -/
import Derived.Test.YtcbaipnphepbeaaGreatDoorNx
import Derived.Test.YtcbaipnphepbeaaGreatDoorNr
import Derived.Test.YtcbaipnphepbeaaGreatDoorN1
import Derived.Deep.DrawnRows
namespace Go.Proofs.YtcbaipnphepbeaaGreatDoor
open Go.RowKit
attribute [local go_sem ↓] Go.wp_at_zero Go.wp_at_succ

/-- A type whose list is the call's own. -/
def TypO (base : Nat) (w : World) (c : List Value) (q : Int × List Int) : Prop := ∃ s, c = [.int .i64 q.1, s] ∧ SO base 3 1 IntC w s q.2
theorem TypO.ext (base : Nat) : Grows (TypO base) := fun _ _ _ _ e h => let ⟨s, h1, h2⟩ := h; ⟨s, h1, h2.ext IntC.ext e⟩
theorem TypO.one {base : Nat} {w : World} : ∀ c a, TypO base w c a → ∀ u ∈ c, u.oneCell' = true := by
  rintro c a ⟨s, rfl, h1⟩ u hu
  simp only [List.mem_cons, List.not_mem_nil, or_false] at hu
  rcases hu with rfl | rfl
  · rfl
  · exact h1.sv.one
theorem TypO.mono {b b' : Nat} {w : World} {c : List Value} {q : Int × List Int} (h : TypO b w c q) (hb : b' ≤ b) : TypO b' w c q := let ⟨s, h1, h2⟩ := h; ⟨s, h1, h2.mono hb⟩
theorem TypO.grown {β : Type} {b b' k' : Nat} {S : World → List Value → β → Prop} {w w1 : World} {v' : Value} {m : List β} (h' : SO b' 25 k' S w v' m) (hg : w.grownBy w1 v'.ownBlock) :
    ∀ c a, TypO b w c a → TypO b w1 c a := fun _ _ h => let ⟨s, h1, h2⟩ := h; ⟨s, h1, h2.other h' (by decide) hg (fun _ _ h => h)⟩
theorem elemTyp : ElemT 74 25 2 := ElemT.of Tryz.underlying74 Tryz.info_type rfl (by decide) (by decide)
theorem one_typ {base b : Nat} {w : World} {s : Value} {k : Int} {q : Int × List Int} {g : Nat} (hg : w.heap.size = g) (hk : k = q.1) (h : SO b 3 1 IntC w s q.2) (hb : base ≤ b) :
    SV 2 (TypO base) (w.alloc (.cells #[.int .i64 k, s] 25)) (.slice (some ⟨g, 0, none⟩) 1 1) [q] := by
  subst hg hk
  exact (SO.lit (e := 25) (R := TypO base) w [.int .i64 q.1, s] [q] (by simp) (Rows.one rfl
    (TypO.mono (TypO.ext b _ _ _ _ ((Ext.refl w).alloc _) ⟨s, rfl, h⟩) hb))).sv
/-- A type's cells, its list however long. -/
def TyR (w : World) (c : List Value) (q : Int × List Int) : Prop := ∃ s, c = [.int .i64 q.1, s] ∧ RawL 1 IntC w s q.2
theorem TyR.ext : Grows TyR := fun _ _ _ _ e h => let ⟨s, h1, h2⟩ := h; ⟨s, h1, h2.ext IntC.ext e⟩
theorem RawL.att {w : World} {A : Option Addr} {n c : Nat} {l : List (Int × List Int)} (h : RawL 2 TyR w (.slice A n c) l) (j : Nat) {q : Int × List Int} (hj : l[j]? = some q) :
    ∃ b o D d, A = some ⟨b, o, none⟩ ∧ w.cell? ⟨b, o + j * 2, none⟩ = some (.int .i64 q.1) ∧ w.cell? ⟨b, o + j * 2 + 1, none⟩ = some (.slice D q.2.length d) ∧ TL w (.agg #[.int .i64 q.1, .slice D q.2.length d]) q.1 q.2 := by
  obtain ⟨b, o, cs, rfl, -, ⟨s, rfl, h1⟩, h4⟩ := h.atk (by decide) j hj
  obtain ⟨D, cd, rfl, _⟩ := h1.form
  exact ⟨b, o, D, cd, rfl, h4 0 _ rfl, h4 1 _ rfl, _, rfl, h1⟩
end Go.Proofs.YtcbaipnphepbeaaGreatDoor

namespace Go.Proofs.YtcbaipnphepbeaaGreatDoor
open Go.RowKit
attribute [local go_sem ↓] Go.wp_at_zero Go.wp_at_succ

/-- A type that is read. -/
def TypC (w : World) (c : List Value) (q : Int × List Int) : Prop := ∃ s, c = [.int .i64 q.1, s] ∧ IV w s q.2
theorem TypC.ext : Grows TypC := fun _ _ _ _ e h => let ⟨s, h1, h2⟩ := h; ⟨s, h1, h2.ext e⟩
/-- A list of types that is read. -/
abbrev LT : World → Value → List (Int × List Int) → Prop := SV 2 TypC
theorem LT.at' {w : World} {A : Option Addr} {n c : Nat} {l : List (Int × List Int)} (h : LT w (.slice A n c) l) (j : Nat) {q : Int × List Int} (hj : l[j]? = some q) :
    ∃ b o D d, A = some ⟨b, o, none⟩ ∧ w.cell? ⟨b, o + j * 2, none⟩ = some (.int .i64 q.1) ∧ w.cell? ⟨b, o + j * 2 + 1, none⟩ = some (.slice D q.2.length d) ∧ TV w (.agg #[.int .i64 q.1, .slice D q.2.length d]) q.1 q.2 := by
  have hs := h.spot
  obtain ⟨ad, cs, rfl, h1, ⟨s, rfl, hi⟩, h3⟩ := SV.at' (by decide) h j hj
  obtain ⟨D, d, rfl, _⟩ := hi.form
  have h4 := cells_at (hs ad rfl) h3
  exact ⟨ad.block, ad.off, D, d, by rw [← (addr_of (hs ad rfl) 0).1], h4 0 rfl, h4 1 rfl, TV.mk hi⟩
/-- How many numbers values of types have. -/
def manyQ (l : List (Int × List Int)) : Int := l.foldl (fun a q => a + (if q.1 = 1 then prodI q.2 else 0)) 0
theorem manyQ_snoc (l : List (Int × List Int)) (q : Int × List Int) : manyQ (l ++ [q]) = manyQ l + (if q.1 = 1 then prodI q.2 else 0) := by simp [manyQ]
theorem manyQ_le {l : List (Int × List Int)} (h : ∀ q ∈ l, Dims q.2) : ∀ n, 0 ≤ manyQ (l.take n) ∧ manyQ (l.take n) ≤ 512 * (n : Int)
  | 0 => by simp [manyQ]
  | n + 1 => by
    have ih := manyQ_le h n
    rw [List.take_add_one]
    cases hq : l[n]? with
    | none => simp; omega
    | some q =>
      have hd := (h q (List.mem_of_getElem? hq)).prod
      rw [show (some q).toList = [q] from rfl, manyQ_snoc]
      split <;> omega
set_option maxRecDepth 10000 in
set_option maxHeartbeats 8000000 in
theorem rMany_calls {w : World} {v : Value} {l : List (Int × List Int)} {m : Int} (h : LT w v l) (hn : l.length ≤ 66) (hd : ∀ q ∈ l, Dims q.2) (hm : manyQ l = m) :
    Calls Tryz.prog 50 #[v] w fun e w' => e = .returned (.int .i64 m) ∧ Ext w w' := by
  obtain ⟨A, c, rfl, hc, hl30⟩ := h.form
  have HL := Aside.mk h
  obtain ⟨n, hnn⟩ : ∃ n, l.length = n := ⟨_, rfl⟩
  have HN := Aside.mk hnn
  rw [hnn] at HL hc hl30 hn ⊢
  have HD := Aside.mk hd
  have HM := Aside.mk hm
  clear h hnn hd hm
  go_enter Tryz.func50, Tryz.ntmps50
  go_wp2
  go_loopw [3, 4] (fun o i wr => ∃ (j : Nat) (s : Int), j ≤ n ∧ i = .int .i64 (j : Int) ∧ o = .int .i64 s ∧ Aside (manyQ (l.take j) = s) ∧ Aside (Ext w wr)) (fun _ i _ => n - (intOf i).toNat)
  case atStart => exact ⟨0, 0, by omega, rfl, rfl, ⟨rfl⟩, ⟨Ext.refl w⟩⟩
  case round =>
    obtain ⟨j, s, hj, rfl, rfl, HS, HE⟩ := hrel
    by_cases hlt : j < n
    · obtain ⟨q, hq⟩ : ∃ q, l[j]? = some q := ⟨l[j]'(by rw [HN.out]; exact hlt), List.getElem?_eq_getElem _⟩
      obtain ⟨b1, o1, D, d, rfl, hq0, hq1, htq⟩ := LT.at' (SV.ext TypC.ext HL.out HE.out) j hq
      have HTQ := Aside.mk htq
      have hdq := HD.out q (List.mem_of_getElem? hq)
      have HDQ := Aside.mk hdq
      have hb1 := manyQ_le HD.out j
      have hb2 := manyQ_le HD.out (j + 1)
      have hst : manyQ (l.take (j + 1)) = s + (if q.1 = 1 then prodI q.2 else 0) := by
        rw [List.take_add_one, hq, show (some q).toList = [q] from rfl, manyQ_snoc, HS.out]
      rw [HS.out] at hb1
      rw [hst] at hb2
      generalize q.2.length = lq at *
      obtain ⟨p, hp⟩ : ∃ p, prodI q.2 = p := ⟨_, rfl⟩
      have HPR := Aside.mk hp
      rw [hp] at hst hb2
      have hp0 : (0 : Int) ≤ (j : Int) := Int.natCast_nonneg _
      have hp1 : (j : Int) < (n : Int) := by omega
      by_cases hk : q.1 = 1
      · have hk1 : (q.1 == 1) = true := by simp [hk]
        rw [if_pos hk] at hst hb2
        have w1 : IntKind.i64.wrap (s + p) = s + p := wrap_i64 _ (by omega) (by omega)
        have w2 : wrap64 (s + p) = s + p := wrap64_id (by omega) (by omega)
        have HST := Aside.mk hst
        clear hst hk hp hq htq hdq hb1 hb2
        go_wp2_with (go_at_call 40; (with_reducible refine (rSize_calls HTQ.out HDQ.out).mono ?_); rw [HPR.out]; rintro e w3 ⟨rfl, he⟩; have HE3 := Aside.mk (HE.out.trans he); clear he)
        go_roundw
        case rel => exact ⟨j + 1, s + p, by omega, by go_num, rfl, HST, HE3⟩
        case measure => simp [intOf]; omega
      · have hk1 : (q.1 == 1) = false := beq_eq_false_iff_ne.2 hk
        rw [if_neg hk, Int.add_zero] at hst
        have HST := Aside.mk hst
        clear hst hk hp hq htq hdq hb1 hb2
        go_wp2_with fail
        go_roundw
        case rel => exact ⟨j + 1, s, by omega, by go_num, rfl, HST, HE⟩
        case measure => simp [intOf]; omega
    · have hjn : j = n := by omega
      have HF : Aside (s = m) := ⟨by rw [← HM.out, ← HS.out, hjn, ← HN.out, List.take_length]⟩
      go_wp2_with fail
      go_ret
      exact ⟨by rw [← HF.out]; rfl, HE.out⟩
set_option maxRecDepth 10000 in
set_option maxHeartbeats 8000000 in
theorem rEquals_same {w : World} {x y : Value} {l : List Vq} (hx : LV w x l) (hy : LV w y l) :
    Calls Tryz.prog 52 #[x, y] w fun e w' => e = .returned (.bool true) ∧ Ext w w' := by
  obtain ⟨A, ca, rfl, hca, hl30⟩ := hx.form
  obtain ⟨A', ca', rfl, hca', _⟩ := hy.form
  have HX := Aside.mk hx
  have HY := Aside.mk hy
  obtain ⟨ln, hln⟩ : ∃ n, l.length = n := ⟨_, rfl⟩
  have HLN := Aside.mk hln
  rw [hln] at HX HY hca hca' hl30 ⊢
  clear hx hy hln
  go_enter Tryz.func52, Tryz.ntmps52
  go_wp2
  go_loopw [5] (fun i wr => ∃ j : Nat, j ≤ ln ∧ i = .int .i64 (j : Int) ∧ Aside (Ext w wr)) (fun i _ => ln - (intOf i).toNat)
  case atStart => exact ⟨0, by omega, rfl, ⟨Ext.refl w⟩⟩
  case round =>
    obtain ⟨j, hj, rfl, HE⟩ := hrel
    by_cases hlt : j < ln
    · obtain ⟨q, hq⟩ : ∃ q, l[j]? = some q := ⟨l[j]'(by rw [HLN.out]; exact hlt), List.getElem?_eq_getElem _⟩
      obtain ⟨b0, o0, d0, x0, y0, rfl, ha0, ha1, ha2, ha3, hr1⟩ := LV.at' (SV.ext ValC.ext HX.out HE.out.drew) j hq
      obtain ⟨b1, o1, d1, x1, y1, rfl, hb0, hb1, hb2, hb3, hr2⟩ := LV.at' (SV.ext ValC.ext HY.out HE.out.drew) j hq
      obtain ⟨D1, cd1, X1, cx1, Y1, cy1, ev⟩ := hr1.form
      simp only [Value.agg.injEq, Array.mk.injEq, List.cons.injEq, true_and, and_true] at ev
      obtain ⟨rfl, rfl, rfl⟩ := ev
      obtain ⟨D2, cd2, X2, cx2, Y2, cy2, ev⟩ := hr2.form
      simp only [Value.agg.injEq, Array.mk.injEq, List.cons.injEq, true_and, and_true] at ev
      obtain ⟨rfl, rfl, rfl⟩ := ev
      have HR1 := Aside.mk hr1
      have HR2 := Aside.mk hr2
      generalize q.ds.length = lq1 at *
      generalize q.nums.length = lq2 at *
      generalize q.bits.length = lq3 at *
      have hc1 : C4 wr.drew b0 (o0 + j * 4) (.int .i64 q.k) (.slice D1 lq1 cd1) (.slice X1 lq2 cx1) (.slice Y1 lq3 cy1) := ⟨ha0, ha1, ha2, ha3⟩
      have hc2 : C4 wr.drew b1 (o1 + j * 4) (.int .i64 q.k) (.slice D2 lq1 cd2) (.slice X2 lq2 cx2) (.slice Y2 lq3 cy2) := ⟨hb0, hb1, hb2, hb3⟩
      have hes : Aside (Ext w wr.drew) := ⟨HE.out.drew⟩
      have hp0 : (0 : Int) ≤ (j : Int) := Int.natCast_nonneg _
      have hp1 : (j : Int) < (ln : Int) := by omega
      clear ha0 ha1 ha2 ha3 hb0 hb1 hb2 hb3 hr1 hr2 hq
      go_wp2_with fail
      go_region_held3 (fun w' => Aside (Ext w w') ∧ C4 w' b0 (o0 + j * 4) (.int .i64 q.k) (.slice D1 lq1 cd1) (.slice X1 lq2 cx1) (.slice Y1 lq3 cy1) ∧ C4 w' b1 (o1 + j * 4) (.int .i64 q.k) (.slice D2 lq1 cd2) (.slice X2 lq2 cx2) (.slice Y2 lq3 cy2)) (first | (exact ⟨by assumption, by assumption, by assumption⟩) | exact ⟨he2, C4.ext he hc1, C4.ext he hc2⟩) ((go_at_call 30; (with_reducible refine (rEqual_same HR1.out HR2.out).mono ?_); rintro e w2 ⟨rfl, he⟩; have he2 := Aside.mk (HE.out.trans ((Ext.refl wr).drew.trans he))))
      go_wp2_with fail
      go_roundw
      case rel => exact ⟨j + 1, by omega, by go_num, he2⟩
      case measure => simp [intOf]; omega
    · go_wp2_with fail
      go_ret
      exact ⟨rfl, HE.out⟩
end Go.Proofs.YtcbaipnphepbeaaGreatDoor

namespace Go.Proofs.YtcbaipnphepbeaaGreatDoor
open Go.RowKit

/-- The cells of a Value: its kind and its lists' headers. -/
structure Hd where
  k : Int
  d : Value
  n : Value
  b : Value
def HdC (_ : World) (c : List Value) (h : Hd) : Prop := c = [.int .i64 h.k, h.d, h.n, h.b] ∧ ∀ u ∈ c, u.oneCell' = true
theorem HdC.ext : Grows HdC := fun _ _ _ _ _ h => h
theorem HdC.one {w : World} : ∀ c a, HdC w c a → ∀ u ∈ c, u.oneCell' = true := fun _ _ h => h.2
/-- What they read as. -/
structure Elm (base : Nat) (w : World) (h : Hd) (v : Vq) : Prop where
  kind : h.k = v.k
  dims : SO base 3 1 IntC w h.d v.ds
  nums : SO base 83 4 (RatO base) w h.n v.nums
  bits : SO base 46 2 BitC w h.b v.bits
theorem Elm.ext {base : Nat} {w w' : World} {h : Hd} {v : Vq} (H : Elm base w h v) (e : Ext w w') : Elm base w' h v := ⟨H.kind, H.dims.ext IntC.ext e, H.nums.ext (RatO.ext _) e, H.bits.ext BitC.ext e⟩
theorem Elm.mono {b b' : Nat} {w : World} {h : Hd} {v : Vq} (H : Elm b w h v) (hb : b' ≤ b) : Elm b' w h v := ⟨H.kind, H.dims.mono hb, (H.nums.mono hb).monoR fun _ _ h => h.mono hb, H.bits.mono hb⟩
structure Vls (base : Nat) (w : World) (out : Value) (hs : List Hd) (vs : List Vq) : Prop where
  row : SO base 29 4 HdC w out hs
  len : hs.length = vs.length
  elm : ∀ (j : Nat) h v, hs[j]? = some h → vs[j]? = some v → Elm base w h v
  far : ∀ (i j : Nat) h h', i ≠ j → hs[i]? = some h → hs[j]? = some h' → ∀ g, h.n.ownBlock = some g → h'.n.ownBlock ≠ some g
theorem Vls.nil {base : Nat} {w : World} : Vls base w (.slice none 0 0) [] [] := ⟨SO.nil, rfl, (fun _ _ _ h => (by simp at h)), (fun _ _ _ _ _ h => (by simp at h))⟩
theorem Vls.ext {base : Nat} {w w' : World} {out : Value} {hs : List Hd} {vs : List Vq} (H : Vls base w out hs vs) (e : Ext w w') : Vls base w' out hs vs :=
  ⟨H.row.ext HdC.ext e, H.len, fun j h v h1 h2 => (H.elm j h v h1 h2).ext e, H.far⟩
theorem Rows.zip {α β : Type} {k : Nat} {R : List Value → α → Prop} {S : List Value → β → Prop} : ∀ {xs : List Value} {l : List α} {m : List β}, Rows k R xs l → l.length = m.length →
    (∀ (j : Nat) a b, l[j]? = some a → m[j]? = some b → ∀ c, R c a → S c b) → Rows k S xs m
  | xs, [], [], h, _, _ => h
  | xs, a :: l, b :: m, h, hl, hh => by
    obtain ⟨c, t, rfl, hc, ha, h⟩ := h
    exact ⟨c, t, rfl, hc, hh 0 a b rfl rfl c ha, h.zip (by simpa using hl) fun j x y h1 h2 => hh (j + 1) x y (by simpa using h1) (by simpa using h2)⟩
  | _, [], _ :: _, _, h, _ => by simp at h
  | _, _ :: _, [], _, h, _ => by simp at h
theorem Elm.c {base : Nat} {w : World} {h : Hd} {v : Vq} (H : Elm base w h v) {c : List Value} (hc : HdC w c h) : ValC w c v :=
  ⟨h.d, h.n, h.b, by rw [← H.kind]; exact hc.1, H.dims.sv.iv, H.nums.sv.mono fun _ _ h => h.c, H.bits.sv⟩
theorem Vls.lv {base : Nat} {w : World} {out : Value} {hs : List Hd} {vs : List Vq} (H : Vls base w out hs vs) : LV w out vs := by
  obtain ⟨A, c, xs, h1, h2, h3, h4, h5, h6⟩ := H.row.sv
  exact ⟨A, c, xs, by rw [← H.len]; exact h1, by rw [← H.len]; exact h2, by rw [← H.len]; exact h3, h4, h5, h6.zip H.len fun j a b ha hb c hc => (H.elm j a b ha hb).c hc⟩
/-- An element's cells. -/
theorem Vls.at' {base : Nat} {w : World} {A : Option Addr} {n c : Nat} {hs : List Hd} {vs : List Vq} (H : Vls base w (.slice A n c) hs vs) (j : Nat) {v : Vq} (hj : vs[j]? = some v) :
    ∃ b o h, A = some ⟨b, o, none⟩ ∧ hs[j]? = some h ∧ w.cell? ⟨b, o + j * 4, none⟩ = some (.int .i64 h.k) ∧ w.cell? ⟨b, o + j * 4 + 1, none⟩ = some h.d ∧ w.cell? ⟨b, o + j * 4 + 2, none⟩ = some h.n ∧ w.cell? ⟨b, o + j * 4 + 3, none⟩ = some h.b ∧ Elm base w h v := by
  obtain ⟨h, hh⟩ : ∃ h, hs[j]? = some h := ⟨hs[j]'(by rw [H.len]; exact (List.getElem?_eq_some_iff.1 hj).1), List.getElem?_eq_getElem _⟩
  have hs' := H.row.sv.spot
  obtain ⟨ad, cs, rfl, h1, ⟨rfl, _⟩, h3⟩ := SV.at' (by decide) H.row.sv j hh
  have h4 := cells_at (hs' ad rfl) h3
  exact ⟨ad.block, ad.off, h, by rw [← (addr_of (hs' ad rfl) 0).1], hh, h4 0 rfl, h4 1 rfl, h4 2 rfl, h4 3 rfl, H.elm j h v hh hj⟩
/-- A value's lists of a call's own, as an element. -/
theorem VO.elm {b base : Nat} {w : World} {k : Int} {d n x : Value} {v : Vq} (h : VO b w (.agg #[.int .i64 k, d, n, x]) v) (hb : base ≤ b) (hk : k = v.k) : Elm base w ⟨k, d, n, x⟩ v :=
  let ⟨h1, h2, h3⟩ := h.parts; ⟨hk, h1.mono hb, (h2.mono hb).monoR fun _ _ h => h.mono hb, h3.mono hb⟩
theorem one_hd {base : Nat} {w : World} {d n x : Value} {k : Int} {v : Vq} {g : Nat} (hg : w.heap.size = g) (h : Elm base w ⟨k, d, n, x⟩ v) :
    SV 4 HdC (w.alloc (.cells #[.int .i64 k, d, n, x] 29)) (.slice (some ⟨g, 0, none⟩) 1 1) [⟨k, d, n, x⟩] := by
  subst hg
  refine (SO.lit (e := 29) (R := HdC) w [.int .i64 k, d, n, x] [⟨k, d, n, x⟩] (by simp) (Rows.one rfl ⟨rfl, ?_⟩)).sv
  intro u hu
  simp only [List.mem_cons, List.not_mem_nil, or_false] at hu
  rcases hu with rfl | rfl | rfl | rfl
  · rfl
  · exact h.dims.sv.one
  · exact h.nums.sv.one
  · exact h.bits.sv.one
/-- Behind the append of one more element the numbers of which lie in memory that is newer than the list. -/
theorem Vls.grown {base : Nat} {w w1 W : World} {out v1 : Value} {hs : List Hd} {vs : List Vq} {h : Hd} {v : Vq} (H : Vls base w out hs vs) (hE : Ext w W) (he : Elm base W h v) (hn : ∀ g, h.n.ownBlock = some g → w.heap.size ≤ g)
    (ho : SO base 29 4 HdC w1 v1 (hs ++ [h])) (hg : W.grownBy w1 out.ownBlock) : Vls base w1 v1 (hs ++ [h]) (vs ++ [v]) := by
  have HW := H.ext hE
  have hel : ∀ {h v}, Elm base W h v → Elm base w1 h v := fun E =>
    ⟨E.kind, E.dims.other HW.row (by decide) hg (fun _ _ h => h), E.nums.other HW.row (by decide) hg (RatO.grown HW.row (by decide) hg), E.bits.other HW.row (by decide) hg (fun _ _ h => h)⟩
  refine ⟨ho, by simp [H.len], fun j a b ha hb => ?_, fun i j a b hij ha hb g h1 => ?_⟩
  · rcases Nat.lt_trichotomy j hs.length with hj | hj | hj
    · rw [List.getElem?_append_left hj] at ha
      rw [List.getElem?_append_left (by rw [← H.len]; exact hj)] at hb
      exact hel (HW.elm j a b ha hb)
    · subst hj
      rw [List.getElem?_append_right (Nat.le_refl _), Nat.sub_self] at ha
      rw [H.len, List.getElem?_append_right (Nat.le_refl _), Nat.sub_self] at hb
      obtain rfl : h = a := Option.some.inj ha
      obtain rfl : v = b := Option.some.inj hb
      exact hel he
    · rw [List.getElem?_eq_none (by simp; omega)] at ha; cases ha
  · have old : ∀ (i : Nat) a, hs[i]? = some a → ∀ g, a.n.ownBlock = some g → g < w.heap.size := fun i a ha g hg => by
      obtain ⟨v, hv⟩ : ∃ v, vs[i]? = some v := ⟨vs[i]'(by rw [← H.len]; exact (List.getElem?_eq_some_iff.1 ha).1), List.getElem?_eq_getElem _⟩
      obtain ⟨xs, ho⟩ := (H.elm i a v ha hv).nums.row
      exact (ho.lt _ hg).2
    have split : ∀ (i : Nat) a, (hs ++ [h])[i]? = some a → (hs[i]? = some a) ∨ (i = hs.length ∧ a = h) := fun i a ha => by
      rcases Nat.lt_trichotomy i hs.length with hj | hj | hj
      · rw [List.getElem?_append_left hj] at ha; exact .inl ha
      · subst hj
        rw [List.getElem?_append_right (Nat.le_refl _), Nat.sub_self] at ha
        exact .inr ⟨rfl, (Option.some.inj ha).symm⟩
      · rw [List.getElem?_eq_none (by simp; omega)] at ha; cases ha
    intro h2
    rcases split i a ha with ha1 | ⟨e1, e2⟩ <;> rcases split j b hb with hb1 | ⟨e3, e4⟩
    · exact H.far i j a b hij ha1 hb1 g h1 h2
    · rw [e4] at h2; have := old i a ha1 g h1; have := hn g h2; omega
    · rw [e2] at h1; have := old j b hb1 g h2; have := hn g h1; omega
    · exact hij (by rw [e1, e3])
/-- One number is stored. -/
theorem Vls.put {base : Nat} {w : World} {out : Value} {hs : List Hd} {vs : List Vq} (H : Vls base w out hs vs) {k i : Nat} {h : Hd} {v : Vq} (hh : hs[k]? = some h) (hv : vs[k]? = some v) (hi : i < v.nums.length) {g n c : Nat} (hn : h.n = .slice (some ⟨g, 0, none⟩) n c)
    {q : Rq} {x y : Value} (hx : OV base w x q.num) (hy : OV base w y q.den) :
    Vls base ((((w.setCell ⟨g, i * 4, none⟩ (.int .i64 q.f)).setCell ⟨g, i * 4 + 1, none⟩ (.bool q.neg)).setCell ⟨g, i * 4 + 2, none⟩ x).setCell ⟨g, i * 4 + 3, none⟩ y) out hs (vs.set k { v with nums := v.nums.set i q }) := by
  have E := H.elm k h v hh hv
  have hnums := E.nums
  rw [hn] at hnums
  have keep := RatO.far4 (base := base) hnums (by decide) (i * 4) (i * 4 + 1) (i * 4 + 2) (i * 4 + 3) (.int .i64 q.f) (.bool q.neg) x y
  refine ⟨H.row.far4 (H.row.apart hnums (by decide)) _ _ _ _ _ _ _ _ (fun _ _ h => h), by simp [H.len], fun j a b ha hb => ?_, H.far⟩
  have hd : ∀ {a b}, Elm base w a b → SO base 3 1 IntC ((((w.setCell ⟨g, i * 4, none⟩ (.int .i64 q.f)).setCell ⟨g, i * 4 + 1, none⟩ (.bool q.neg)).setCell ⟨g, i * 4 + 2, none⟩ x).setCell ⟨g, i * 4 + 3, none⟩ y) a.d b.ds := fun F => F.dims.far4 (F.dims.apart hnums (by decide)) _ _ _ _ _ _ _ _ (fun _ _ h => h)
  have hb' : ∀ {a b}, Elm base w a b → SO base 46 2 BitC ((((w.setCell ⟨g, i * 4, none⟩ (.int .i64 q.f)).setCell ⟨g, i * 4 + 1, none⟩ (.bool q.neg)).setCell ⟨g, i * 4 + 2, none⟩ x).setCell ⟨g, i * 4 + 3, none⟩ y) a.b b.bits := fun F => F.bits.far4 (F.bits.apart hnums (by decide)) _ _ _ _ _ _ _ _ (fun _ _ h => h)
  by_cases hjk : j = k
  · subst hjk
    obtain rfl : h = a := Option.some.inj (hh.symm.trans ha)
    rw [List.getElem?_set_self (by have := (List.getElem?_eq_some_iff.1 hv).1; exact this)] at hb
    obtain rfl : { v with nums := v.nums.set i q } = b := Option.some.inj hb
    exact ⟨E.kind, hd (b := v) E, by rw [hn]; exact hnums.putQ i hi hx hy, hb' (b := v) E⟩
  · rw [List.getElem?_set_ne (fun e => hjk e.symm)] at hb
    have F := H.elm j a b ha hb
    have hf : a.n.ownBlock ≠ some g := H.far k j h a (fun e => hjk e.symm) hh ha g (by rw [hn]; rfl)
    exact ⟨F.kind, hd F, F.nums.far4 hf _ _ _ _ _ _ _ _ keep, hb' F⟩
end Go.Proofs.YtcbaipnphepbeaaGreatDoor

namespace Go.Proofs.YtcbaipnphepbeaaGreatDoor
open Go.RowKit
attribute [local go_sem ↓] Go.wp_at_zero Go.wp_at_succ

/-! Values filled with numbers -/
/-- How many numbers a value of a type takes. -/
def nQ (q : Int × List Int) : Nat := if q.1 = 1 then (prodI q.2).toNat else 0
def manyN (l : List (Int × List Int)) : Nat := (l.map nQ).sum
theorem manyN_snoc (l : List (Int × List Int)) (q : Int × List Int) : manyN (l ++ [q]) = manyN l + nQ q := by simp [manyN]
theorem manyN_cons (q : Int × List Int) (l : List (Int × List Int)) : manyN (q :: l) = nQ q + manyN l := by simp [manyN]
theorem manyN_succ {l : List (Int × List Int)} {j : Nat} {q : Int × List Int} (h : l[j]? = some q) : manyN (l.take (j + 1)) = manyN (l.take j) + nQ q := by
  rw [List.take_add_one, h]; exact manyN_snoc _ _
theorem manyN_take (l : List (Int × List Int)) (j : Nat) : manyN (l.take j) ≤ manyN l := by
  have e : manyN (l.take j ++ l.drop j) = manyN (l.take j) + manyN (l.drop j) := by simp only [manyN, List.map_append, List.sum_append]
  rw [List.take_append_drop] at e
  omega
/-- A value of a type with the first of some numbers, 0 for the others. -/
def elemF (q : Int × List Int) (ns : List Rq) : Vq := ⟨q.1, q.2, if q.1 = 1 then ns.take (nQ q) ++ List.replicate (nQ q - ns.length) q0 else [], if q.1 = 1 then [] else List.replicate (prodI q.2).toNat ⟨0, false⟩⟩
def fillV : List (Int × List Int) → List Rq → List Vq
  | [], _ => []
  | q :: l, ns => elemF q ns :: fillV l (ns.drop (nQ q))
theorem elemF_nil (q : Int × List Int) : elemF q [] = zeroQ q.1 q.2 := by
  unfold elemF zeroQ nQ
  by_cases h : q.1 = 1 <;> simp [h]
theorem fillV_nil : ∀ l : List (Int × List Int), fillV l [] = l.map fun q => zeroQ q.1 q.2
  | [] => rfl
  | q :: l => by rw [fillV, List.drop_nil, fillV_nil l, elemF_nil]; rfl
theorem fillV_len : ∀ (l : List (Int × List Int)) (ns : List Rq), (fillV l ns).length = l.length
  | [], _ => rfl
  | q :: l, ns => by rw [fillV, List.length_cons, fillV_len l, List.length_cons]
theorem fillV_get : ∀ (l : List (Int × List Int)) (ns : List Rq) (k : Nat) {q : Int × List Int}, l[k]? = some q → (fillV l ns)[k]? = some (elemF q (ns.drop (manyN (l.take k))))
  | a :: l, ns, 0, q, h => by
    obtain rfl : a = q := Option.some.inj h
    simp [fillV, manyN]
  | a :: l, ns, k + 1, q, h => by
    rw [fillV, List.getElem?_cons_succ, fillV_get l _ k (by simpa using h), List.drop_drop, List.take_succ_cons, manyN_cons]
  | [], _, _, _, h => by simp at h
theorem elemF_len {q : Int × List Int} (ns : List Rq) (h : q.1 = 1) : (elemF q ns).nums.length = nQ q := by
  unfold elemF
  simp only [if_pos h, List.length_append, List.length_take, List.length_replicate]
  omega
theorem elemF_nums (q : Int × List Int) (ns : List Rq) : (elemF q ns).nums.length = nQ q := by
  by_cases h : q.1 = 1
  · exact elemF_len ns h
  · unfold elemF nQ; simp [h]
theorem elemF_put {q : Int × List Int} {ns : List Rq} {i : Nat} (h : q.1 = 1) (hi : i < nQ q) (hn : ns.length = i) (x : Rq) : elemF q (ns ++ [x]) = { elemF q ns with nums := (elemF q ns).nums.set i x } := by
  unfold elemF
  simp only [if_pos h, Vq.mk.injEq, true_and, and_true]
  have e1 : (ns ++ [x]).take (nQ q) = ns ++ [x] := List.take_of_length_le (by simp; omega)
  have e2 : ns.take (nQ q) = ns := List.take_of_length_le (by omega)
  obtain ⟨m, hm⟩ : ∃ m, nQ q - ns.length = m + 1 := ⟨nQ q - ns.length - 1, by omega⟩
  have e3 : nQ q - (ns ++ [x]).length = m := by simp; omega
  rw [e1, e2, hm, e3, List.replicate_succ, ← hn]
  simp
/-- One number more. -/
theorem fill_step : ∀ (l : List (Int × List Int)) (ns : List Rq) (k i : Nat) {q : Int × List Int} (x : Rq), l[k]? = some q → q.1 = 1 → i < nQ q → ns.length = manyN (l.take k) + i →
    fillV l (ns ++ [x]) = (fillV l ns).set k { elemF q (ns.drop (manyN (l.take k))) with nums := (elemF q (ns.drop (manyN (l.take k)))).nums.set i x }
  | a :: l, ns, 0, i, q, x, h, h1, hi, hn => by
    obtain rfl : a = q := Option.some.inj h
    simp only [List.take_zero, manyN, List.map_nil, List.sum_nil, Nat.zero_add, List.drop_zero] at hn ⊢
    rw [fillV, fillV, elemF_put h1 hi hn x, List.drop_of_length_le (by simp; omega), List.drop_of_length_le (by omega), List.set_cons_zero]
  | a :: l, ns, k + 1, i, q, x, h, h1, hi, hn => by
    rw [List.take_succ_cons, manyN_cons] at hn ⊢
    have ih := fill_step l (ns.drop (nQ a)) k i x (by simpa using h) h1 hi (by rw [List.length_drop]; omega)
    rw [List.drop_drop] at ih
    rw [fillV, fillV, List.drop_append_of_le_length (by omega), ih, List.set_cons_succ]
    congr 1
    unfold elemF
    have e1 : (ns ++ [x]).take (nQ a) = ns.take (nQ a) := List.take_append_of_le_length (by omega)
    have e2 : nQ a - (ns ++ [x]).length = nQ a - ns.length := by simp; omega
    rw [e1, e2]
  | [], _, _, _, _, _, h, _, _, _ => by simp at h
/-- The error of a type. -/
def errT (q : Int × List Int) : Int := (sizeR q.1 q.2).2
def backR (l : List (Int × List Int)) (ns : List Rq) : List Vq × Int :=
  if 64 < l.length then ([], 3) else match l.find? (fun q => errT q != 0) with
  | some q => ([], errT q)
  | none => if manyN l ≠ ns.length then ([], 2) else if (ns.any fun q => !okq q) = true then ([], 5) else (fillV l ns, 0)
theorem find_first {α : Type} {p : α → Bool} {l : List α} {j : Nat} {q : α} (h : l[j]? = some q) (hp : p q = true) (hb : ∀ x ∈ l.take j, p x = false) : l.find? p = some q := by
  have e : l = l.take j ++ q :: l.drop (j + 1) := by
    have := List.getElem?_eq_some_iff.1 h
    obtain ⟨hj, rfl⟩ := this
    rw [← List.drop_eq_getElem_cons hj, List.take_append_drop]
  rw [e, List.find?_append, List.find?_eq_none.2 (fun x hx => by rw [hb x hx]; decide)]
  simp [hp]
theorem backR_type {l : List (Int × List Int)} {ns : List Rq} {j : Nat} {q : Int × List Int} (h : ¬ 64 < l.length) (hj : l[j]? = some q) (hq : errT q ≠ 0) (hb : ∀ x ∈ l.take j, errT x = 0) : backR l ns = ([], errT q) := by
  unfold backR
  rw [if_neg h, find_first hj (by simp [bne, hq]) (fun x hx => by simp [bne, hb x hx])]
theorem backR_good {l : List (Int × List Int)} {ns : List Rq} (h : ¬ 64 < l.length) (hb : ∀ x ∈ l, errT x = 0) : backR l ns = if manyN l ≠ ns.length then ([], 2) else if (ns.any fun q => !okq q) = true then ([], 5) else (fillV l ns, 0) := by
  unfold backR
  rw [if_neg h, List.find?_eq_none.2 (fun x hx => by simp [bne, hb x hx])]
/-- A list of Values and an error. -/
def ValsP (w' : World) (m : List Vq × Int) (e : Ending) : Prop := ∃ A c, e = .returned (.tuple #[.slice A m.1.length c, .int .i64 m.2]) ∧ LV w' (.slice A m.1.length c) m.1
theorem ValsP.nil {w' : World} {e : Int} : ValsP w' ([], e) (.returned (.tuple #[.slice none 0 0, .int .i64 e])) := ⟨none, 0, rfl, SV.nil⟩

theorem SV.tail {α : Type} {k : Nat} {R : World → List Value → α → Prop} {w : World} {A : Option Addr} {n c : Nat} {a : α} {l : List α} (hk : 0 < k) (h : SV k R w (.slice A n c) (a :: l)) :
    ∃ b o, A = some ⟨b, o, none⟩ ∧ n = l.length + 1 ∧ (if c - 1 = 0 then SV k R w (.slice (some ⟨b, o, none⟩) l.length 0) l else SV k R w (.slice (some ⟨b, o + k, none⟩) l.length (c - 1)) l) := by
  have hsp := h.spot
  obtain ⟨ad, cs, rfl, _⟩ := SV.at' hk h 0 (a := a) rfl
  have hs := hsp ad rfl
  have hn : n = l.length + 1 ∧ l.length + 1 ≤ c := by
    obtain ⟨A', c', xs, e, h1, _⟩ := h
    injection e with _ e1 e2
    subst e2
    exact ⟨e1, h1⟩
  obtain ⟨e0, -⟩ := addr_of hs 0
  refine ⟨ad.block, ad.off, by rw [← e0], hn.1, ?_⟩
  by_cases h0 : c - 1 = 0
  · rw [if_pos h0]
    have : l = [] := List.eq_nil_of_length_eq_zero (by omega)
    subst this
    exact ⟨_, _, [], rfl, Nat.le_refl _, Nat.zero_le _, fun _ h => by injection h with h; rw [← h], fun j v h => by simp at h, rfl⟩
  · rw [if_neg h0]
    have := h.sub (lo := 1) (m := l.length) (by simp; omega)
    rw [Nat.one_mul, List.drop_succ_cons, List.drop_zero, List.take_length] at this
    exact this
theorem KTy.grown {w w1 w2 : World} {x0 x1 : Value} {b : Option Nat} (h : KTy w x0 x1 w1) (hg : w1.grownBy w2 b) (hne : b ≠ some w.heap.size) : w2.cell? ⟨w.heap.size, 0, none⟩ = some x0 :=
  (World.cell?_of_block (a := ⟨w.heap.size, 0, none⟩) (hg.block _ (World.block_lt_of_cell? w1 ⟨w.heap.size, 0, none⟩ h.2.1) (fun e => hne e.symm))).trans h.2.1
theorem zero_to {w : World} {x : Value} {k : Int} {ds : List Int} {z : Vq} {l1 l2 l3 : Nat} (h : TV w x k ds) (hd : Dims ds) (hz : zeroQ k ds = z) (h1 : z.ds.length = l1) (h2 : z.nums.length = l2) (h3 : z.bits.length = l3) :
    Calls Tryz.prog 87 #[x] w fun e w' => ∃ D d A a B b, e = .returned (.agg #[.int .i64 z.k, .slice D l1 d, .slice A l2 a, .slice B l3 b]) ∧ Elm w.heap.size w' ⟨z.k, .slice D l1 d, .slice A l2 a, .slice B l3 b⟩ z ∧ Ext w w' := by
  subst hz h1 h2 h3
  refine (zero_calls h hd).mono ?_
  rintro e w' ⟨r, rfl, hr, he⟩
  obtain ⟨D, d, A, a, B, b, rfl⟩ := hr.vv.form
  exact ⟨D, d, A, a, B, b, rfl, hr.elm (Nat.le_refl _) rfl, he⟩
theorem SO.new_lt {α : Type} {base : Nat} {e : TypeId} {k : Nat} {R : World → List Value → α → Prop} {w : World} {v : Value} {l : List α} (h : SO base e k R w v l) : v.ownBlock ≠ some w.heap.size := h.new_ne rfl
end Go.Proofs.YtcbaipnphepbeaaGreatDoor

namespace Go.Proofs.YtcbaipnphepbeaaGreatDoor
open Go.RowKit
attribute [local go_sem ↓] Go.wp_at_zero Go.wp_at_succ

theorem Vls.form {base : Nat} {w : World} {A : Option Addr} {n c : Nat} {hs : List Hd} {vs : List Vq} (H : Vls base w (.slice A n c) hs vs) (j : Nat) {v : Vq} (hj : vs[j]? = some v) :
    ∃ b o D d X x Y y, A = some ⟨b, o, none⟩ ∧ hs[j]? = some ⟨v.k, .slice D v.ds.length d, .slice X v.nums.length x, .slice Y v.bits.length y⟩ ∧ w.cell? ⟨b, o + j * 4, none⟩ = some (.int .i64 v.k) ∧ w.cell? ⟨b, o + j * 4 + 1, none⟩ = some (.slice D v.ds.length d) ∧
      w.cell? ⟨b, o + j * 4 + 2, none⟩ = some (.slice X v.nums.length x) ∧ w.cell? ⟨b, o + j * 4 + 3, none⟩ = some (.slice Y v.bits.length y) ∧ (0 < v.nums.length → ∃ g, X = some ⟨g, 0, none⟩ ∧ base ≤ g ∧ g < w.heap.size) := by
  obtain ⟨b, o, ⟨k0, d0, n0, b0⟩, rfl, h1, h2, h3, h4, h5, E⟩ := H.at' j hj
  have hk : k0 = v.k := E.kind
  obtain ⟨D, d, e1, _⟩ := E.dims.sv.form
  obtain ⟨X, x, e2, _⟩ := E.nums.sv.form
  obtain ⟨Y, y, e3, _⟩ := E.bits.sv.form
  have e1 : d0 = _ := e1
  have e2 : n0 = _ := e2
  have e3 : b0 = _ := e3
  subst hk e1 e2 e3
  refine ⟨b, o, D, d, X, x, Y, y, rfl, h1, h2, h3, h4, h5, fun hp => ?_⟩
  obtain ⟨xs, ho⟩ := E.nums.row
  rcases ho.2 with ⟨h', h0⟩ | ⟨g, cap, cur, h', _⟩
  · omega
  · injection h' with h' _ _
    exact ⟨g, h', ho.lt g (by rw [show (Value.slice X v.nums.length x) = _ from by rw [h']]; rfl)⟩
/-- Four cells that may be stored. -/
abbrev F4 (w : World) (g o : Nat) : Prop := Fits w ⟨g, o, none⟩ ∧ Fits w ⟨g, o + 1, none⟩ ∧ Fits w ⟨g, o + 2, none⟩ ∧ Fits w ⟨g, o + 3, none⟩
theorem SO.fits {α : Type} {base : Nat} {e : TypeId} {R : World → List Value → α → Prop} {w : World} {g n c : Nat} {l : List α} (h : SO base e 4 R w (.slice (some ⟨g, 0, none⟩) n c) l) (i : Nat) (hi : i < l.length) : F4 w g (i * 4) := by
  obtain ⟨xs, ho, hl, hr⟩ := h
  have hlen := hr.length
  have hf : ∀ j, w.frozen? ⟨g, j, none⟩ = false := fun j => by
    rcases ho.2 with ⟨h', _⟩ | ⟨g', cap', cur, h', _, hh, _⟩
    · cases h'
    · injection h' with h'; injection h' with h'; injection h' with h'
      subst h'
      simp [World.frozen?, hh]
  have hn : n = l.length := by
    rcases ho.2 with ⟨h', _⟩ | ⟨g', cap', cur, h', _⟩
    · cases h'
    · injection h'
  subst hn
  have hc : ∀ j, j < xs.length → Fits w ⟨g, j, none⟩ := fun j hj => Fits.of ((ho.cellAt j (by omega)).trans (List.getElem?_eq_getElem hj)) (hf j)
  exact ⟨hc _ (by omega), hc _ (by omega), hc _ (by omega), hc _ (by omega)⟩
theorem F4.ext {w w' : World} {g o : Nat} (h : F4 w g o) (hg : g < w.heap.size) (e : Ext w w') : F4 w' g o := by
  have hF : ∀ {j : Nat}, Fits w ⟨g, j, none⟩ → Fits w' ⟨g, j, none⟩ := fun h => Fits.of ((Below.cell e hg).trans h.1) ((Below.frozen e hg).trans h.2)
  exact ⟨hF h.1, hF h.2.1, hF h.2.2.1, hF h.2.2.2⟩
theorem F4.set {w : World} {g o : Nat} (h : F4 w g o) (p : Addr) (v : Value) : F4 (w.setCell p v) g o := ⟨h.1.set _ _, h.2.1.set _ _, h.2.2.1.set _ _, h.2.2.2.set _ _⟩
/-- What the store's region reads. -/
abbrev S25 (w : World) (gb g o bx ox : Nat) (y0 y1 y2 y3 x0 x1 x2 x3 : Value) (w' : World) : Prop :=
  Aside (Ext w w') ∧ Aside (w.heap.size ≤ g ∧ g < w'.heap.size ∧ g ≠ gb ∧ g ≠ bx) ∧ B4 w' gb y0 y1 y2 y3 ∧ C4 w' bx ox x0 x1 x2 x3 ∧ F4 w' g o
theorem S25.ext {w w1 w2 : World} {gb g o bx ox : Nat} {y0 y1 y2 y3 x0 x1 x2 x3 : Value} (e : Ext w1 w2) (h : S25 w gb g o bx ox y0 y1 y2 y3 x0 x1 x2 x3 w1) : S25 w gb g o bx ox y0 y1 y2 y3 x0 x1 x2 x3 w2 :=
  ⟨⟨h.1.out.trans e⟩, ⟨h.2.1.out.1, Nat.lt_of_lt_of_le h.2.1.out.2.1 e.size, h.2.1.out.2.2⟩, h.2.2.1.ext e, C4.ext e h.2.2.2.1, h.2.2.2.2.ext h.2.1.out.2.1 e⟩
theorem S25.set {w w1 : World} {gb g o bx ox : Nat} {y0 y1 y2 y3 x0 x1 x2 x3 : Value} (h : S25 w gb g o bx ox y0 y1 y2 y3 x0 x1 x2 x3 w1) (j : Nat) (v : Value) : S25 w gb g o bx ox y0 y1 y2 y3 x0 x1 x2 x3 (w1.setCell ⟨g, j, none⟩ v) := by
  have hg := h.2.1.out
  have hc : ∀ {q : Nat} {u : Value}, w1.cell? ⟨bx, q, none⟩ = some u → (w1.setCell ⟨g, j, none⟩ v).cell? ⟨bx, q, none⟩ = some u := fun h => (World.cell?_setCell_other _ _ _ v (by intro hh; injection hh with hh; exact hg.2.2.2 hh)).trans h
  exact ⟨⟨h.1.out.set hg.1 v⟩, ⟨hg.1, by have := hg.2.1; simpa [World.setCell] using this, hg.2.2⟩, h.2.2.1.other hg.2.2.1 v, ⟨hc h.2.2.2.1.1, hc h.2.2.2.1.2.1, hc h.2.2.2.1.2.2.1, hc h.2.2.2.1.2.2.2⟩, h.2.2.2.2.set _ _⟩
theorem RO.two {b : Nat} {w : World} {f : Int} {n : Bool} {x y : Value} {q : Rq} (h : RO b w (.agg #[.int .i64 f, .bool n, x, y]) q) : OV b w x q.num ∧ OV b w y q.den := by
  obtain ⟨x', y', e, h1, h2⟩ := h
  simp only [Value.agg.injEq, Array.mk.injEq, List.cons.injEq, and_true] at e
  obtain ⟨-, -, rfl, rfl⟩ := e
  exact ⟨h1, h2⟩
theorem copied_to {w : World} {v : Value} {q : Rq} (h : RR w v q) :
    Calls Tryz.prog 97 #[v] w fun e w' => ∃ A c B d, e = .returned (.agg #[.int .i64 q.f, .bool q.neg, .slice A q.num.length c, .slice B q.den.length d]) ∧ OV w.heap.size w' (.slice A q.num.length c) q.num ∧ OV w.heap.size w' (.slice B q.den.length d) q.den ∧ Ext w w' := by
  refine (copied_calls h).mono ?_
  rintro e w' ⟨r, rfl, hr, he⟩
  obtain ⟨A, c, B, d, rfl⟩ := hr.form
  exact ⟨A, c, B, d, rfl, hr.two.1, hr.two.2, he⟩
end Go.Proofs.YtcbaipnphepbeaaGreatDoor

namespace Go.Proofs.YtcbaipnphepbeaaGreatDoor
open Go.RowKit
attribute [local go_sem ↓] Go.wp_at_zero Go.wp_at_succ

set_option maxRecDepth 10000 in
set_option maxHeartbeats 16000000 in
theorem shBack_calls {w : World} {tv nv : Value} {l : List (Int × List Int)} {ns : List Rq} {m : List Vq × Int} (ht : LT w tv l) (hn : QV w nv ns) (hm : backR l ns = m) :
    Calls Tryz.prog 49 #[tv, nv] w fun e w' => ValsP w' m e ∧ Ext w w' := by
  obtain ⟨TA, tc, rfl, htc, ht30⟩ := ht.form
  obtain ⟨XA0, xc0, rfl, hxc, hx30⟩ := hn.form
  have HT := Aside.mk ht
  have HN := Aside.mk hn
  obtain ⟨n, hnn⟩ : ∃ n, l.length = n := ⟨_, rfl⟩
  have HNN := Aside.mk hnn
  obtain ⟨N, hNN⟩ : ∃ n, ns.length = n := ⟨_, rfl⟩
  have HNL := Aside.mk hNN
  rw [hnn] at HT htc ht30 ⊢
  rw [hNN] at HN hxc hx30 ⊢
  clear ht hn hNN
  by_cases h64 : 64 < n
  · have HM : Aside (m = ([], 3)) := ⟨by rw [← hm, backR, if_pos (by omega)]⟩
    have h64' : (64 : Int) < (n : Int) := by omega
    clear hm hnn
    go_enter Tryz.func49, Tryz.ntmps49
    go_wp2
    go_ret2
    exact ⟨by rw [HM.out]; exact ValsP.nil, Ext.refl w⟩
  have h64' : ¬ (64 : Int) < (n : Int) := by omega
  have HM := Aside.mk hm
  have H64 : Aside (¬ 64 < l.length) := ⟨by omega⟩
  clear hm hnn
  go_enter Tryz.func49, Tryz.ntmps49
  go_wp2
  go_loopw [6, 7, 20] (fun o s i wr => ∃ (j : Nat) (NA : Option Addr) (nc : Nat) (c : Nat), j ≤ n ∧ c ≤ 512 * j ∧ i = .int .i64 (j : Int) ∧ o = .slice NA j nc ∧ s = .int .i64 (c : Int) ∧ Aside (manyN (l.take j) = c ∧ ∀ x ∈ l.take j, errT x = 0) ∧ Aside (Ext w wr) ∧
    Aside (∃ hs, hs.length = j ∧ Vls w.heap.size wr (.slice NA j nc) hs ((l.take j).map fun q => zeroQ q.1 q.2))) (fun _ _ i _ => n - (intOf i).toNat)
  case atStart => exact ⟨0, none, 0, 0, by omega, by omega, rfl, rfl, rfl, ⟨by simp [manyN], by simp⟩, ⟨Ext.refl w⟩, ⟨[], rfl, Vls.nil⟩⟩
  case round =>
    obtain ⟨j, NA, nc, c, hj, hc5, rfl, rfl, rfl, HC, HE, HS⟩ := hrel
    obtain ⟨hs, hhn, hl⟩ := HS.out
    have HHN := Aside.mk hhn
    have HL := Aside.mk hl
    clear HS hhn hl
    by_cases hlt : j < n
    · obtain ⟨q, hq⟩ : ∃ q, l[j]? = some q := ⟨l[j]'(by rw [HNN.out]; exact hlt), List.getElem?_eq_getElem _⟩
      obtain ⟨b1, o1, D, d, rfl, hq0, hq1, htq⟩ := LT.at' (SV.ext TypC.ext HT.out HE.out) j hq
      have HTQ := Aside.mk htq
      have HQ := Aside.mk hq
      have HJ := Aside.mk hlt
      have HJN := Aside.mk (And.intro (show n ≤ 64 by omega) hc5)
      obtain ⟨lq, hlq⟩ : ∃ n, q.2.length = n := ⟨_, rfl⟩
      rw [hlq] at hq1 HTQ
      obtain ⟨a, e0, hsz⟩ : ∃ a e, sizeR q.1 q.2 = (a, e) := ⟨_, _, rfl⟩
      have HSZ := Aside.mk hsz
      have HER : Aside (errT q = e0) := ⟨by unfold errT; rw [hsz]⟩
      have hk1 := KTy.init wr (.int .i64 q.1) (.slice D lq d) 25
      have hp0 : (0 : Int) ≤ (j : Int) := Int.natCast_nonneg _
      have hp1 : (j : Int) < (n : Int) := by omega
      by_cases he0 : e0 = 0
      · subst he0
        obtain ⟨hto, hk3', ha⟩ := sizeR_ok hsz
        have HDD := Aside.mk (tyOk_dims hto)
        have hpr := (tyOk_dims hto).prod
        rw [← ha] at hpr
        obtain ⟨z, hz⟩ : ∃ z, zeroQ q.1 q.2 = z := ⟨_, rfl⟩
        have HZ := Aside.mk hz
        obtain ⟨l1, hl1⟩ : ∃ n, z.ds.length = n := ⟨_, rfl⟩
        obtain ⟨l2, hl2⟩ : ∃ n, z.nums.length = n := ⟨_, rfl⟩
        obtain ⟨l3, hl3⟩ : ∃ n, z.bits.length = n := ⟨_, rfl⟩
        have HL1 := Aside.mk hl1
        have HL2 := Aside.mk hl2
        have HL3 := Aside.mk hl3
        have HMAP : Aside ((l.take (j + 1)).map (fun q => zeroQ q.1 q.2) = (l.take j).map (fun q => zeroQ q.1 q.2) ++ [z]) := ⟨by rw [List.take_add_one, hq, ← hz]; simp⟩
        have HERR : Aside (∀ x ∈ l.take (j + 1), errT x = 0) := ⟨fun x hx => by
          rw [List.take_add_one, hq] at hx
          rcases List.mem_append.1 hx with hx | hx
          · exact HC.out.2 x hx
          · rw [show x = q from by simpa using hx]; exact HER.out⟩
        have hms := manyN_succ hq
        rw [HC.out.1] at hms
        unfold nQ at hms
        rw [← ha] at hms
        obtain ⟨an, rfl⟩ : ∃ an : Nat, a = an := ⟨a.toNat, by omega⟩
        rw [Int.toNat_natCast] at hms
        by_cases hk : q.1 = 1
        · have hk1' : (q.1 == 1) = true := by simp [hk]
          rw [if_pos hk] at hms
          have HMS := Aside.mk hms
          have hcb : c + an ≤ 512 * (j + 1) := by omega
          have HB := Aside.mk hcb
          have HJ1 : Aside (j + 1 ≤ n) := ⟨by omega⟩
          have hc1 : c + an ≤ 40000 := by omega
          have w1 : IntKind.i64.wrap ((c : Int) + (an : Int)) = ((c + an : Nat) : Int) := by rw [wrap_i64 _ (by omega) (by omega)]; simp
          have w2 : wrap64 ((c : Int) + (an : Int)) = ((c + an : Nat) : Int) := by rw [wrap64_id (by omega) (by omega)]; simp
          clear hcb hc1
          clear hms hk hq htq hsz hlq ha hpr hz hl1 hl2 hl3 hto hk3' hc5
          go_wp2_with (first | (go_at_call 37; (with_reducible refine (sizeOf_calls (HTQ.out.ext hk1.1.out) HSZ.out).mono ?_); rintro e w3 ⟨rfl, he⟩; have hk3 := KTy.ext he hk1; clear he) | (go_at_call 87; (with_reducible refine (zero_to (HTQ.out.ext hk3.1.out) HDD.out HZ.out HL1.out HL2.out HL3.out).mono ?_); rintro e w4 ⟨D2, e2, A2, a2, B2, b2, rfl, hr, he⟩; have hk4 := KTy.ext (he.alloc (.cells #[.int .i64 z.k, .slice D2 l1 e2, .slice A2 l2 a2, .slice B2 l3 b2] 29)) hk3; have HLOW : Aside (∀ g, (Value.slice A2 l2 a2).ownBlock = some g → wr.heap.size ≤ g) := ⟨fun g hg => Nat.le_trans hk3.1.out.size (hr.nums.low g hg)⟩; have HE4 : Aside (Ext wr (w4.alloc (.cells #[.int .i64 z.k, .slice D2 l1 e2, .slice A2 l2 a2, .slice B2 l3 b2] 29))) := ⟨hk4.1.out⟩; have HELM : Aside (Elm w.heap.size (w4.alloc (.cells #[.int .i64 z.k, .slice D2 l1 e2, .slice A2 l2 a2, .slice B2 l3 b2] 29)) (⟨z.k, .slice D2 l1 e2, .slice A2 l2 a2, .slice B2 l3 b2⟩ : Hd) z) := ⟨(hr.mono (Nat.le_trans HE.out.size hk3.1.out.size)).ext ((Ext.refl w4).alloc (.cells #[.int .i64 z.k, .slice D2 l1 e2, .slice A2 l2 a2, .slice B2 l3 b2] 29))⟩; have HONE := Aside.mk (one_hd (g := w4.heap.size) rfl hr); have HS4 := Aside.mk (Nat.le_trans HE.out.size HE4.out.size); have HROW4 := Aside.mk (HL.out.row.ext HdC.ext HE4.out); have HLN2 : Aside ((hs ++ [(⟨z.k, .slice D2 l1 e2, .slice A2 l2 a2, .slice B2 l3 b2⟩ : Hd)]).length = j + 1) := ⟨by simp [HHN.out]⟩; have HLBN : Aside (hs.length + [(⟨z.k, .slice D2 l1 e2, .slice A2 l2 a2, .slice B2 l3 b2⟩ : Hd)].length ≤ 1073741824) := ⟨by have := HHN.out; have := HJ.out; simp; omega⟩; clear hr he) | (at_builtin; refine append_so (R := HdC) w.heap.size elemVal rfl _ _ rfl _ _ hs [(⟨z.k, .slice D2 l1 e2, .slice A2 l2 a2, .slice B2 l3 b2⟩ : Hd)] HROW4.out HONE.out HdC.one (fun _ _ _ _ h => h) rfl rfl HS4.out HLBN.out ?_; intro v1 w6 ho hg; obtain ⟨A5, c5, rfl, _⟩ := ho.sv.form; rw [HLN2.out] at ho ⊢; have HE6 := Aside.mk (SO.ext_grown HROW4.out (HE.out.trans HE4.out) (Nat.le_refl _) hg); have HLS6 := Aside.mk (HL.out.grown HE4.out HELM.out HLOW.out ho hg); have hc6 := KTy.grown hk4 hg (HL.out.row.new_lt); clear ho hg hk4 hk3))
          go_roundw
          case rel => exact ⟨j + 1, A5, c5, c + an, HJ1.out, HB.out, by go_num, rfl, rfl, ⟨HMS.out, HERR.out⟩, HE6, ⟨_, HLN2.out, by rw [HMAP.out]; exact HLS6.out⟩⟩
          case measure => simp [intOf]; omega
        · have hk1' : (q.1 == 1) = false := beq_eq_false_iff_ne.2 hk
          rw [if_neg hk, Nat.add_zero] at hms
          have HMS := Aside.mk hms
          have HB := Aside.mk (show c ≤ 512 * (j + 1) by omega)
          clear hms hk hq htq hsz hlq ha hpr hz hl1 hl2 hl3 hto hk3' hc5
          go_wp2_with (first | (go_at_call 37; (with_reducible refine (sizeOf_calls (HTQ.out.ext hk1.1.out) HSZ.out).mono ?_); rintro e w3 ⟨rfl, he⟩; have hk3 := KTy.ext he hk1; clear he) | (go_at_call 87; (with_reducible refine (zero_to (HTQ.out.ext hk3.1.out) HDD.out HZ.out HL1.out HL2.out HL3.out).mono ?_); rintro e w4 ⟨D2, e2, A2, a2, B2, b2, rfl, hr, he⟩; have hk4 := KTy.ext (he.alloc (.cells #[.int .i64 z.k, .slice D2 l1 e2, .slice A2 l2 a2, .slice B2 l3 b2] 29)) hk3; have HLOW : Aside (∀ g, (Value.slice A2 l2 a2).ownBlock = some g → wr.heap.size ≤ g) := ⟨fun g hg => Nat.le_trans hk3.1.out.size (hr.nums.low g hg)⟩; have HE4 : Aside (Ext wr (w4.alloc (.cells #[.int .i64 z.k, .slice D2 l1 e2, .slice A2 l2 a2, .slice B2 l3 b2] 29))) := ⟨hk4.1.out⟩; have HELM : Aside (Elm w.heap.size (w4.alloc (.cells #[.int .i64 z.k, .slice D2 l1 e2, .slice A2 l2 a2, .slice B2 l3 b2] 29)) (⟨z.k, .slice D2 l1 e2, .slice A2 l2 a2, .slice B2 l3 b2⟩ : Hd) z) := ⟨(hr.mono (Nat.le_trans HE.out.size hk3.1.out.size)).ext ((Ext.refl w4).alloc (.cells #[.int .i64 z.k, .slice D2 l1 e2, .slice A2 l2 a2, .slice B2 l3 b2] 29))⟩; have HONE := Aside.mk (one_hd (g := w4.heap.size) rfl hr); have HS4 := Aside.mk (Nat.le_trans HE.out.size HE4.out.size); have HROW4 := Aside.mk (HL.out.row.ext HdC.ext HE4.out); have HLN2 : Aside ((hs ++ [(⟨z.k, .slice D2 l1 e2, .slice A2 l2 a2, .slice B2 l3 b2⟩ : Hd)]).length = j + 1) := ⟨by simp [HHN.out]⟩; have HLBN : Aside (hs.length + [(⟨z.k, .slice D2 l1 e2, .slice A2 l2 a2, .slice B2 l3 b2⟩ : Hd)].length ≤ 1073741824) := ⟨by have := HHN.out; have := HJ.out; simp; omega⟩; clear hr he) | (at_builtin; refine append_so (R := HdC) w.heap.size elemVal rfl _ _ rfl _ _ hs [(⟨z.k, .slice D2 l1 e2, .slice A2 l2 a2, .slice B2 l3 b2⟩ : Hd)] HROW4.out HONE.out HdC.one (fun _ _ _ _ h => h) rfl rfl HS4.out HLBN.out ?_; intro v1 w6 ho hg; obtain ⟨A5, c5, rfl, _⟩ := ho.sv.form; rw [HLN2.out] at ho ⊢; have HE6 := Aside.mk (SO.ext_grown HROW4.out (HE.out.trans HE4.out) (Nat.le_refl _) hg); have HLS6 := Aside.mk (HL.out.grown HE4.out HELM.out HLOW.out ho hg); have hc6 := KTy.grown hk4 hg (HL.out.row.new_lt); clear ho hg hk4 hk3))
          go_roundw
          case rel => exact ⟨j + 1, A5, c5, c, by omega, HB.out, by go_num, rfl, rfl, ⟨HMS.out, HERR.out⟩, HE6, ⟨_, HLN2.out, by rw [HMAP.out]; exact HLS6.out⟩⟩
          case measure => simp [intOf]; omega
      · have HME : Aside (m = ([], e0)) := ⟨by rw [← HM.out, backR_type H64.out hq (by rw [HER.out]; exact he0) HC.out.2, HER.out]⟩
        have h1 : (e0 == 0) = false := beq_eq_false_iff_ne.2 he0
        have h2 : (e0 != 0) = true := by simp [bne, h1]
        clear hq htq hsz hlq he0 hc5
        go_wp2_with (go_at_call 37; (with_reducible refine (sizeOf_calls (HTQ.out.ext hk1.1.out) HSZ.out).mono ?_); rintro e w3 ⟨rfl, he⟩; have hk3 := KTy.ext he hk1; clear he)
        go_ret2
        exact ⟨by rw [HME.out]; exact ValsP.nil, HE.out.trans hk3.1.out⟩
    · have hjn : j = n := by omega
      subst hjn
      have HALL : Aside (manyN l = c ∧ ∀ x ∈ l, errT x = 0) := ⟨by have := HC.out; rwa [← HNN.out, List.take_length] at this⟩
      have HM2 : Aside ((if c ≠ N then (([], 2) : List Vq × Int) else if (ns.any fun q => !okq q) = true then ([], 5) else (fillV l ns, 0)) = m) := ⟨by rw [← HM.out, backR_good H64.out HALL.out.2, HALL.out.1, HNL.out]⟩
      have HLS : Aside (Vls w.heap.size wr (.slice NA j nc) hs (fillV l [])) := ⟨by
        have := HL.out
        rw [← HNN.out, List.take_length, ← fillV_nil] at this
        rw [← HNN.out]; exact this⟩
      by_cases hcn : c = N
      · subst hcn
        have HM3 : Aside ((if (ns.any fun q => !okq q) = true then (([], 5) : List Vq × Int) else (fillV l ns, 0)) = m) := ⟨by rw [← HM2.out, if_neg (show ¬ (c ≠ c) from fun h => h rfl)]⟩
        have hcc : ((c : Int) == (c : Int)) = true := by simp
        clear HM HM2 HC HL hc5
        go_wp2_with fail
        go_loopw [1, 50] (fun v1 i wr2 => ∃ (k m2 : Nat) (XA : Option Addr) (xc : Nat), k ≤ j ∧ i = .int .i64 (k : Int) ∧ v1 = .slice XA m2 xc ∧ Aside (m2 + manyN (l.take k) = c) ∧ Aside (Ext w wr2) ∧
          Aside (((ns.take (manyN (l.take k))).any fun q => !okq q) = false) ∧ Aside (QV w (.slice XA m2 xc) (ns.drop (manyN (l.take k)))) ∧ Aside (Vls w.heap.size wr2 (.slice NA j nc) hs (fillV l (ns.take (manyN (l.take k)))))) (fun _ i _ => j - (intOf i).toNat)
        case atStart => exact ⟨0, c, XA0, xc0, by omega, rfl, rfl, ⟨by simp [manyN]⟩, HE, ⟨by simp [manyN]⟩, ⟨by simpa [manyN] using HN.out⟩, ⟨by simpa [manyN] using HLS.out⟩⟩
        case round =>
          clear HE HLS
          obtain ⟨k, m2, XA, xc, hk, rfl, rfl, HCK, HE2, HOK, HNV, HLK⟩ := hrel
          by_cases hlt2 : k < j
          · obtain ⟨q, hq⟩ : ∃ q, l[k]? = some q := ⟨l[k]'(by rw [HNN.out]; exact hlt2), List.getElem?_eq_getElem _⟩
            have HQ := Aside.mk hq
            obtain ⟨M, hM⟩ : ∃ M, manyN (l.take k) = M := ⟨_, rfl⟩
            have HMM := Aside.mk hM
            rw [hM] at HCK HOK HNV HLK
            have hMS := manyN_succ hq
            rw [hM] at hMS
            have hMT := manyN_take l (k + 1)
            rw [HALL.out.1, hMS] at hMT
            have HMS := Aside.mk hMS
            have hv := fillV_get l (ns.take M) k hq
            rw [hM, List.drop_of_length_le (by rw [List.length_take]; omega)] at hv
            obtain ⟨b1, o1, D, d, X, x1, Y, y1, hA, hh, hc0, hc1, hc2, hc3, hXg⟩ := HLK.out.form k hv
            have HHH := Aside.mk hh
            rw [elemF_nums] at hc2 hXg HHH
            obtain ⟨nk, hnk⟩ : ∃ n, nQ q = n := ⟨_, rfl⟩
            have HNK := Aside.mk hnk
            have HMT : Aside (M + nk ≤ c) := ⟨by omega⟩
            rw [hnk] at hc2 hXg HHH HMS
            have HXG := Aside.mk hXg
            generalize (elemF q []).ds.length = lv1 at *
            generalize (elemF q []).bits.length = lv3 at *
            generalize (elemF q []).k = kv at *
            subst hA
            have hp0 : (0 : Int) ≤ (k : Int) := Int.natCast_nonneg _
            have hp1 : (k : Int) < (j : Int) := by omega
            have hb0 := B4.new (w := wr) rfl (.int .i64 kv) (.slice D lv1 d) (.slice X nk x1) (.slice Y lv3 y1) 29
            obtain ⟨gb, hgb⟩ : ∃ g, wr.heap.size = g := ⟨_, rfl⟩
            have HGB := Aside.mk hgb
            have HOK0 : Aside (((ns.take (M + 0)).any fun q => !okq q) = false) := HOK
            have HNV0 : Aside (QV w (.slice XA m2 xc) (ns.drop (M + 0))) := HNV
            have HLK0 : Aside (Vls w.heap.size (wr.alloc (.cells #[.int .i64 kv, .slice D lv1 d, .slice X nk x1, .slice Y lv3 y1] 29)) (.slice (some ⟨b1, o1, none⟩) j nc) hs (fillV l (ns.take (M + 0)))) := ⟨HLK.out.ext ((Ext.refl wr).alloc _)⟩
            have HCK0 : Aside (m2 + (M + 0) = c) := HCK
            have HEB : Aside (Ext w (wr.alloc (.cells #[.int .i64 kv, .slice D lv1 d, .slice X nk x1, .slice Y lv3 y1] 29))) := ⟨HE2.out.alloc _⟩
            clear hq hM hMS hMT hv hh hXg hnk
            go_wp2_with fail
            rw [hgb] at hb0
            try rw [hgb]
            go_loopw [1, 57] (fun v1 i wi => ∃ (i0 m3 : Nat) (XB : Option Addr) (xb : Nat), i0 ≤ nk ∧ i = .int .i64 (i0 : Int) ∧ v1 = .slice XB m3 xb ∧ Aside (m3 + (M + i0) = c) ∧ Aside (Ext w wi) ∧ B4 wi gb (.int .i64 kv) (.slice D lv1 d) (.slice X nk x1) (.slice Y lv3 y1) ∧
              Aside (((ns.take (M + i0)).any fun q => !okq q) = false) ∧ Aside (QV w (.slice XB m3 xb) (ns.drop (M + i0))) ∧ Aside (Vls w.heap.size wi (.slice (some ⟨b1, o1, none⟩) j nc) hs (fillV l (ns.take (M + i0))))) (fun _ i _ => nk - (intOf i).toNat)
            case atStart => exact ⟨0, m2, XA, xc, by omega, rfl, rfl, HCK0, HEB, hb0, HOK0, HNV0, HLK0⟩
            case round =>
              clear hb0 HOK0 HNV0 HLK0 HCK0 HEB HOK HNV HLK HE2 hc0 hc1 hc2 hc3
              obtain ⟨i0, m3, XB, xb, hi0, rfl, rfl, HCI, HEI, hbi, HOKI, HNVI, HLI⟩ := hrel
              by_cases hlt3 : i0 < nk
              · obtain ⟨g, rfl, hg1, hg2⟩ := HXG.out (by omega)
                obtain ⟨x, hx⟩ : ∃ x, ns[M + i0]? = some x := ⟨ns[M + i0]'(by have := HMT.out; have := HNL.out; omega), List.getElem?_eq_getElem _⟩
                have hdr : ns.drop (M + i0) = x :: ns.drop (M + i0 + 1) := by
                  obtain ⟨hl, rfl⟩ := List.getElem?_eq_some_iff.1 hx
                  exact List.drop_eq_getElem_cons hl
                have hnv := HNVI.out
                rw [hdr] at hnv
                obtain ⟨bx, ox, y0, z0, hXB, hx0, hx1, hx2, hx3, hrx⟩ := QV.at' hnv 0 (q := x) rfl
                obtain ⟨PA, pc, PB, pd, ev⟩ := hrx.form
                simp only [Value.agg.injEq, Array.mk.injEq, List.cons.injEq, true_and, and_true] at ev
                obtain ⟨rfl, rfl⟩ := ev
                subst hXB
                simp only [Nat.zero_mul, Nat.add_zero] at hx0 hx1 hx2 hx3
                obtain ⟨b', o', e', hm3, htail⟩ := SV.tail (by decide) hnv
                simp only [Option.some.injEq, Addr.mk.injEq, and_true] at e'
                obtain ⟨rfl, rfl⟩ := e'
                have hxb1 : m3 ≤ xb := by
                  obtain ⟨A', c', xs, e, h1, _⟩ := hnv
                  injection e with _ e1 e2
                  subst e1 e2
                  exact h1
                obtain ⟨mr, hmr⟩ : ∃ n, (ns.drop (M + i0 + 1)).length = n := ⟨_, rfl⟩
                rw [hmr] at hm3 htail
                subst hm3
                have HRX := Aside.mk hrx
                have HXI := Aside.mk hx
                have hcx : C4 wr bx ox (.int .i64 x.f) (.bool x.neg) (.slice PA x.num.length pc) (.slice PB x.den.length pd) := ⟨HEI.out.cell hx0, HEI.out.cell hx1, HEI.out.cell hx2, HEI.out.cell hx3⟩
                have hbxw : bx < w.heap.size := World.block_lt_of_cell? w ⟨bx, ox, none⟩ hx0
                have hgb2 : g < gb := by have := HGB.out; omega
                have HNE := Aside.mk (show g ≠ gb ∧ g ≠ bx ∧ w.heap.size ≤ g by omega)
                have hvi := fillV_get l (ns.take (M + i0)) k HQ.out
                have HVI := Aside.mk hvi
                have HF4 : Aside (F4 wr g (i0 * 4)) := ⟨(HLI.out.elm k _ _ HHH.out hvi).nums.fits i0 (by rw [elemF_nums, HNK.out]; exact hlt3)⟩
                have HGI : Aside (g < wr.heap.size) := ⟨Nat.lt_trans hgb2 hbi.lt⟩
                have hi1 : (0 : Int) ≤ (i0 : Int) := Int.natCast_nonneg _
                have hi2 : (i0 : Int) < (nk : Int) := by omega
                have hi3 : i0 < 1073741824 := by have := HMT.out; omega
                have HIK := Aside.mk hlt3
                obtain ⟨ok, hok⟩ : ∃ b, okq x = b := ⟨_, rfl⟩
                have HOKX := Aside.mk hok
                clear hx hdr hnv hx0 hx1 hx2 hx3 hrx hmr hvi hbxw hgb2 hg1 hg2 hok
                have HK1 : Aside (q.1 = 1) := ⟨Classical.byContradiction fun h => by have := HNK.out; unfold nQ at this; rw [if_neg h] at this; omega⟩
                by_cases h0 : xb - 1 = 0
                · rw [if_pos h0] at htail
                  obtain rfl : xb = 1 := by omega
                  obtain rfl : mr = 0 := by omega
                  have HTL : Aside (QV w (.slice (some ⟨bx, ox, none⟩) 0 0) (ns.drop (M + (i0 + 1)))) := ⟨htail⟩
                  have HCI9 : Aside (0 + (M + (i0 + 1)) = c) := ⟨by have := HCI.out; omega⟩
                  clear htail h0 hxb1
                  cases ok
                  · have HME : Aside (m = ([], 5)) := ⟨by rw [← HM3.out, if_pos (List.any_eq_true.2 ⟨x, List.mem_of_getElem? HXI.out, by rw [HOKX.out]; rfl⟩)]⟩
                    go_wp2_with (go_at_call 61; (with_reducible refine (israt_b (HRX.out.ext HEI.out) HOKX.out).mono ?_); rintro e w7 ⟨rfl, he⟩; have HE7 := Aside.mk he; have hb7 := hbi.ext he; have hcx7 := C4.ext he hcx; clear he)
                    go_ret2
                    exact ⟨by rw [HME.out]; exact ValsP.nil, HEI.out.trans HE7.out⟩
                  · have HOK9 : Aside (((ns.take (M + (i0 + 1))).any fun q => !okq q) = false) := ⟨by rw [← Nat.add_assoc, List.take_add_one, HXI.out, List.any_append, HOKI.out]; simp [HOKX.out]⟩
                    go_wp2_with (go_at_call 61; (with_reducible refine (israt_b (HRX.out.ext HEI.out) HOKX.out).mono ?_); rintro e w7 ⟨rfl, he⟩; have HE7 := Aside.mk he; have hb7 := hbi.ext he; have hcx7 := C4.ext he hcx; clear he)
                    have hs7 : S25 w gb g (i0 * 4) bx ox (.int .i64 kv) (.slice D lv1 d) (.slice (some ⟨g, 0, none⟩) nk x1) (.slice Y lv3 y1) (.int .i64 x.f) (.bool x.neg) (.slice PA x.num.length pc) (.slice PB x.den.length pd) w7.drew := S25.ext ((Ext.refl w7).drew) ⟨⟨HEI.out.trans HE7.out⟩, ⟨HNE.out.2.2, Nat.lt_of_lt_of_le HGI.out HE7.out.size, HNE.out.1, HNE.out.2.1⟩, hb7, hcx7, HF4.out.ext HGI.out HE7.out⟩
                    go_region_held3 (fun w' => S25 w gb g (i0 * 4) bx ox (.int .i64 kv) (.slice D lv1 d) (.slice (some ⟨g, 0, none⟩) nk x1) (.slice Y lv3 y1) (.int .i64 x.f) (.bool x.neg) (.slice PA x.num.length pc) (.slice PB x.den.length pd) w') ((first | assumption | exact S25.ext (by assumption) (by assumption) | exact (((S25.set (by assumption) _ _).set _ _).set _ _).set _ _)) ((go_at_call 97; (with_reducible refine (copied_to (HRX.out.ext (HEI.out.trans (HE7.out.trans ((Ext.refl w7).drew))))).mono ?_); rintro e w8 ⟨A8, c8, B8, d8, rfl, hx8, hy8, he⟩; have HX8 := Aside.mk hx8; have HY8 := Aside.mk hy8; have HE8 := Aside.mk he; clear hx8 hy8))
                    all_goals
                      have hbase : w.heap.size ≤ w7.drew.heap.size := (HEI.out.trans (HE7.out.trans ((Ext.refl w7).drew))).size
                      have HL9 : Aside (Vls w.heap.size ((((w8.setCell ⟨g, i0 * 4, none⟩ (.int .i64 x.f)).setCell ⟨g, i0 * 4 + 1, none⟩ (.bool x.neg)).setCell ⟨g, i0 * 4 + 2, none⟩ (.slice A8 x.num.length c8)).setCell ⟨g, i0 * 4 + 3, none⟩ (.slice B8 x.den.length d8)) (.slice (some ⟨b1, o1, none⟩) j nc) hs (fillV l (ns.take (M + (i0 + 1))))) := ⟨by
                        have hL8 := HLI.out.ext (HE7.out.trans (((Ext.refl w7).drew).trans HE8.out))
                        have h9 := hL8.put HHH.out HVI.out (i := i0) (by rw [elemF_nums, HNK.out]; exact HIK.out) rfl (HX8.out.mono hbase) (HY8.out.mono hbase)
                        have hst := fill_step l (ns.take (M + i0)) k i0 x HQ.out HK1.out (by rw [HNK.out]; exact HIK.out) (by rw [HMM.out, List.length_take]; have := HCI.out; have := HNL.out; omega)
                        rw [← Nat.add_assoc, List.take_add_one, HXI.out]
                        rw [show (some x).toList = [x] from rfl, hst]
                        exact h9⟩
                      have HE9 : Aside (Ext w ((((w8.setCell ⟨g, i0 * 4, none⟩ (.int .i64 x.f)).setCell ⟨g, i0 * 4 + 1, none⟩ (.bool x.neg)).setCell ⟨g, i0 * 4 + 2, none⟩ (.slice A8 x.num.length c8)).setCell ⟨g, i0 * 4 + 3, none⟩ (.slice B8 x.den.length d8))) := ⟨((((HEI.out.trans (HE7.out.trans (((Ext.refl w7).drew).trans HE8.out))).set HNE.out.2.2 _).set HNE.out.2.2 _).set HNE.out.2.2 _).set HNE.out.2.2 _⟩
                      have HB9 : Aside (B4 ((((w8.setCell ⟨g, i0 * 4, none⟩ (.int .i64 x.f)).setCell ⟨g, i0 * 4 + 1, none⟩ (.bool x.neg)).setCell ⟨g, i0 * 4 + 2, none⟩ (.slice A8 x.num.length c8)).setCell ⟨g, i0 * 4 + 3, none⟩ (.slice B8 x.den.length d8)) gb (.int .i64 kv) (.slice D lv1 d) (.slice (some ⟨g, 0, none⟩) nk x1) (.slice Y lv3 y1)) := ⟨((((hb7.ext (((Ext.refl w7).drew).trans HE8.out)).other HNE.out.1 _).other HNE.out.1 _).other HNE.out.1 _).other HNE.out.1 _⟩
                      clear hbase hs7 hb7 hcx7
                      go_wp2_with fail
                      go_roundw
                      case rel => exact ⟨i0 + 1, _, _, _, by have := HIK.out; omega, by go_num, rfl, HCI9, HE9, HB9.out, HOK9, HTL, HL9⟩
                      case measure => have := HIK.out; simp [intOf]; omega
                · rw [if_neg h0] at htail
                  have hc2 : ¬ xb = 1 := by omega
                  have HTL : Aside (QV w (.slice (some ⟨bx, ox + 4, none⟩) mr (xb - 1)) (ns.drop (M + (i0 + 1)))) := ⟨htail⟩
                  have HCI9 : Aside (mr + (M + (i0 + 1)) = c) := ⟨by have := HCI.out; omega⟩
                  clear htail h0 hxb1
                  cases ok
                  · have HME : Aside (m = ([], 5)) := ⟨by rw [← HM3.out, if_pos (List.any_eq_true.2 ⟨x, List.mem_of_getElem? HXI.out, by rw [HOKX.out]; rfl⟩)]⟩
                    go_wp2_with (go_at_call 61; (with_reducible refine (israt_b (HRX.out.ext HEI.out) HOKX.out).mono ?_); rintro e w7 ⟨rfl, he⟩; have HE7 := Aside.mk he; have hb7 := hbi.ext he; have hcx7 := C4.ext he hcx; clear he)
                    go_ret2
                    exact ⟨by rw [HME.out]; exact ValsP.nil, HEI.out.trans HE7.out⟩
                  · have HOK9 : Aside (((ns.take (M + (i0 + 1))).any fun q => !okq q) = false) := ⟨by rw [← Nat.add_assoc, List.take_add_one, HXI.out, List.any_append, HOKI.out]; simp [HOKX.out]⟩
                    go_wp2_with (go_at_call 61; (with_reducible refine (israt_b (HRX.out.ext HEI.out) HOKX.out).mono ?_); rintro e w7 ⟨rfl, he⟩; have HE7 := Aside.mk he; have hb7 := hbi.ext he; have hcx7 := C4.ext he hcx; clear he)
                    have hs7 : S25 w gb g (i0 * 4) bx ox (.int .i64 kv) (.slice D lv1 d) (.slice (some ⟨g, 0, none⟩) nk x1) (.slice Y lv3 y1) (.int .i64 x.f) (.bool x.neg) (.slice PA x.num.length pc) (.slice PB x.den.length pd) w7.drew := S25.ext ((Ext.refl w7).drew) ⟨⟨HEI.out.trans HE7.out⟩, ⟨HNE.out.2.2, Nat.lt_of_lt_of_le HGI.out HE7.out.size, HNE.out.1, HNE.out.2.1⟩, hb7, hcx7, HF4.out.ext HGI.out HE7.out⟩
                    go_region_held3 (fun w' => S25 w gb g (i0 * 4) bx ox (.int .i64 kv) (.slice D lv1 d) (.slice (some ⟨g, 0, none⟩) nk x1) (.slice Y lv3 y1) (.int .i64 x.f) (.bool x.neg) (.slice PA x.num.length pc) (.slice PB x.den.length pd) w') ((first | assumption | exact S25.ext (by assumption) (by assumption) | exact (((S25.set (by assumption) _ _).set _ _).set _ _).set _ _)) ((go_at_call 97; (with_reducible refine (copied_to (HRX.out.ext (HEI.out.trans (HE7.out.trans ((Ext.refl w7).drew))))).mono ?_); rintro e w8 ⟨A8, c8, B8, d8, rfl, hx8, hy8, he⟩; have HX8 := Aside.mk hx8; have HY8 := Aside.mk hy8; have HE8 := Aside.mk he; clear hx8 hy8))
                    all_goals
                      have hbase : w.heap.size ≤ w7.drew.heap.size := (HEI.out.trans (HE7.out.trans ((Ext.refl w7).drew))).size
                      have HL9 : Aside (Vls w.heap.size ((((w8.setCell ⟨g, i0 * 4, none⟩ (.int .i64 x.f)).setCell ⟨g, i0 * 4 + 1, none⟩ (.bool x.neg)).setCell ⟨g, i0 * 4 + 2, none⟩ (.slice A8 x.num.length c8)).setCell ⟨g, i0 * 4 + 3, none⟩ (.slice B8 x.den.length d8)) (.slice (some ⟨b1, o1, none⟩) j nc) hs (fillV l (ns.take (M + (i0 + 1))))) := ⟨by
                        have hL8 := HLI.out.ext (HE7.out.trans (((Ext.refl w7).drew).trans HE8.out))
                        have h9 := hL8.put HHH.out HVI.out (i := i0) (by rw [elemF_nums, HNK.out]; exact HIK.out) rfl (HX8.out.mono hbase) (HY8.out.mono hbase)
                        have hst := fill_step l (ns.take (M + i0)) k i0 x HQ.out HK1.out (by rw [HNK.out]; exact HIK.out) (by rw [HMM.out, List.length_take]; have := HCI.out; have := HNL.out; omega)
                        rw [← Nat.add_assoc, List.take_add_one, HXI.out]
                        rw [show (some x).toList = [x] from rfl, hst]
                        exact h9⟩
                      have HE9 : Aside (Ext w ((((w8.setCell ⟨g, i0 * 4, none⟩ (.int .i64 x.f)).setCell ⟨g, i0 * 4 + 1, none⟩ (.bool x.neg)).setCell ⟨g, i0 * 4 + 2, none⟩ (.slice A8 x.num.length c8)).setCell ⟨g, i0 * 4 + 3, none⟩ (.slice B8 x.den.length d8))) := ⟨((((HEI.out.trans (HE7.out.trans (((Ext.refl w7).drew).trans HE8.out))).set HNE.out.2.2 _).set HNE.out.2.2 _).set HNE.out.2.2 _).set HNE.out.2.2 _⟩
                      have HB9 : Aside (B4 ((((w8.setCell ⟨g, i0 * 4, none⟩ (.int .i64 x.f)).setCell ⟨g, i0 * 4 + 1, none⟩ (.bool x.neg)).setCell ⟨g, i0 * 4 + 2, none⟩ (.slice A8 x.num.length c8)).setCell ⟨g, i0 * 4 + 3, none⟩ (.slice B8 x.den.length d8)) gb (.int .i64 kv) (.slice D lv1 d) (.slice (some ⟨g, 0, none⟩) nk x1) (.slice Y lv3 y1)) := ⟨((((hb7.ext (((Ext.refl w7).drew).trans HE8.out)).other HNE.out.1 _).other HNE.out.1 _).other HNE.out.1 _).other HNE.out.1 _⟩
                      clear hbase hs7 hb7 hcx7
                      go_wp2_with fail
                      go_roundw
                      case rel => exact ⟨i0 + 1, _, _, _, by have := HIK.out; omega, by go_num, rfl, HCI9, HE9, HB9.out, HOK9, HTL, HL9⟩
                      case measure => have := HIK.out; simp [intOf]; omega
              · have hin : i0 = nk := by omega
                have hi2 : ¬ (i0 : Int) < (nk : Int) := by omega
                have HCK2 : Aside (m3 + manyN (l.take (k + 1)) = c) := ⟨by rw [HMS.out, ← hin]; exact HCI.out⟩
                have HOK2 : Aside (((ns.take (manyN (l.take (k + 1)))).any fun q => !okq q) = false) := ⟨by rw [HMS.out, ← hin]; exact HOKI.out⟩
                have HNV2 : Aside (QV w (.slice XB m3 xb) (ns.drop (manyN (l.take (k + 1))))) := ⟨by rw [HMS.out, ← hin]; exact HNVI.out⟩
                have HLK2 : Aside (Vls w.heap.size wr (.slice (some ⟨b1, o1, none⟩) j nc) hs (fillV l (ns.take (manyN (l.take (k + 1)))))) := ⟨by rw [HMS.out, ← hin]; exact HLI.out⟩
                go_wp2_with fail
                go_roundw
                case rel => exact ⟨k + 1, m3, XB, xb, by omega, by go_num, rfl, HCK2, HEI, HOK2, HNV2, HLK2⟩
                case measure => simp [intOf]; omega
          · have hkn : k = j := by omega
            have hk2 : ¬ (k : Int) < (j : Int) := by omega
            have HTK : Aside (manyN (l.take k) = c) := ⟨by rw [hkn, ← HNN.out, List.take_length]; exact HALL.out.1⟩
            have hok := HOK.out
            have hlk := HLK.out
            rw [HTK.out, ← HNL.out, List.take_length] at hok hlk
            have HME : Aside (m = (fillV l ns, 0)) := ⟨by rw [← HM3.out, hok, if_neg (by decide)]⟩
            have HLV := Aside.mk hlk.lv
            clear hok hlk
            go_wp2_with fail
            go_ret2
            exact ⟨by rw [HME.out]; exact ⟨NA, nc, by rw [fillV_len, HNN.out]; rfl, by rw [fillV_len, HNN.out]; exact HLV.out⟩, HE2.out⟩
      · have HME : Aside (m = ([], 2)) := ⟨by rw [← HM2.out, if_pos hcn]⟩
        have h1 : ((c : Int) == (N : Int)) = false := beq_eq_false_iff_ne.2 (by omega)
        have h2 : ((c : Int) != (N : Int)) = true := by simp [bne, h1]
        clear hcn
        go_wp2_with fail
        go_ret2
        exact ⟨by rw [HME.out]; exact ValsP.nil, HE.out⟩
end Go.Proofs.YtcbaipnphepbeaaGreatDoor

namespace Go.Proofs.YtcbaipnphepbeaaGreatDoor
open Go.RowKit
attribute [local go_sem ↓] Go.wp_at_zero Go.wp_at_succ

theorem Elm.put {base : Nat} {w : World} {h : Hd} {v : Vq} (E : Elm base w h v) {i : Nat} (hi : i < v.nums.length) {g n c : Nat} (hn : h.n = .slice (some ⟨g, 0, none⟩) n c) {q : Rq} {x y : Value} (hx : OV base w x q.num) (hy : OV base w y q.den) :
    Elm base ((((w.setCell ⟨g, i * 4, none⟩ (.int .i64 q.f)).setCell ⟨g, i * 4 + 1, none⟩ (.bool q.neg)).setCell ⟨g, i * 4 + 2, none⟩ x).setCell ⟨g, i * 4 + 3, none⟩ y) h { v with nums := v.nums.set i q } := by
  have hnums := E.nums
  rw [hn] at hnums
  exact ⟨E.kind, E.dims.far4 (E.dims.apart hnums (by decide)) _ _ _ _ _ _ _ _ (fun _ _ h => h), by rw [hn]; exact hnums.putQ i hi hx hy, E.bits.far4 (E.bits.apart hnums (by decide)) _ _ _ _ _ _ _ _ (fun _ _ h => h)⟩
theorem Elm.vo {base : Nat} {w : World} {k : Int} {d n b : Value} {v : Vq} (E : Elm base w ⟨k, d, n, b⟩ v) : VO base w (.agg #[.int .i64 k, d, n, b]) v :=
  ⟨d, n, b, by rw [← E.kind], E.dims, E.nums, E.bits⟩
theorem Elm.head {base : Nat} {w : World} {k : Int} {d b : Value} {X : Option Addr} {n x : Nat} {v : Vq} (E : Elm base w ⟨k, d, .slice X n x, b⟩ v) (hp : 0 < v.nums.length) : ∃ g, X = some ⟨g, 0, none⟩ ∧ base ≤ g ∧ g < w.heap.size := by
  obtain ⟨xs, ho⟩ := E.nums.row
  rcases ho.2 with ⟨h', h0⟩ | ⟨g, cap, cur, h', _⟩
  · omega
  · have h' : (Value.slice X n x) = .slice (some ⟨g, 0, none⟩) v.nums.length cap := h'
    have hl := ho.lt g (by show (Value.slice X n x).ownBlock = some g; rw [h']; rfl)
    injection h' with h' _ _
    exact ⟨g, h', hl⟩
theorem rzero_to {w : World} {x : Value} {k : Int} {ds : List Int} {z : Vq} {l1 l2 l3 : Nat} (h : TV w x k ds) (hd : Dims ds) (hz : zeroQ k ds = z) (h1 : z.ds.length = l1) (h2 : z.nums.length = l2) (h3 : z.bits.length = l3) :
    Calls Tryz.prog 41 #[x] w fun e w' => ∃ D d A a B b, e = .returned (.agg #[.int .i64 z.k, .slice D l1 d, .slice A l2 a, .slice B l3 b]) ∧ Elm w.heap.size w' ⟨z.k, .slice D l1 d, .slice A l2 a, .slice B l3 b⟩ z ∧ Ext w w' := by
  subst hz h1 h2 h3
  refine (rZero_calls h hd).mono ?_
  rintro e w' ⟨r, rfl, hr, he⟩
  obtain ⟨D, d, A, a, B, b, rfl⟩ := hr.vv.form
  exact ⟨D, d, A, a, B, b, rfl, hr.elm (Nat.le_refl _) rfl, he⟩
theorem rcopy_to {w : World} {v : Value} {q : Rq} (h : RR w v q) :
    Calls Tryz.prog 74 #[v] w fun e w' => ∃ A c B d, e = .returned (.agg #[.int .i64 q.f, .bool q.neg, .slice A q.num.length c, .slice B q.den.length d]) ∧ OV w.heap.size w' (.slice A q.num.length c) q.num ∧ OV w.heap.size w' (.slice B q.den.length d) q.den ∧ Ext w w' := by
  refine (copy_box h).mono ?_
  rintro e w' ⟨A, c, B, d, rfl, hr, he⟩
  exact ⟨A, c, B, d, rfl, hr.two.1, hr.two.2, he⟩
end Go.Proofs.YtcbaipnphepbeaaGreatDoor
