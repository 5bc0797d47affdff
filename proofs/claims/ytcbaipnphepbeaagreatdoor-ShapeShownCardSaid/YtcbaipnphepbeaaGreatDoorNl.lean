/- Contracts of shape: copied. Contracts of shape: inner. Rows of Rats the lists of which are the call’s own; append in a region that draws. Contracts of shape: own. -/
import Derived.Test.YtcbaipnphepbeaaGreatDoorNk
import Derived.Test.YtcbaipnphepbeaaGreatDoorNi
import Derived.Test.YtcbaipnphepbeaaGreatDoorNg
import Derived.Deep.RegionLaw
namespace Go.Proofs.YtcbaipnphepbeaaGreatDoor
open Go.RowKit
/-- A box of four cells that can be stored to, and a result of four. -/
abbrev KeepP (w : World) (x0 x1 x2 x3 : Value) (w' : World) : Prop :=
  KeepO w x0 x1 x2 x3 w' ∧ (w'.frozen? ⟨w.heap.size, 0, none⟩ = false ∧ w'.frozen? ⟨w.heap.size, 1, none⟩ = false ∧ w'.frozen? ⟨w.heap.size, 2, none⟩ = false ∧ w'.frozen? ⟨w.heap.size, 3, none⟩ = false)
theorem KeepP.ext {w w1 w2 : World} {x0 x1 x2 x3 : Value} (e : Ext w1 w2) (h : KeepP w x0 x1 x2 x3 w1) : KeepP w x0 x1 x2 x3 w2 := by
  have hl := World.block_lt_of_cell? _ _ h.1.2.1.1
  exact ⟨h.1.ext e, by rw [e.frees _ _ hl]; exact h.2.1, by rw [e.frees _ _ hl]; exact h.2.2.1, by rw [e.frees _ _ hl]; exact h.2.2.2.1, by rw [e.frees _ _ hl]; exact h.2.2.2.2⟩
theorem KeepP.init (w : World) (x0 x1 x2 x3 z0 z1 z2 z3 : Value) (t t' : TypeId) : KeepP w x0 x1 x2 x3 ((w.alloc (.cells #[x0, x1, x2, x3] t)).alloc (.cells #[z0, z1, z2, z3] t')) :=
  ⟨KeepO.init w x0 x1 x2 x3 z0 z1 z2 z3 t t', by simp, by simp, by simp, by simp⟩
set_option maxHeartbeats 1000000 in
theorem copied_calls {w : World} {v : Value} {q : Rq} (h : RR w v q) :
    Calls Tryz.prog 97 #[v] w fun e w' => ∃ r, e = .returned r ∧ RO w.heap.size w' r q ∧ Ext w w' := by
  obtain ⟨x, y, rfl, hx, hy⟩ := h
  obtain ⟨f, neg, xs, ys⟩ := q
  dsimp only at *
  have HX := Aside.mk hx
  have HY := Aside.mk hy
  obtain ⟨A, ca, rfl, _, hdx, _⟩ := hx
  obtain ⟨B, cb, rfl, _, hdy, _⟩ := hy
  obtain ⟨lx, hx'⟩ : ∃ n, xs.length = n := ⟨_, rfl⟩
  obtain ⟨ly, hy'⟩ : ∃ n, ys.length = n := ⟨_, rfl⟩
  rw [hx'] at HX ⊢
  rw [hy'] at HY ⊢
  have HLX := Aside.mk hx'
  have HLY := Aside.mk hy'
  clear hdx hdy hx' hy'
  have hk0 := (KeepP.init w (.int .i64 f) (.bool neg) (.slice A lx ca) (.slice B ly cb) (.int .i64 0) (.bool false) (.slice none 0 0) (.slice none 0 0) 83 83).ext ((Ext.refl _).drew)
  go_enter Tryz.func97, Tryz.ntmps97
  go_wp2
  go_region_with (first | (go_at_call 129; with_reducible refine (clone_calls (HX.out.ext (Aside.out (And.left (And.left (show KeepP w (.int .i64 f) (.bool neg) (.slice A lx ca) (.slice B ly cb) _ from by assumption)))))).mono ?_; rintro e w1 ⟨r, rfl, hr, he1⟩; have HR1 := Aside.mk hr; obtain ⟨A1, c1, rfl, _⟩ := hr.form; rw [HLX.out] at HR1 ⊢; clear hr; have hk1 := KeepP.ext he1 hk0) | (go_at_call 129; with_reducible refine (clone_calls (HY.out.ext (Aside.out (And.left (And.left (show KeepP w (.int .i64 f) (.bool neg) (.slice A lx ca) (.slice B ly cb) _ from by assumption)))))).mono ?_; rintro e w2 ⟨r, rfl, hr, he2⟩; have HR2 := Aside.mk hr; obtain ⟨A2, c2, rfl, _⟩ := hr.form; rw [HLY.out] at HR2 ⊢; clear hr; have hk2 := KeepP.ext he2 hk1))
  all_goals
    have hz : w.heap.size + 1 < w2.heap.size := World.block_lt_of_cell? _ _ hk2.1.2.2.1.1
    have hz1 : w.heap.size + 1 < w1.heap.size := World.block_lt_of_cell? _ _ hk1.1.2.2.1.1
    have HK := Aside.mk hk2
    have HZ := Aside.mk hz
    have HZ1 := Aside.mk hz1
    have HE2 := Aside.mk he2
    clear hk0 hk1 he1 he2 hz hz1
    go_wp2
    refine bodyPost_ret (v := .agg #[.int .i64 f, .bool neg, .slice A1 lx c1, .slice A2 ly c2]) (by simp [results, Tryz.results97, go_sem, hk2]) rfl ⟨_, rfl, ⟨_, _, rfl, ?_, ?_⟩, ext_set4 ((HK.out.1.1.out.set (Nat.le_refl _) _).set (Nat.le_refl _) _) (Nat.le_succ _) _ _ _ _⟩
    · exact ((((HR1.out.mono (b' := w.heap.size + 2) (by simp)).ext HE2.out).set (by show w.heap.size < _; omega) _).set (by show w.heap.size < _; omega) _).set4 (by omega) _ _ _ _ |>.mono (by omega)
    · exact (((HR2.out.mono (b' := w.heap.size + 2) (by have := HZ1.out; omega)).set (by show w.heap.size < _; omega) _).set (by show w.heap.size < _; omega) _).set4 (by omega) _ _ _ _ |>.mono (by omega)

/-! part -/
theorem Rd.sub {w : World} {ad : Addr} {cs : List Value} (hs : ad.spot = none) (h : Rd w (some ad) cs) (d : Nat) : Rd w (some (ad.add d)) (cs.drop d) := by
  intro j v hj
  rw [List.getElem?_drop] at hj
  have := h.cell1 _ _ hj
  refine ⟨_, rfl, ?_⟩
  rw [(addr_of hs (d + j)).2] at this
  rw [(addr_of hs d).2]
  rw [(addr_of (ad := ⟨ad.block, ad.off + d, none⟩) rfl j).2, Nat.add_assoc]
  exact this
theorem SV.sub {α : Type} {k : Nat} {R : World → List Value → α → Prop} {w : World} {ad : Addr} {n c : Nat} {l : List α} (h : SV k R w (.slice (some ad) n c) l) {lo m : Nat} (hm : lo + m ≤ l.length) :
    SV k R w (.slice (some ⟨ad.block, ad.off + lo * k, none⟩) m (c - lo)) ((l.drop lo).take m) := by
  have hs := h.spot _ rfl
  obtain ⟨A', c', xs, e, h2, h3, h4, h5, h6⟩ := h
  injection e with e1 e2 e3
  subst e1 e2 e3
  have hlen : ((l.drop lo).take m).length = m := by simp; omega
  refine ⟨some ⟨ad.block, ad.off + lo * k, none⟩, c - lo, (xs.drop (lo * k)).take (m * k), by rw [hlen], by rw [hlen]; omega, by rw [hlen]; omega, (fun a h => by injection h with h; rw [← h]), ?_, (h6.drop lo).take m⟩
  intro j v hj
  have h7 := Rd.sub hs h5 (lo * k)
  rw [(addr_of hs (lo * k)).2] at h7
  refine h7 j v ?_
  rw [List.getElem?_take] at hj
  split at hj
  · exact hj
  · cases hj
set_option maxRecDepth 10000 in
set_option maxHeartbeats 1000000 in
theorem partRat_calls {w : World} {v : Value} {l : List Rq} {i m : Nat} (h : QV w v l) (hi : i ≤ 8) (hm1 : 1 ≤ m) (hm : m ≤ 512) (hl : (i + 1) * m ≤ l.length ∨ l = []) :
    Calls Tryz.prog 67 #[v, .int .i64 (i : Int), .int .i64 (m : Int)] w fun e w' => ∃ r, e = .returned r ∧ SO w.heap.size 83 4 (RatK w) w' r ((l.drop (i * m)).take m) ∧ Ext w w' := by
  have H := Aside.mk h
  obtain ⟨A, c, rfl, hc, hlen⟩ := h.form
  by_cases h0 : l = []
  · subst h0
    clear h
    go_enter Tryz.func67, Tryz.ntmps67
    go_wp2
    go_ret
    exact ⟨_, rfl, by simpa using SO.nil, Ext.refl _⟩
  · have hl : (i + 1) * m ≤ l.length := hl.resolve_right h0
    have hnz : (((l.length : Nat) : Int) == 0) = false := beq_eq_false_iff_ne.2 (fun h => h0 (List.eq_nil_of_length_eq_zero (by omega)))
    cases A with
    | none => exact absurd (h.none_nil (by decide)) h0
    | some ad =>
      have hs := h.spot _ rfl
      obtain ⟨b, o, s⟩ := ad
      obtain rfl : s = none := hs
      obtain ⟨lo, hlo⟩ : ∃ lo, i * m = lo := ⟨_, rfl⟩
      have hhi : (i + 1) * m = lo + m := by rw [Nat.succ_mul, hlo]
      rw [hhi] at hl
      have hsub := h.sub hl
      rw [hlo]
      have HSUB := Aside.mk hsub
      have hlo2 : lo ≤ 4096 := by rw [← hlo]; exact Nat.mul_le_mul hi hm
      have e1 : IntKind.i64.wrap ((i : Int) * (m : Int)) = (lo : Int) := by rw [← hlo, ← Int.natCast_mul]; exact wrap_i64 _ (by omega) (by omega)
      have e2 : wrap64 ((i : Int) * (m : Int)) = (lo : Int) := by rw [← hlo, ← Int.natCast_mul]; exact wrap64_id (by omega) (by omega)
      have e3' : ((i : Int) + 1) * (m : Int) = ((lo + m : Nat) : Int) := by rw [← hhi, Int.natCast_mul]; rfl
      have e3 : IntKind.i64.wrap (((i : Int) + 1) * (m : Int)) = ((lo + m : Nat) : Int) := by rw [e3']; exact wrap_i64 _ (by omega) (by omega)
      have e4 : wrap64 (((i : Int) + 1) * (m : Int)) = ((lo + m : Nat) : Int) := by rw [e3']; exact wrap64_id (by omega) (by omega)
      have e5 : ((lo + m : Nat) : Int) = (lo : Int) + (m : Int) := by omega
      rw [e5] at e3 e4
      have hne : ¬ c = lo := Nat.ne_of_gt (Nat.lt_of_lt_of_le (Nat.lt_add_of_pos_right hm1) (Nat.le_trans hl hc))
      clear h hsub e3' hlo hhi h0 e5
      generalize l.length = n at *
      go_enter Tryz.func67, Tryz.ntmps67
      go_wp2_with (go_at_call 110; refine (cloneRat_calls HSUB.out).mono ?_; rintro e w1 ⟨r, rfl, hr, he⟩)
      go_ret
      exact ⟨_, rfl, hr, he⟩
set_option maxRecDepth 10000 in
set_option maxHeartbeats 1000000 in
theorem partBit_calls {w : World} {v : Value} {l : List Bq} {i m : Nat} (h : BV w v l) (hi : i ≤ 8) (hm1 : 1 ≤ m) (hm : m ≤ 512) (hl : (i + 1) * m ≤ l.length ∨ l = []) :
    Calls Tryz.prog 68 #[v, .int .i64 (i : Int), .int .i64 (m : Int)] w fun e w' => ∃ r, e = .returned r ∧ SO w.heap.size 46 2 BitC w' r ((l.drop (i * m)).take m) ∧ Ext w w' := by
  have H := Aside.mk h
  obtain ⟨A, c, rfl, hc, hlen⟩ := h.form
  by_cases h0 : l = []
  · subst h0
    clear h
    go_enter Tryz.func68, Tryz.ntmps68
    go_wp2
    go_ret
    exact ⟨_, rfl, by simpa using SO.nil, Ext.refl _⟩
  · have hl : (i + 1) * m ≤ l.length := hl.resolve_right h0
    have hnz : (((l.length : Nat) : Int) == 0) = false := beq_eq_false_iff_ne.2 (fun h => h0 (List.eq_nil_of_length_eq_zero (by omega)))
    cases A with
    | none => exact absurd (h.none_nil (by decide)) h0
    | some ad =>
      have hs := h.spot _ rfl
      obtain ⟨b, o, s⟩ := ad
      obtain rfl : s = none := hs
      obtain ⟨lo, hlo⟩ : ∃ lo, i * m = lo := ⟨_, rfl⟩
      have hhi : (i + 1) * m = lo + m := by rw [Nat.succ_mul, hlo]
      rw [hhi] at hl
      have hsub := h.sub hl
      rw [hlo]
      have HSUB := Aside.mk hsub
      have hlo2 : lo ≤ 4096 := by rw [← hlo]; exact Nat.mul_le_mul hi hm
      have e1 : IntKind.i64.wrap ((i : Int) * (m : Int)) = (lo : Int) := by rw [← hlo, ← Int.natCast_mul]; exact wrap_i64 _ (by omega) (by omega)
      have e2 : wrap64 ((i : Int) * (m : Int)) = (lo : Int) := by rw [← hlo, ← Int.natCast_mul]; exact wrap64_id (by omega) (by omega)
      have e3' : ((i : Int) + 1) * (m : Int) = ((lo + m : Nat) : Int) := by rw [← hhi, Int.natCast_mul]; rfl
      have e3 : IntKind.i64.wrap (((i : Int) + 1) * (m : Int)) = ((lo + m : Nat) : Int) := by rw [e3']; exact wrap_i64 _ (by omega) (by omega)
      have e4 : wrap64 (((i : Int) + 1) * (m : Int)) = ((lo + m : Nat) : Int) := by rw [e3']; exact wrap64_id (by omega) (by omega)
      have e5 : ((lo + m : Nat) : Int) = (lo : Int) + (m : Int) := by omega
      rw [e5] at e3 e4
      have hne : ¬ c = lo := Nat.ne_of_gt (Nat.lt_of_lt_of_le (Nat.lt_add_of_pos_right hm1) (Nat.le_trans hl hc))
      clear h hsub e3' hlo hhi h0 e5
      generalize l.length = n at *
      go_enter Tryz.func68, Tryz.ntmps68
      go_wp2_with (go_at_call 109; refine (cloneBit_calls HSUB.out).mono ?_; rintro e w1 ⟨r, rfl, hr, he⟩)
      go_ret
      exact ⟨_, rfl, hr, he⟩
end Go.Proofs.YtcbaipnphepbeaaGreatDoor

namespace Go.Proofs.YtcbaipnphepbeaaGreatDoor
open Go.RowKit
theorem SO.set {α : Type} {base : Nat} {e : TypeId} {k : Nat} {R : World → List Value → α → Prop} {w : World} {v : Value} {l : List α} (h : SO base e k R w v l) {p : Addr} (hp : p.block < base) (u : Value) (hR : ∀ c a, R w c a → R (w.setCell p u) c a) : SO base e k R (w.setCell p u) v l :=
  let ⟨xs, ho, hl, hr⟩ := h; ⟨xs, ownsRow_setCell_below ho hp u, hl, hr.mono hR⟩
theorem IV.tail {w : World} {A : Option Addr} {n c : Nat} {d : Int} {ds : List Int} (h : IV w (.slice A n c) (d :: ds)) :
    ∃ b o, A = some ⟨b, o, none⟩ ∧ n = ds.length + 1 ∧ (if c - 1 = 0 then SV 1 IntC w (.slice (some ⟨b, o, none⟩) ds.length 0) ds else SV 1 IntC w (.slice (some ⟨b, o + 1, none⟩) ds.length (c - 1)) ds) := by
  have hv := h.sv
  have hs := hv.spot
  obtain ⟨A', c', e, hc, _⟩ := h
  injection e with e1 e2 e3
  subst e1 e2 e3
  cases A with
  | none => exact absurd (hv.none_nil (by decide)) (by simp)
  | some ad =>
    obtain ⟨b, o, s⟩ := ad
    obtain rfl : s = none := hs _ rfl
    refine ⟨b, o, rfl, by simp, ?_⟩
    have h2 := hv.sub (lo := 1) (m := ds.length) (by simp; omega)
    have e : ((d :: ds).drop 1).take ds.length = ds := by simp
    rw [e, Nat.one_mul] at h2
    split
    · rename_i h0
      have : ds = [] := List.eq_nil_of_length_eq_zero (by simp at hc; omega)
      subst this
      exact ⟨_, _, [], rfl, Nat.le_refl _, Nat.zero_le _, (fun ad h => by injection h with h; rw [← h]), (fun j v h => by simp at h), rfl⟩
    · exact h2
set_option maxRecDepth 10000 in
set_option maxHeartbeats 1000000 in
theorem inner_calls {w : World} {v : Value} {k d : Int} {ds : List Int} (h : TV w v k (d :: ds)) :
    Calls Tryz.prog 65 #[v] w fun e w' => ∃ r, e = .returned (.agg #[.int .i64 k, r]) ∧ SO w.heap.size 3 1 IntC w' r ds ∧ Ext w w' := by
  obtain ⟨x, rfl, hi⟩ := h
  obtain ⟨A, c, rfl, hc⟩ := hi.form
  have hl : (d :: ds).length ≤ 1073741824 := let ⟨_, _, e, _, h, _⟩ := hi; h
  obtain ⟨b, o, rfl, -, hs⟩ := hi.tail
  have hc1 : 1 ≤ c := Nat.le_trans (by simp) hc
  rw [List.length_cons] at hc hl ⊢
  obtain ⟨n, hn⟩ : ∃ n, ds.length = n := ⟨_, rfl⟩
  have HN := Aside.mk hn
  rw [hn] at hc hl hs ⊢
  clear hn
  have hk0 := Keep2.init w (.int .i64 k) (.slice (some ⟨b, o, none⟩) (n + 1) c) (.int .i64 0) (.slice none 0 0) 25 25
  by_cases h0 : c - 1 = 0
  · rw [if_pos h0] at hs
    have HS := Aside.mk hs
    obtain rfl : c = 1 := by omega
    obtain rfl : n = 0 := by omega
    clear hs hi h0
    go_enter Tryz.func65, Tryz.ntmps65
    go_wp2
    go_region_with (go_at_call 108; with_reducible refine (cloneInt_calls (HS.out.ext IntC.ext (Aside.out (And.left hk0)))).mono ?_; rintro e w1 ⟨r, rfl, hr, he⟩; obtain ⟨A1, c1, rfl, _⟩ := hr.sv.form; rw [HN.out] at hr ⊢; have hk1 := Keep2.ext he hk0; have HR := Aside.mk hr; have HZ := Aside.mk (World.block_lt_of_cell? _ _ hk0.2.2.2.1.1); clear hk0 he hr)
    all_goals
      have HK := Aside.mk hk1
      go_wp2
      refine bodyPost_ret (v := .agg #[.int .i64 k, .slice A1 0 c1]) (by simp [results, Tryz.results65, go_sem, hk1]) rfl ⟨_, rfl, ?_, (HK.out.1.out.set (Nat.le_succ _) _).set (Nat.le_succ _) _⟩
      exact ((HR.out.set HZ.out _ (fun _ _ h => h)).set HZ.out _ (fun _ _ h => h)).mono (Nat.le_of_lt (Nat.lt_of_succ_lt HZ.out))
  · rw [if_neg h0] at hs
    have HS := Aside.mk hs
    have hc2 : ¬ c = 1 := by omega
    clear hs hi h0
    go_enter Tryz.func65, Tryz.ntmps65
    go_wp2
    go_region_with (go_at_call 108; with_reducible refine (cloneInt_calls (HS.out.ext IntC.ext (Aside.out (And.left hk0)))).mono ?_; rintro e w1 ⟨r, rfl, hr, he⟩; obtain ⟨A1, c1, rfl, _⟩ := hr.sv.form; rw [HN.out] at hr ⊢; have hk1 := Keep2.ext he hk0; have HR := Aside.mk hr; have HZ := Aside.mk (World.block_lt_of_cell? _ _ hk0.2.2.2.1.1); clear hk0 he hr)
    all_goals
      have HK := Aside.mk hk1
      go_wp2
      refine bodyPost_ret (v := .agg #[.int .i64 k, .slice A1 n c1]) (by simp [results, Tryz.results65, go_sem, hk1]) rfl ⟨_, rfl, ?_, (HK.out.1.out.set (Nat.le_succ _) _).set (Nat.le_succ _) _⟩
      exact ((HR.out.set HZ.out _ (fun _ _ h => h)).set HZ.out _ (fun _ _ h => h)).mono (Nat.le_of_lt (Nat.lt_of_succ_lt HZ.out))
end Go.Proofs.YtcbaipnphepbeaaGreatDoor

namespace Go.Proofs.YtcbaipnphepbeaaGreatDoor
open Go.RowKit

theorem run_append_so {α : Type} {R : World → List Value → α → Prop} {W : World} {t e ty : TypeId} {k : Nat} {base : Nat} (hT : ElemT t e k)
    {v y : Value} {l m : List α} (HO : SO base e k R W v l) (HS : SV k R W y m) (hone : ∀ c a, R W c a → ∀ u ∈ c, u.oneCell' = true)
    (hst : ∀ w1, W.grownBy w1 v.ownBlock → ∀ c a, R W c a → R w1 c a) (hbase : base ≤ W.heap.size) (hl : l.length + m.length ≤ 1073741824) :
    ∃ v1 w1, (Builtin.append_ #[t, t] ty #[v, y]).run Tryz.prog W = .ok v1 w1 ∧ SO base e k R w1 v1 (l ++ m) ∧ W.grownBy w1 v.ownBlock := by
  obtain ⟨i0, z, b, hi, hz0, hz1, hz2, hz3, hb⟩ := hT.info
  have hk := hT.pos
  obtain ⟨xs, how, hl0, hr⟩ := HO
  obtain ⟨A, c, ys, rfl, hc, hm, hsp, hrd, hr2⟩ := id HS
  cases A with
  | some ad =>
    have hall : ∀ {ys : List Value} {m : List α}, Rows k (R W) ys m → ∀ u ∈ ys, u.oneCell' = true := by
      intro ys m
      induction m generalizing ys with
      | nil => intro h u hu; cases (show ys = [] from h); cases hu
      | cons b m ih =>
        rintro ⟨c, t, rfl, hc, ha, h⟩ u hu
        rcases List.mem_append.1 hu with hu | hu
        · exact hone c b ha u hu
        · exact ih h u hu
    have h1 : (l.length + m.length) * b ≤ 1073741824 * 100 := Nat.mul_le_mul hl hb
    obtain ⟨v1, w1, h2, h3, h4, _⟩ := run_append_own_at (P := Tryz.prog) W base t ty e i0 z k b hT.und hi hz0 hz1 hz2 hz3 hk v l.length xs how ad m.length c ys hr2.length
      (Rd.cell1 hrd) (hall hr2) (by simp only [maxLen]; omega) (by omega) hbase
    exact ⟨v1, w1, h2, ⟨xs ++ ys, by rw [List.length_append]; exact h3, by rw [List.length_append]; exact hl, (hr.mono fun c a => hst w1 h4 c a).append (hr2.mono fun c a => hst w1 h4 c a)⟩, h4⟩
  | none =>
    obtain rfl := HS.none_nil hk
    have hrun := run_append_none base t ty e i0 k hT.und hi v l.length c xs how
    exact ⟨v, W, hrun, by rw [List.append_nil]; exact ⟨xs, how, hl0, hr⟩, ⟨rfl, rfl, rfl, Nat.le_refl _, fun _ _ _ => rfl⟩⟩
/-- append in a region that draws. -/
theorem step_append_so {α : Type} {R : World → List Value → α → Prop} {W : World} {t e : TypeId} {k : Nat} {ops : Array Oper} {o : Oper} {a : Act} {K : Act → World → Prop} {Q : Exit → Act → World → Prop} {E : Prop} (base : Nat) (hT : ElemT t e k)
    (hg : o.guard = none) (s x : Operand) (ho : o.op = .call { callee := .builtin .append, args := #[s, x], argTypes := #[t, t] })
    (v y : Value) (l m : List α) (HO : SO base e k R W v l) (HS : SV k R W y m) (hone : ∀ c a, R W c a → ∀ u ∈ c, u.oneCell' = true)
    (hst : ∀ w1, W.grownBy w1 v.ownBlock → ∀ c a, R W c a → R w1 c a)
    (hs : a.eval s = v) (hx : a.eval x = y) (hbase : base ≤ W.heap.size) (hl : l.length + m.length ≤ 1073741824)
    (h : ∀ v1 w1, SO base e k R w1 v1 (l ++ m) → W.grownBy w1 v.ownBlock → K (a.put o.dst v1) w1) :
    if Region.wanted o (yielded ops a.tmps) = true then Oper.wp Tryz.prog o a W K Q else E := by
  have hw : Region.wanted o (yielded ops a.tmps) = true := by simp [Region.wanted, hg]
  rw [if_pos hw]
  obtain ⟨v1, w1, hrun, h2, h3⟩ := run_append_so (ty := o.type) hT HO HS hone hst hbase hl
  unfold Oper.wp
  simp [execOp, ho, resolve, invoke, builtin, hs, hx, hrun, Result.andThen]
  exact h v1 w1 h2 h3
/-- A call in a region that draws. -/
theorem step_call {W : World} {ops : Array Oper} {o : Oper} {a : Act} {K : Act → World → Prop} {Q : Exit → Act → World → Prop} {E : Prop} {F : FuncId} {args : Array Operand} {types : Array TypeId} {post : Ending → World → Prop}
    (hC : ∀ args w, Sem.run Tryz.prog (callFunc F args) w = .ok (.enter F args) w)
    (hg : o.guard = none) (ho : o.op = .call { callee := .value (.func F), args := args, argTypes := types })
    (vs : Array Value) (ha : args.map a.eval = vs) (hc : Calls Tryz.prog F vs W post) (hr : ∀ e w', post e w' → ∃ v, e = .returned v ∧ K (a.put o.dst v) w') :
    if Region.wanted o (yielded ops a.tmps) = true then Oper.wp Tryz.prog o a W K Q else E := by
  have hw : Region.wanted o (yielded ops a.tmps) = true := by simp [Region.wanted, hg]
  rw [if_pos hw]
  unfold Oper.wp
  simp [execOp, ho, resolve, invoke, hC, go_sem]
  rw [ha]
  refine hc.mono ?_
  rintro e w' h
  obtain ⟨v, rfl, hk⟩ := hr e w' h
  exact hk

/-- Rats the lists of which are the call's own. -/
def RatO (base : Nat) (w : World) (c : List Value) (q : Rq) : Prop := ∃ x y, c = [.int .i64 q.f, .bool q.neg, x, y] ∧ OV base w x q.num ∧ OV base w y q.den
theorem RatO.ext (base : Nat) : Grows (RatO base) := fun _ _ _ _ e h => let ⟨x, y, h1, h2, h3⟩ := h; ⟨x, y, h1, h2.ext e, h3.ext e⟩
theorem RatO.c {base : Nat} {w : World} {c : List Value} {q : Rq} (h : RatO base w c q) : RatC w c q := let ⟨x, y, h1, h2, h3⟩ := h; ⟨x, y, h1, h2.rv, h3.rv⟩
theorem RatO.one {base : Nat} {w : World} : ∀ c a, RatO base w c a → ∀ u ∈ c, u.oneCell' = true := fun c a h => RatC.one c a h.c
theorem RatO.set {base : Nat} {w : World} {p : Addr} (hp : p.block < base) (u : Value) : ∀ c a, RatO base w c a → RatO base (w.setCell p u) c a := fun _ _ h => let ⟨x, y, h1, h2, h3⟩ := h; ⟨x, y, h1, h2.set hp u, h3.set hp u⟩
theorem RatO.mono {b b' : Nat} {w : World} {c : List Value} {q : Rq} (h : RatO b w c q) (hb : b' ≤ b) : RatO b' w c q := let ⟨x, y, h1, h2, h3⟩ := h; ⟨x, y, h1, h2.mono hb, h3.mono hb⟩
/-- Rows of other types lie elsewhere. -/
theorem ownsRow_ne {w : World} {b b' : Nat} {e e' : TypeId} {k k' n n' : Nat} {v v' : Value} {xs xs' : List Value} (h : w.ownsRow b e k v n xs) (h' : w.ownsRow b' e' k' v' n' xs') (hne : e ≠ e') : v.ownBlock = none ∨ v.ownBlock ≠ v'.ownBlock := by
  rcases h.2 with ⟨rfl, _⟩ | ⟨g, cap, cur, rfl, _, hg, _⟩
  · exact .inl rfl
  · refine .inr ?_
    rcases h'.2 with ⟨rfl, _⟩ | ⟨g', cap', cur', rfl, _, hg', _⟩
    · simp [Value.ownBlock]
    · simp only [Value.ownBlock, ne_eq, Option.some.injEq]
      rintro rfl
      rw [hg] at hg'
      injection hg' with hg'
      injection hg' with _ h2 _
      exact hne h2
theorem SO.row {α : Type} {base : Nat} {e : TypeId} {k : Nat} {R : World → List Value → α → Prop} {w : World} {v : Value} {l : List α} (h : SO base e k R w v l) : ∃ xs, w.ownsRow base e k v l.length xs := let ⟨xs, h, _⟩ := h; ⟨xs, h⟩
theorem SO.other {α β : Type} {b b' : Nat} {e e' : TypeId} {k k' : Nat} {R : World → List Value → α → Prop} {S : World → List Value → β → Prop} {w w1 : World} {v v' : Value} {l : List α} {m : List β}
    (h : SO b e k R w v l) (h' : SO b' e' k' S w v' m) (hne : e ≠ e') (hg : w.grownBy w1 v'.ownBlock) (hst : ∀ c a, R w c a → R w1 c a) : SO b e k R w1 v l := by
  obtain ⟨xs', ho'⟩ := h'.row
  obtain ⟨xs, ho, hl, hr⟩ := h
  exact ⟨xs, ho.kept hg (ownsRow_ne ho ho' hne), hl, hr.mono hst⟩
/-- Owned digits outlive the growth of a row of Rats. -/
theorem RatO.grown {β : Type} {b b' : Nat} {e' : TypeId} {k' : Nat} {S : World → List Value → β → Prop} {w w1 : World} {v' : Value} {m : List β} (h' : SO b' e' k' S w v' m) (hne : 89 ≠ e') (hg : w.grownBy w1 v'.ownBlock) :
    ∀ c a, RatO b w c a → RatO b w1 c a := by
  obtain ⟨xs', ho'⟩ := h'.row
  rintro c a ⟨x, y, h1, h2, h3⟩
  exact ⟨x, y, h1, h2.other hg (ownsRow_ne h2.2 ho' hne), h3.other hg (ownsRow_ne h3.2 ho' hne)⟩
/-- A Value the lists of which are the call's own. -/
def VO (base : Nat) (w : World) (x : Value) (v : Vq) : Prop := ∃ d n b, x = .agg #[.int .i64 v.k, d, n, b] ∧ SO base 3 1 IntC w d v.ds ∧ SO base 83 4 (RatO base) w n v.nums ∧ SO base 46 2 BitC w b v.bits
theorem SV.mono {α : Type} {k : Nat} {R S : World → List Value → α → Prop} {w : World} {v : Value} {l : List α} (h : SV k R w v l) (hR : ∀ c a, R w c a → S w c a) : SV k S w v l :=
  let ⟨A, c, xs, h1, h2, h3, h4, h5, h6⟩ := h; ⟨A, c, xs, h1, h2, h3, h4, h5, h6.mono hR⟩
theorem VO.vv {base : Nat} {w : World} {x : Value} {v : Vq} (h : VO base w x v) : VV w x v := let ⟨d, n, b, h1, h2, h3, h4⟩ := h; ⟨d, n, b, h1, h2.sv.iv, h3.sv.mono fun _ _ h => h.c, h4.sv⟩
theorem KeepP.below {w w1 w2 : World} {x0 x1 x2 x3 : Value} (h : KeepP w x0 x1 x2 x3 w1) (b : Below (w.heap.size + 2) w1 w2) : KeepP w x0 x1 x2 x3 w2 := by
  obtain ⟨⟨h0, ⟨h1, h2, h3, h4⟩, ⟨h5, h6, h7, h8⟩⟩, f1, f2, f3, f4⟩ := h
  have hc : ∀ {g j : Nat} {v : Value}, g < w.heap.size + 2 → w1.cell? ⟨g, j, none⟩ = some v → w2.cell? ⟨g, j, none⟩ = some v := fun hg h => (Below.cell b hg).trans h
  have hf : ∀ {g j : Nat}, g < w.heap.size + 2 → w1.frozen? ⟨g, j, none⟩ = false → w2.frozen? ⟨g, j, none⟩ = false := fun hg h => (Below.frozen b hg).trans h
  have hF : ∀ {g j : Nat}, g < w.heap.size + 2 → Fits w1 ⟨g, j, none⟩ → Fits w2 ⟨g, j, none⟩ := fun hg h => Fits.of (hc hg h.1) (hf hg h.2)
  exact ⟨⟨⟨Below.trans h0.out (Below.mono b (by omega))⟩, ⟨hc (by omega) h1, hc (by omega) h2, hc (by omega) h3, hc (by omega) h4⟩, ⟨hF (by omega) h5, hF (by omega) h6, hF (by omega) h7, hF (by omega) h8⟩⟩, hf (by omega) f1, hf (by omega) f2, hf (by omega) f3, hf (by omega) f4⟩
theorem KeepP.put1 {w w1 : World} {x0 x1 x2 x3 : Value} (h : KeepP w x0 x1 x2 x3 w1) (v : Value) : KeepP w x0 v x2 x3 (w1.setCell ⟨w.heap.size, 1, none⟩ v) := by
  obtain ⟨⟨h0, ⟨h1, h2, h3, h4⟩, ⟨h5, h6, h7, h8⟩⟩, f1, f2, f3, f4⟩ := h
  have ho : ∀ {j : Nat} {u : Value}, j ≠ 1 → w1.cell? ⟨w.heap.size, j, none⟩ = some u → (w1.setCell ⟨w.heap.size, 1, none⟩ v).cell? ⟨w.heap.size, j, none⟩ = some u := fun hj h => (World.cell?_setCell_other _ _ _ v (by intro hh; injection hh with _ hh; omega)).trans h
  exact ⟨⟨⟨h0.out.set (Nat.le_refl _) v⟩, ⟨ho (by decide) h1, World.cell?_setCell_same _ _ v h2, ho (by decide) h3, ho (by decide) h4⟩, ⟨h5.set _ _, h6.set _ _, h7.set _ _, h8.set _ _⟩⟩, by rw [World.frozen?_setCell]; exact f1, by rw [World.frozen?_setCell]; exact f2, by rw [World.frozen?_setCell]; exact f3, by rw [World.frozen?_setCell]; exact f4⟩
theorem KeepP.put2 {w w1 : World} {x0 x1 x2 x3 : Value} (h : KeepP w x0 x1 x2 x3 w1) (v : Value) : KeepP w x0 x1 v x3 (w1.setCell ⟨w.heap.size, 2, none⟩ v) := by
  obtain ⟨⟨h0, ⟨h1, h2, h3, h4⟩, ⟨h5, h6, h7, h8⟩⟩, f1, f2, f3, f4⟩ := h
  have ho : ∀ {j : Nat} {u : Value}, j ≠ 2 → w1.cell? ⟨w.heap.size, j, none⟩ = some u → (w1.setCell ⟨w.heap.size, 2, none⟩ v).cell? ⟨w.heap.size, j, none⟩ = some u := fun hj h => (World.cell?_setCell_other _ _ _ v (by intro hh; injection hh with _ hh; omega)).trans h
  exact ⟨⟨⟨h0.out.set (Nat.le_refl _) v⟩, ⟨ho (by decide) h1, ho (by decide) h2, World.cell?_setCell_same _ _ v h3, ho (by decide) h4⟩, ⟨h5.set _ _, h6.set _ _, h7.set _ _, h8.set _ _⟩⟩, by rw [World.frozen?_setCell]; exact f1, by rw [World.frozen?_setCell]; exact f2, by rw [World.frozen?_setCell]; exact f3, by rw [World.frozen?_setCell]; exact f4⟩
theorem KeepP.put3 {w w1 : World} {x0 x1 x2 x3 : Value} (h : KeepP w x0 x1 x2 x3 w1) (v : Value) : KeepP w x0 x1 x2 v (w1.setCell ⟨w.heap.size, 3, none⟩ v) := by
  obtain ⟨⟨h0, ⟨h1, h2, h3, h4⟩, ⟨h5, h6, h7, h8⟩⟩, f1, f2, f3, f4⟩ := h
  have ho : ∀ {j : Nat} {u : Value}, j ≠ 3 → w1.cell? ⟨w.heap.size, j, none⟩ = some u → (w1.setCell ⟨w.heap.size, 3, none⟩ v).cell? ⟨w.heap.size, j, none⟩ = some u := fun hj h => (World.cell?_setCell_other _ _ _ v (by intro hh; injection hh with _ hh; omega)).trans h
  exact ⟨⟨⟨h0.out.set (Nat.le_refl _) v⟩, ⟨ho (by decide) h1, ho (by decide) h2, ho (by decide) h3, World.cell?_setCell_same _ _ v h4⟩, ⟨h5.set _ _, h6.set _ _, h7.set _ _, h8.set _ _⟩⟩, by rw [World.frozen?_setCell]; exact f1, by rw [World.frozen?_setCell]; exact f2, by rw [World.frozen?_setCell]; exact f3, by rw [World.frozen?_setCell]; exact f4⟩
end Go.Proofs.YtcbaipnphepbeaaGreatDoor

namespace Go.Proofs.YtcbaipnphepbeaaGreatDoor
open Go.RowKit
theorem SO.set4 {α : Type} {base : Nat} {e : TypeId} {k : Nat} {R : World → List Value → α → Prop} {w : World} {v : Value} {l : List α} (h : SO base e k R w v l) {g : Nat} (hg : g < base) (v0 v1 v2 v3 : Value)
    (hR : ∀ (w : World) (p : Addr), p.block < base → ∀ u c a, R w c a → R (w.setCell p u) c a) :
    SO base e k R ((((w.setCell ⟨g, 0, none⟩ v0).setCell ⟨g, 1, none⟩ v1).setCell ⟨g, 2, none⟩ v2).setCell ⟨g, 3, none⟩ v3) v l :=
  (((h.set hg v0 (hR _ _ hg _)).set hg v1 (hR _ _ hg _)).set hg v2 (hR _ _ hg _)).set hg v3 (hR _ _ hg _)
theorem SO.monoR {α : Type} {base : Nat} {e : TypeId} {k : Nat} {R S : World → List Value → α → Prop} {w : World} {v : Value} {l : List α} (h : SO base e k R w v l) (hR : ∀ c a, R w c a → S w c a) : SO base e k S w v l :=
  let ⟨xs, ho, hl, hr⟩ := h; ⟨xs, ho, hl, hr.mono hR⟩
theorem SO.low {α : Type} {base : Nat} {e : TypeId} {k : Nat} {R : World → List Value → α → Prop} {w : World} {v : Value} {l : List α} (h : SO base e k R w v l) : ∀ k, v.ownBlock = some k → base ≤ k := by
  obtain ⟨xs, ho⟩ := h.row
  exact fun k hk => (ho.lt k hk).1
theorem one_rat {base b : Nat} {w : World} {f : Int} {n : Bool} {x y : Value} {q : Rq} (h : RO b w (.agg #[.int .i64 f, .bool n, x, y]) q) (hb : base ≤ b) :
    SV 4 (RatO base) (w.alloc (.cells #[.int .i64 f, .bool n, x, y] 83)) (.slice (some ⟨w.heap.size, 0, none⟩) 1 1) [q] := by
  obtain ⟨x', y', e, h1, h2⟩ := h
  simp only [Value.agg.injEq, Array.mk.injEq, List.cons.injEq, Value.int.injEq, Value.bool.injEq, true_and, and_true] at e
  obtain ⟨rfl, rfl, rfl, rfl⟩ := e
  exact (SO.lit (e := 83) (R := RatO base) w [.int .i64 q.f, .bool q.neg, x, y] [q] (by simp) (Rows.one rfl ⟨x, y, rfl, (h1.mono hb).ext ((Ext.refl _).alloc _), (h2.mono hb).ext ((Ext.refl _).alloc _)⟩)).sv
set_option maxRecDepth 10000 in
set_option maxHeartbeats 4000000 in
theorem own_calls {w : World} {x : Value} {v : Vq} (h : VV w x v) :
    Calls Tryz.prog 66 #[x] w fun e w' => ∃ r, e = .returned r ∧ VO w.heap.size w' r v ∧ Ext w w' := by
  obtain ⟨d, n, b, rfl, hd, hn, hb⟩ := h
  obtain ⟨k, ds, nums, bits⟩ := v
  dsimp only at hd hn hb ⊢
  have HD := Aside.mk hd.sv
  have HN := Aside.mk hn
  have HB := Aside.mk hb
  obtain ⟨D, cd, rfl, _⟩ := hd.form
  obtain ⟨A, ca, rfl, hca, hln⟩ := hn.form
  obtain ⟨B, cb, rfl, _⟩ := hb.form
  obtain ⟨nd, hnd⟩ : ∃ n, ds.length = n := ⟨_, rfl⟩
  obtain ⟨nn, hnn⟩ : ∃ n, nums.length = n := ⟨_, rfl⟩
  obtain ⟨nb, hnb⟩ : ∃ n, bits.length = n := ⟨_, rfl⟩
  have HND := Aside.mk hnd
  have HNN := Aside.mk hnn
  have HNB := Aside.mk hnb
  rw [hnd] at HD ⊢
  rw [hnn] at HN hca hln ⊢
  rw [hnb] at HB ⊢
  clear hd hn hb hnd hnn hnb
  have hk0 := (KeepP.init w (.int .i64 k) (.slice D nd cd) (.slice A nn ca) (.slice B nb cb) (.int .i64 0) (.slice none 0 0) (.slice none 0 0) (.slice none 0 0) 29 29).ext ((Ext.refl _).drew)
  go_enter Tryz.func66, Tryz.ntmps66
  go_upto_region 1 with fail
  go_cut [] from 6 to 16 (fun wx => ∃ A1 c1 A2 c2, KeepP w (.int .i64 k) (.slice A1 nd c1) (.slice A nn ca) (.slice A2 nb c2) wx ∧ Aside (SO (w.heap.size + 2) 3 1 IntC wx (.slice A1 nd c1) ds) ∧ Aside (SO (w.heap.size + 2) 46 2 BitC wx (.slice A2 nb c2) bits))
  case first =>
    go_wp2
    go_region_with (first | (go_at_call 108; with_reducible refine (cloneInt_calls (HD.out.ext IntC.ext (Aside.out (And.left (And.left (show KeepP w (.int .i64 k) (.slice D nd cd) (.slice A nn ca) (.slice B nb cb) _ from by assumption)))))).mono ?_; rintro e w1 ⟨r, rfl, hr, he1⟩; obtain ⟨A1, c1, rfl, _⟩ := hr.sv.form; rw [HND.out] at hr ⊢; have hk1 := KeepP.ext he1 hk0; have HR1 := Aside.mk hr; clear hr) | (go_at_call 109; with_reducible refine (cloneBit_calls (HB.out.ext BitC.ext (Aside.out (And.left (And.left (show KeepP w (.int .i64 k) (.slice D nd cd) (.slice A nn ca) (.slice B nb cb) _ from by assumption)))))).mono ?_; rintro e w2 ⟨r, rfl, hr, he2⟩; obtain ⟨A2, c2, rfl, _⟩ := hr.sv.form; rw [HNB.out] at hr ⊢; have hk2 := KeepP.ext he2 hk1; have HR2 := Aside.mk hr; clear hr))
    all_goals
      go_wp2
      go_meet
      have hz : w.heap.size + 1 < w1.heap.size := World.block_lt_of_cell? _ _ hk1.1.2.2.1.1
      exact ⟨A1, c1, A2, c2, (hk2.put1 _).put3 _, ⟨(((HR1.out.mono (b' := w.heap.size + 2) (by simp)).ext IntC.ext he2).set (by show w.heap.size < _; omega) _ (fun _ _ h => h)).set (by show w.heap.size < _; omega) _ (fun _ _ h => h)⟩,
        ⟨((HR2.out.mono (b' := w.heap.size + 2) (by omega)).set (by show w.heap.size < _; omega) _ (fun _ _ h => h)).set (by show w.heap.size < _; omega) _ (fun _ _ h => h)⟩⟩
  case rest =>
    clear hk0
    obtain ⟨A1, c1, A2, c2, hk0, HR1, HR2⟩ := hcut
    have hk2 := hk0.put2 (.slice none 0 0)
    have HS1 : Aside (SO (w.heap.size + 2) 3 1 IntC (wc.setCell ⟨w.heap.size, 2, none⟩ (.slice none 0 0)) (.slice A1 nd c1) ds) := ⟨HR1.out.set (by show w.heap.size < _; omega) _ (fun _ _ h => h)⟩
    have HS2 : Aside (SO (w.heap.size + 2) 46 2 BitC (wc.setCell ⟨w.heap.size, 2, none⟩ (.slice none 0 0)) (.slice A2 nb c2) bits) := ⟨HR2.out.set (by show w.heap.size < _; omega) _ (fun _ _ h => h)⟩
    go_wp2_with fail
    go_loopw [21] (fun i wr => ∃ (j : Nat) (N : Option Addr) (cN : Nat), j ≤ nn ∧ i = .int .i64 (j : Int) ∧ KeepP w (.int .i64 k) (.slice A1 nd c1) (.slice N j cN) (.slice A2 nb c2) wr ∧ Aside (SO (w.heap.size + 2) 3 1 IntC wr (.slice A1 nd c1) ds) ∧ Aside (SO (w.heap.size + 2) 46 2 BitC wr (.slice A2 nb c2) bits) ∧ Aside (SO (w.heap.size + 2) 83 4 (RatO (w.heap.size + 2)) wr (.slice N j cN) (nums.take j))) (fun i _ => nn - (intOf i).toNat)
    case atStart => exact ⟨0, none, 0, by omega, rfl, hk2, HS1, HS2, ⟨by rw [List.take_zero]; exact SO.nil⟩⟩
    case round =>
      clear hk0 hk2 HR1 HR2 HS1 HS2
      obtain ⟨j, N, cN, hj, rfl, hk0, HR1, HR2, HR3⟩ := hrel
      by_cases hlt : j < nn
      · obtain ⟨q, hq⟩ : ∃ q, nums[j]? = some q := ⟨nums[j]'(by rw [HNN.out]; exact hlt), List.getElem?_eq_getElem _⟩
        obtain ⟨b0, o0, x, y, rfl, hc0, hc1, hc2, hc3, hrr⟩ := QV.at' (SV.ext RatC.ext HN.out hk0.1.1.out) j hq
        obtain ⟨A3, c3, B3, d3, he⟩ := hrr.form
        simp only [Value.agg.injEq, Array.mk.injEq, List.cons.injEq, true_and, and_true] at he
        obtain ⟨rfl, rfl⟩ := he
        have HRR := Aside.mk hrr
        have HQ := Aside.mk hq
        have HK := Aside.mk hk0
        clear hq hrr
        go_wp2_with fail
        have hk1 := hk0.ext ((((Ext.refl wr).alloc (.cells #[.int .i64 q.f, .bool q.neg, .slice A3 q.num.length c3, .slice B3 q.den.length d3] 83))).drew)
        have HE := Aside.mk ((((Ext.refl wr).alloc (.cells #[.int .i64 q.f, .bool q.neg, .slice A3 q.num.length c3, .slice B3 q.den.length d3] 83))).drew)
        have HZ : Aside (w.heap.size + 1 < wr.heap.size) := ⟨World.block_lt_of_cell? _ _ HK.out.1.2.2.1.1⟩
        have HL3 : Aside ((nums.take j).length + [q].length ≤ 1073741824) := ⟨by simp; omega⟩
        have HLEN : Aside ((nums.take j ++ [q]).length = j + 1) := ⟨by simp [HNN.out]; omega⟩
        have HCC : Aside (∀ args w, Sem.run Tryz.prog (callFunc 97 args) w = .ok (.enter 97 args) w) := ⟨by intro args w; simp [go_sem]⟩
        go_region_law (first | (refine step_call (F := 97) (args := #[.tmp 27]) (types := #[83]) HCC.out rfl rfl #[.agg #[.int .i64 q.f, .bool q.neg, .slice A3 q.num.length c3, .slice B3 q.den.length d3]] (by simp [Act.eval]) (copied_calls (HRR.out.ext HE.out)) ?_; rintro e w3 ⟨r, rfl, hr, he⟩; obtain ⟨A4, c4, B4, d4, rfl⟩ := hr.rr.form; have hk3 := hk1.ext he; have hk3b := hk3.ext ((Ext.refl w3).alloc (.cells #[.int .i64 q.f, .bool q.neg, .slice A4 q.num.length c4, .slice B4 q.den.length d4] 83)); have HE3 := Aside.mk ((HE.out.trans he).alloc (.cells #[.int .i64 q.f, .bool q.neg, .slice A4 q.num.length c4, .slice B4 q.den.length d4] 83)); have HO1 := Aside.mk (HR3.out.ext (RatO.ext _) HE3.out); have HS3 := Aside.mk (one_rat (base := w.heap.size + 2) hr (by have := HZ.out; simp; omega)); have HST : Aside (∀ w1, (w3.alloc (.cells #[.int .i64 q.f, .bool q.neg, .slice A4 q.num.length c4, .slice B4 q.den.length d4] 83)).grownBy w1 (Value.slice N j cN).ownBlock → ∀ c a, RatO (w.heap.size + 2) (w3.alloc (.cells #[.int .i64 q.f, .bool q.neg, .slice A4 q.num.length c4, .slice B4 q.den.length d4] 83)) c a → RatO (w.heap.size + 2) w1 c a) := ⟨fun w1 hg => RatO.grown HO1.out (by decide) hg⟩; have HB3 : Aside (w.heap.size + 2 ≤ (w3.alloc (.cells #[.int .i64 q.f, .bool q.neg, .slice A4 q.num.length c4, .slice B4 q.den.length d4] 83)).heap.size) := ⟨Nat.le_trans HZ.out HE3.out.size⟩; refine ⟨_, rfl, ?_⟩; clear hr he) | (refine step_append_so (R := RatO (w.heap.size + 2)) (W := w3.alloc (.cells #[.int .i64 q.f, .bool q.neg, .slice A4 q.num.length c4, .slice B4 q.den.length d4] 83)) (w.heap.size + 2) elemRat rfl (.tmp 26) (.tmp 29) rfl (.slice N j cN) (.slice (some ⟨w3.heap.size, 0, none⟩) 1 1) (nums.take j) [q] HO1.out HS3.out RatO.one HST.out (by simp [Act.eval]) (by simp [Act.eval]) HB3.out HL3.out ?_; rintro v1 w4 ho hg; have hk4 := hk3b.below (Below.grown (Below.refl _ _) hg HB3.out (HO1.out.low)); have HG := Aside.mk hg; obtain ⟨A5, c5, rfl, _⟩ := ho.sv.form; rw [HLEN.out] at ho ⊢; have HO4 := Aside.mk ho; clear ho hg))
        all_goals
          have HK4 := Aside.mk hk4
          have HTK : Aside (nums.take (j + 1) = nums.take j ++ [q]) := ⟨by rw [List.take_add_one, HQ.out]; rfl⟩
          have HR1' := Aside.mk (HR1.out.ext IntC.ext HE3.out)
          have HR2' := Aside.mk (HR2.out.ext BitC.ext HE3.out)
          clear hk0 hk1 hk3 hk3b
          go_wp2_with fail
          go_roundw
          case rel =>
            exact ⟨j + 1, A5, c5, by omega, by go_num, HK4.out.put2 _, ⟨(SO.other HR1'.out HO1.out (by decide) HG.out (fun _ _ h => h)).set (Nat.lt_of_lt_of_le (Nat.lt_succ_self _) (Nat.le_succ _)) _ (fun _ _ h => h)⟩,
              ⟨(SO.other HR2'.out HO1.out (by decide) HG.out (fun _ _ h => h)).set (Nat.lt_of_lt_of_le (Nat.lt_succ_self _) (Nat.le_succ _)) _ (fun _ _ h => h)⟩, ⟨by rw [HTK.out]; exact HO4.out.set (Nat.lt_of_lt_of_le (Nat.lt_succ_self _) (Nat.le_succ _)) _ (RatO.set (p := ⟨w.heap.size, 2, none⟩) (show w.heap.size < w.heap.size + 2 from by omega) _)⟩⟩
          case measure => simp [intOf]; omega
      · have hjn : j = nn := by omega
        have HR4 : Aside (SO (w.heap.size + 2) 83 4 (RatO (w.heap.size + 2)) wr (.slice N nn cN) nums) := ⟨by have := HR3.out; rw [hjn] at this; rw [show nums.take nn = nums from by rw [← HNN.out, List.take_length]] at this; exact this⟩
        subst hjn
        clear HR3
        have HK := Aside.mk hk0
        go_wp2_with fail
        refine bodyPost_ret (v := .agg #[.int .i64 k, .slice A1 nd c1, .slice N j cN, .slice A2 nb c2]) (by simp [results, Tryz.results66, go_sem, hk0]) rfl ⟨_, rfl, ⟨_, _, _, rfl, ?_, ?_, ?_⟩, ext_set4 HK.out.1.1.out (Nat.le_succ _) _ _ _ _⟩
        · exact ((HR1.out.set4 (Nat.lt_succ_self _) _ _ _ _ (fun _ _ _ _ _ _ h => h)).mono (Nat.le_trans (Nat.le_succ _) (Nat.le_succ _)))
        · exact ((HR4.out.set4 (Nat.lt_succ_self _) _ _ _ _ (fun w p hp u c a h => RatO.set hp u c a h)).mono (Nat.le_trans (Nat.le_succ _) (Nat.le_succ _))).monoR (fun _ _ h => h.mono (Nat.le_trans (Nat.le_succ _) (Nat.le_succ _)))
        · exact ((HR2.out.set4 (Nat.lt_succ_self _) _ _ _ _ (fun _ _ _ _ _ _ h => h)).mono (Nat.le_trans (Nat.le_succ _) (Nat.le_succ _)))
end Go.Proofs.YtcbaipnphepbeaaGreatDoor
