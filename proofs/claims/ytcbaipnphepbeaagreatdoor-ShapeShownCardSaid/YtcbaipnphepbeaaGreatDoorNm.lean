/- Contracts of shape: Element. Contracts of shape: Element of an array. Contracts of shape: show of scalars. Laws of values: elements are values, texts are short. Contracts of shape: show, Show. What shape.Read reads: plain. -/
import Derived.Test.YtcbaipnphepbeaaGreatDoorNl
import Derived.Test.YtcbaipnphepbeaaGreatDoorNj
import Derived.Test.YtcbaipnphepbeaaGreatDoorNi
namespace Go.Proofs.YtcbaipnphepbeaaGreatDoor
open Go.RowKit

def zeroV : Vq := ⟨0, [], [], []⟩
/-- An element of an array. -/
def elemV (v : Vq) (i : Nat) : Vq := ⟨v.k, v.ds.tail, (v.nums.drop (i * (prodI v.ds.tail).toNat)).take (prodI v.ds.tail).toNat, (v.bits.drop (i * (prodI v.ds.tail).toNat)).take (prodI v.ds.tail).toNat⟩
theorem VO.zero (b : Nat) (w : World) : VO b w (.agg #[.int .i64 0, .slice none 0 0, .slice none 0 0, .slice none 0 0]) zeroV := ⟨_, _, _, rfl, SO.nil, SO.nil, SO.nil⟩
theorem VO.ext {b : Nat} {w w' : World} {x : Value} {v : Vq} (h : VO b w x v) (e : Ext w w') : VO b w' x v := let ⟨d, n, c, h1, h2, h3, h4⟩ := h; ⟨d, n, c, h1, h2.ext IntC.ext e, h3.ext (RatO.ext _) e, h4.ext BitC.ext e⟩
theorem VO.set4 {b : Nat} {w : World} {x : Value} {v : Vq} (h : VO b w x v) {g : Nat} (hg : g < b) (v0 v1 v2 v3 : Value) :
    VO b ((((w.setCell ⟨g, 0, none⟩ v0).setCell ⟨g, 1, none⟩ v1).setCell ⟨g, 2, none⟩ v2).setCell ⟨g, 3, none⟩ v3) x v :=
  let ⟨d, n, c, h1, h2, h3, h4⟩ := h; ⟨d, n, c, h1, h2.set4 hg _ _ _ _ (fun _ _ _ _ _ _ h => h), h3.set4 hg _ _ _ _ (fun _ _ hp u c a h => RatO.set hp u c a h), h4.set4 hg _ _ _ _ (fun _ _ _ _ _ _ h => h)⟩
theorem VO.mono {b b' : Nat} {w : World} {x : Value} {v : Vq} (h : VO b w x v) (hb : b' ≤ b) : VO b' w x v :=
  let ⟨d, n, c, h1, h2, h3, h4⟩ := h; ⟨d, n, c, h1, h2.mono hb, (h3.mono hb).monoR (fun _ _ h => h.mono hb), h4.mono hb⟩
theorem VV.form {w : World} {x : Value} {v : Vq} (h : VV w x v) : ∃ D cd A ca B cb, x = .agg #[.int .i64 v.k, .slice D v.ds.length cd, .slice A v.nums.length ca, .slice B v.bits.length cb] := by
  obtain ⟨d, n, b, rfl, hd, hn, hb⟩ := h
  obtain ⟨D, cd, rfl, _⟩ := hd.form
  obtain ⟨A, ca, rfl, _⟩ := hn.form
  obtain ⟨B, cb, rfl, _⟩ := hb.form
  exact ⟨D, cd, A, ca, B, cb, rfl⟩
theorem VV.first {w : World} {x : Value} {v : Vq} {d : Int} {ds : List Int} (h : VV w x v) (hd : v.ds = d :: ds) : ∃ b0 o0 cd A ca B cb, x = .agg #[.int .i64 v.k, .slice (some ⟨b0, o0, none⟩) (ds.length + 1) cd, .slice A v.nums.length ca, .slice B v.bits.length cb] ∧ w.cell? ⟨b0, o0, none⟩ = some (.int .i64 d) ∧ ds.length + 1 ≤ cd := by
  obtain ⟨D, n, b, rfl, h1, hn, hb⟩ := h
  obtain ⟨A, ca, rfl, _⟩ := hn.form
  obtain ⟨B, cb, rfl, _⟩ := hb.form
  obtain ⟨D, cd, rfl, hc, _⟩ := id h1
  rw [hd] at h1 hc ⊢
  have hs := h1.sv.spot
  obtain ⟨ad, rfl, hcell⟩ := h1.at' 0 (by simp)
  have := hs ad rfl
  obtain ⟨b0, o0, s⟩ := ad
  obtain rfl : s = none := this
  exact ⟨b0, o0, cd, A, ca, B, cb, rfl, by simpa [Addr.add] using hcell, by simpa using hc⟩
end Go.Proofs.YtcbaipnphepbeaaGreatDoor

namespace Go.Proofs.YtcbaipnphepbeaaGreatDoor
open Go.RowKit

theorem foldl_mul (ds : List Int) (a : Int) : ds.foldl (fun a d => a * d) a = a * prodI ds := by
  induction ds generalizing a with
  | nil => simp [prodI]
  | cons d t ih => unfold prodI; rw [List.foldl_cons, ih, List.foldl_cons, ih, Int.one_mul, Int.mul_assoc]
theorem prodI_cons (d : Int) (ds : List Int) : prodI (d :: ds) = d * prodI ds := by
  show (d :: ds).foldl (fun a d => a * d) 1 = _
  rw [List.foldl_cons, foldl_mul, Int.one_mul]
theorem valOk_parts {v : Vq} {d : Int} {ds : List Int} (h : valOk v = true) (hd : v.ds = d :: ds) {m : Nat} (hm : prodI ds = (m : Int)) {i : Nat} (hi : (i : Int) < d) :
    d ≤ 8 ∧ Dims ds ∧ 1 ≤ m ∧ m ≤ 512 ∧ i ≤ 8 ∧ ((i + 1) * m ≤ v.nums.length ∨ v.nums = []) ∧ ((i + 1) * m ≤ v.bits.length ∨ v.bits = []) := by
  unfold valOk at h
  simp only [Bool.and_eq_true] at h
  have hD := tyOk_dims h.1
  rw [hd] at hD
  have hds : Dims ds := ⟨by have := hD.1; simp at this; omega, fun x hx => hD.2 x (by simp [hx])⟩
  have hp := hds.prod
  have hd8 := hD.2 d (by simp)
  have hmul : ∀ n : Nat, (n : Int) = prodI v.ds → (i + 1) * m ≤ n := by
    intro n hn
    rw [hd, prodI_cons, hm] at hn
    have h1 : ((i : Int) + 1) * (m : Int) ≤ d * (m : Int) := Int.mul_le_mul_of_nonneg_right (by omega) (by omega)
    rw [← hn] at h1
    exact_mod_cast h1
  have h2 := h.2
  refine ⟨hd8.2, hds, by omega, by omega, by omega, ?_⟩
  split at h2
  · simp only [Bool.and_eq_true, beq_iff_eq] at h2
    exact ⟨.inl (hmul _ h2.1.1), .inr (List.eq_nil_of_length_eq_zero (by omega))⟩
  · split at h2
    · simp only [Bool.and_eq_true, beq_iff_eq] at h2
      exact ⟨.inr (List.eq_nil_of_length_eq_zero (by omega)), .inl (hmul _ h2.1.1)⟩
    · cases h2
abbrev KeepV (w : World) (g : Nat) (x0 x1 x2 x3 y0 y1 : Value) (ds : List Int) (w' : World) : Prop :=
  KeepO w x0 x1 x2 x3 w' ∧ w'.cell? ⟨g, 0, none⟩ = some y0 ∧ w'.cell? ⟨g, 1, none⟩ = some y1 ∧ Aside (w.heap.size + 1 < g ∧ SO (w.heap.size + 2) 3 1 IntC w' y1 ds)
theorem KeepV.ext {w w1 w2 : World} {g : Nat} {x0 x1 x2 x3 y0 y1 : Value} {ds : List Int} (e : Ext w1 w2) (h : KeepV w g x0 x1 x2 x3 y0 y1 ds w1) : KeepV w g x0 x1 x2 x3 y0 y1 ds w2 :=
  ⟨h.1.ext e, e.cell h.2.1, e.cell h.2.2.1, ⟨h.2.2.2.out.1, h.2.2.2.out.2.ext IntC.ext e⟩⟩
theorem KeepV.set {w w1 : World} {g : Nat} {x0 x1 x2 x3 y0 y1 : Value} {ds : List Int} (h : KeepV w g x0 x1 x2 x3 y0 y1 ds w1) (j : Nat) (v : Value) : KeepV w g x0 x1 x2 x3 y0 y1 ds (w1.setCell ⟨w.heap.size + 1, j, none⟩ v) := by
  have hg := h.2.2.2.out.1
  exact ⟨h.1.set j v, cell_other h.2.1 (by omega), cell_other h.2.2.1 (by omega), ⟨hg, h.2.2.2.out.2.set (Nat.lt_succ_self _) _ (fun _ _ h => h)⟩⟩
theorem TV.mk {w : World} {k : Int} {x : Value} {ds : List Int} (h : IV w x ds) : TV w (.agg #[.int .i64 k, x]) k ds := ⟨_, rfl, h⟩
theorem VV.mk {w : World} {v : Vq} {k : Int} {ds : List Int} {nums : List Rq} {bits : List Bq} {d n b : Value} (e : v = ⟨k, ds, nums, bits⟩) (h1 : IV w d ds) (h2 : QV w n nums) (h3 : BV w b bits) : VV w (.agg #[.int .i64 k, d, n, b]) v := by
  subst e; exact ⟨_, _, _, rfl, h1, h2, h3⟩
set_option maxRecDepth 10000 in
set_option maxHeartbeats 4000000 in
theorem element_ok {w : World} {x : Value} {v : Vq} {i : Nat} {d : Int} {ds : List Int} (h : VV w x v) (ho : valOk v = true) (hd : v.ds = d :: ds) (hi : (i : Int) < d) :
    Calls Tryz.prog 16 #[x, .int .i64 (i : Int)] w fun e w' => ∃ r, e = .returned (.tuple #[r, .int .i64 0]) ∧ VO w.heap.size w' r (elemV v i) ∧ Ext w w' := by
  have HV := Aside.mk h
  have HO := Aside.mk ho
  obtain ⟨m, hm⟩ : ∃ m : Nat, prodI ds = (m : Int) := ⟨(prodI ds).toNat, by
    have hD := tyOk_dims (show tyOk v.k v.ds = true from by unfold valOk at ho; simp only [Bool.and_eq_true] at ho; exact ho.1)
    have hds : Dims ds := ⟨by have := hD.1; rw [hd] at this; simp at this; omega, fun x hx => hD.2 x (by rw [hd]; simp [hx])⟩
    have := hds.prod
    omega⟩
  have HP := Aside.mk (valOk_parts ho hd hm hi)
  have HM := Aside.mk hm
  obtain ⟨b0, o0, cd, A, ca, B, cb, rfl, hcell, hlc⟩ := h.first hd
  have HCELL : Aside (∀ w', Ext w w' → w'.cell? ⟨b0, o0, none⟩ = some (.int .i64 d)) := ⟨fun w' e => e.cell hcell⟩
  obtain ⟨-, hty, hn, hb⟩ := h.ty
  rw [hd] at hty
  have HTY := Aside.mk hty
  have HN := Aside.mk hn
  have HB := Aside.mk hb
  have HEL : Aside (elemV v i = ⟨v.k, ds, (v.nums.drop (i * m)).take m, (v.bits.drop (i * m)).take m⟩) := ⟨by unfold elemV; rw [hd, List.tail_cons, hm, Int.toNat_natCast]⟩
  obtain ⟨el, hel⟩ : ∃ e, elemV v i = e := ⟨_, rfl⟩
  rw [hel] at HEL ⊢
  clear h ho hd hcell hty hn hb hm hel
  have hk0 := KeepO.init w (.int .i64 v.k) (.slice (some ⟨b0, o0, none⟩) (ds.length + 1) cd) (.slice A v.nums.length ca) (.slice B v.bits.length cb) (.int .i64 0) (.slice none 0 0) (.slice none 0 0) (.slice none 0 0) 29 29
  go_enter Tryz.func16, Tryz.ntmps16
  go_wp2_with (first | (go_at_call 15; with_reducible refine (isValue_calls (HV.out.ext hk0.1.out) HO.out).mono ?_; rintro e w1 ⟨rfl, he⟩; replace hk0 := KeepO.ext he hk0; have hcell := HCELL.out _ hk0.1.out; clear he))
  with_reducible refine (inner_calls (HTY.out.ext hk0.1.out)).mono ?_
  rintro e w2 ⟨r, rfl, hr, he⟩
  have hz := World.block_lt_of_cell? _ _ hk0.2.2.1.1
  replace hk0 := KeepO.ext he hk0
  obtain ⟨DI, cI, rfl, _⟩ := hr.sv.form
  have HI := Aside.mk (hr.mono (b' := w.heap.size + 2) hz)
  have hgz : w.heap.size + 1 < w2.heap.size := Nat.lt_of_lt_of_le hz he.size
  clear he hr hz
  have hkv : KeepV w w2.heap.size (.int .i64 v.k) (.slice (some ⟨b0, o0, none⟩) (ds.length + 1) cd) (.slice A v.nums.length ca) (.slice B v.bits.length cb) (.int .i64 v.k) (.slice DI ds.length cI) ds (w2.alloc (.cells #[.int .i64 v.k, .slice DI ds.length cI] 25)).drew :=
    ⟨hk0.ext (((Ext.refl w2).alloc _).drew), cell_new rfl rfl, cell_new rfl rfl, ⟨hgz, HI.out.ext IntC.ext (((Ext.refl w2).alloc _).drew)⟩⟩
  clear hcell
  go_wp2_with fail
  clear hk0
  go_region_held (fun w' => KeepV w w2.heap.size (.int .i64 v.k) (.slice (some ⟨b0, o0, none⟩) (ds.length + 1) cd) (.slice A v.nums.length ca) (.slice B v.bits.length cb) (.int .i64 v.k) (.slice DI ds.length cI) ds w') (first | assumption | exact KeepV.ext (by assumption) (by assumption) | exact (((KeepV.set (by assumption) _ _).set _ _).set _ _).set _ _) (first | (go_at_call 66; refine (own_calls (VV.mk HEL.out (show KeepV w w2.heap.size (.int .i64 v.k) (.slice (some ⟨b0, o0, none⟩) (ds.length + 1) cd) (.slice A v.nums.length ca) (.slice B v.bits.length cb) (.int .i64 v.k) (.slice DI ds.length cI) ds _ from by assumption).2.2.2.out.2.sv.iv HR3.out HR4.out)).mono ?_; rintro e w7 ⟨r3, rfl, hr, he7⟩; obtain ⟨D7, e7, A7, c7, B7, d7, rfl⟩ := hr.vv.form; have HR5 := Aside.mk hr; have HZ7 := Aside.mk (World.block_lt_of_cell? _ _ (show KeepV w w2.heap.size (.int .i64 v.k) (.slice (some ⟨b0, o0, none⟩) (ds.length + 1) cd) (.slice A v.nums.length ca) (.slice B v.bits.length cb) (.int .i64 v.k) (.slice DI ds.length cI) ds _ from by assumption).1.2.2.1.1); clear hr) | (go_at_call 68; refine (partBit_calls (HB.out.ext BitC.ext (show KeepV w w2.heap.size (.int .i64 v.k) (.slice (some ⟨b0, o0, none⟩) (ds.length + 1) cd) (.slice A v.nums.length ca) (.slice B v.bits.length cb) (.int .i64 v.k) (.slice DI ds.length cI) ds _ from by assumption).1.1.out) HP.out.2.2.2.2.1 HP.out.2.2.1 HP.out.2.2.2.1 HP.out.2.2.2.2.2.2).mono ?_; rintro e w6 ⟨r2, rfl, hr, he6⟩; obtain ⟨A6, c6, rfl, _⟩ := hr.sv.form; obtain ⟨n6, hn6⟩ : ∃ n, ((v.bits.drop (i * m)).take m).length = n := ⟨_, rfl⟩; rw [hn6] at hr ⊢; clear hn6; have HR3 := Aside.mk (HR2.out.ext RatC.ext he6); have HR4 := Aside.mk hr.sv; clear hr) | (go_at_call 58; have HR1' := HR1; with_reducible refine (shSize_calls (TV.mk (show KeepV w w2.heap.size (.int .i64 v.k) (.slice (some ⟨b0, o0, none⟩) (ds.length + 1) cd) (.slice A v.nums.length ca) (.slice B v.bits.length cb) (.int .i64 v.k) (.slice DI ds.length cI) ds _ from by assumption).2.2.2.out.2.sv.iv) HP.out.2.1).mono ?_; rw [HM.out]; rintro e w5 ⟨rfl, he5⟩; have HR2 := Aside.mk (HR1.out.ext RatC.ext he5); clear HR1') | (go_at_call 67; have HS3' := HS3; refine (partRat_calls (HN.out.ext RatC.ext (show KeepV w w2.heap.size (.int .i64 v.k) (.slice (some ⟨b0, o0, none⟩) (ds.length + 1) cd) (.slice A v.nums.length ca) (.slice B v.bits.length cb) (.int .i64 v.k) (.slice DI ds.length cI) ds _ from by assumption).1.1.out) HP.out.2.2.2.2.1 HP.out.2.2.1 HP.out.2.2.2.1 HP.out.2.2.2.2.2.1).mono ?_; rintro e w4 ⟨r1, rfl, hr, he4⟩; obtain ⟨A4, c4, rfl, _⟩ := hr.sv.form; obtain ⟨n4, hn4⟩ : ∃ n, ((v.nums.drop (i * m)).take m).length = n := ⟨_, rfl⟩; rw [hn4] at hr ⊢; clear hn4; have HR1 := Aside.mk (hr.sv.mono (fun c a h => RatC.ext _ _ c a he4 h)); clear hr) | (go_at_call 58; with_reducible refine (shSize_calls (TV.mk (show KeepV w w2.heap.size (.int .i64 v.k) (.slice (some ⟨b0, o0, none⟩) (ds.length + 1) cd) (.slice A v.nums.length ca) (.slice B v.bits.length cb) (.int .i64 v.k) (.slice DI ds.length cI) ds _ from by assumption).2.2.2.out.2.sv.iv) HP.out.2.1).mono ?_; rw [HM.out]; rintro e w3 ⟨rfl, he3⟩; have HS3 := 0))
  have hk7 := KeepV.ext he7 (KeepV.ext he6 (KeepV.ext he5 (KeepV.ext he4 (KeepV.ext he3 hkv))))
  have HK := Aside.mk hk7
  go_wp2_with fail
  refine bodyPost_ret (v := .tuple #[.agg #[.int .i64 el.k, .slice D7 el.ds.length e7, .slice A7 el.nums.length c7, .slice B7 el.bits.length d7], .int .i64 0]) (by simp [results, Tryz.results16, go_sem, hk7]) rfl ⟨_, rfl, ?_, ext_set4 HK.out.1.1.out (Nat.le_succ _) _ _ _ _⟩
  exact (HR5.out.set4 HZ7.out _ _ _ _).mono (Nat.le_of_lt (Nat.lt_of_succ_lt HZ7.out))
end Go.Proofs.YtcbaipnphepbeaaGreatDoor

namespace Go.Proofs.YtcbaipnphepbeaaGreatDoor
open Go.RowKit

/-- frac.Text of a valid Rat. -/
theorem text_good {w : World} {v : Value} {q : Rq} {s : ByteArray} (hg : Glob w) (h : RR w v q) (hq : okq q = true) (hs : (⟨(rtext q).toArray⟩ : ByteArray) = s) :
    Calls Tryz.prog 111 #[v] w fun e w' => e = .returned (.tuple #[.string s, .int .i64 0]) ∧ Ext w w' := by
  subst hs
  by_cases hf : q.f = 0
  · have k := okq_ds hq hf h.ds
    have e : rtext q = ntext q.neg (val q.num) (val q.den) := if_pos hf
    have eq : (⟨0, q.neg, dig (val q.num), dig (val q.den)⟩ : Rq) = q := by
      rw [← k.num, ← k.den]
      obtain ⟨f, n, x, y⟩ := q
      obtain rfl : f = 0 := hf
      rfl
    rw [e]
    exact text_num hg (by rw [eq]; exact h) (by rw [eq]; exact hq) k.la k.lb k.pos
  · have e : (⟨(rtext q).toArray⟩ : ByteArray) = faultB q.f := by
      rw [show rtext q = (faultB q.f).data.toList from if_neg hf]
    rw [e]
    exact text_fault hg h hq hf

def noQ : Rq := ⟨0, false, [], []⟩
def yesB : ByteArray := ⟨#[121, 101, 115]⟩
def noB : ByteArray := ⟨#[110, 111]⟩
def bitB (b : Bq) : ByteArray := if b.f ≠ 0 then faultB b.f else if b.on then yesB else noB
def bitT (b : Bq) : List UInt8 := (bitB b).data.toList
/-- The text of a scalar. -/
def scalT (v : Vq) : List UInt8 := if v.k = 1 then rtext (v.nums.getD 0 noQ) else bitT (v.bits.getD 0 ⟨0, false⟩)
/-- A valid scalar. -/
theorem scal_parts {v : Vq} (h : valOk v = true) (hd : v.ds = []) : (v.k = 1 ∧ ∃ q, v.nums = [q] ∧ okq q = true ∧ v.bits = []) ∨ (v.k = 2 ∧ ∃ b, v.bits = [b] ∧ okb b.f b.on = true ∧ v.nums = []) := by
  unfold valOk at h
  rw [hd] at h
  simp only [Bool.and_eq_true] at h
  have h2 := h.2
  have hp : prodI [] = 1 := rfl
  rw [hp] at h2
  split at h2
  · rename_i hk
    simp only [Bool.and_eq_true, beq_iff_eq, Bool.not_eq_true'] at h2
    obtain ⟨q, hq⟩ := List.length_eq_one_iff.1 (show v.nums.length = 1 by omega)
    refine .inl ⟨hk, q, hq, ?_, List.eq_nil_of_length_eq_zero (by omega)⟩
    have := h2.2
    rw [hq] at this
    simpa using this
  · split at h2
    · rename_i hk
      simp only [Bool.and_eq_true, beq_iff_eq, Bool.not_eq_true'] at h2
      obtain ⟨q, hq⟩ := List.length_eq_one_iff.1 (show v.bits.length = 1 by omega)
      refine .inr ⟨hk, q, hq, ?_, List.eq_nil_of_length_eq_zero (by omega)⟩
      have := h2.2
      rw [hq] at this
      simpa using this
    · cases h2
set_option maxRecDepth 10000 in
set_option maxHeartbeats 2000000 in
theorem show_scalar {w : World} {x : Value} {v : Vq} {s : ByteArray} (hg : Glob w) (h : VV w x v) (ho : valOk v = true) (hd : v.ds = []) (hs : (⟨(scalT v).toArray⟩ : ByteArray) = s) :
    Calls Tryz.prog 69 #[x] w fun e w' => e = .returned (.string s) ∧ Ext w w' := by
  have HG := Aside.mk hg
  rcases scal_parts ho hd with ⟨hk, q, hn, hq, hb⟩ | ⟨hk, b, hb, hok, hn⟩
  · obtain ⟨k, ds, nums, bits⟩ := v
    obtain rfl : k = 1 := hk
    obtain rfl : ds = [] := hd
    obtain rfl : nums = [q] := hn
    obtain rfl : bits = [] := hb
    have HS0 : Aside ((⟨(rtext q).toArray⟩ : ByteArray) = s) := ⟨hs⟩
    obtain ⟨d, n, b, rfl, hd', hn', hb'⟩ := h
    obtain ⟨D, cd, rfl, _⟩ := hd'.form
    obtain ⟨A, ca, rfl, hca, _⟩ := hn'.form
    obtain ⟨B, cb, rfl, _⟩ := hb'.form
    obtain ⟨b0, o0, x0, y0, rfl, hc0, hc1, hc2, hc3, hrr⟩ := QV.at' hn' 0 rfl
    have HR0 := Aside.mk hrr
    have HS := HS0
    have HOK := Aside.mk hq
    simp only [Nat.zero_mul, Nat.add_zero] at hc0 hc1 hc2 hc3
    have hk0 := KeepB.init w (.int .i64 1) (.slice D 0 cd) (.slice (some ⟨b0, o0, none⟩) 1 ca) (.slice B 0 cb) 29
    have HRR := Aside.mk (HR0.out.ext hk0.1.out)
    have g0 := hk0.1.out.cell hc0
    have g1 := hk0.1.out.cell hc1
    have g2 := hk0.1.out.cell hc2
    have g3 := hk0.1.out.cell hc3
    clear hg ho hd' hn' hb' hrr hq hs hc0 hc1 hc2 hc3
    go_enter Tryz.func69, Tryz.ntmps69
    go_wp2_with (go_at_call 111; with_reducible refine (text_good (HG.out.ext hk0.1.out) HRR.out HOK.out HS.out).mono ?_; rintro e w1 ⟨rfl, he⟩; replace hk0 := KeepB.ext he hk0; clear he)
    go_ret
    exact ⟨rfl, hk0.1.out⟩
  · obtain ⟨k, ds, nums, bits⟩ := v
    obtain rfl : k = 2 := hk
    obtain rfl : ds = [] := hd
    obtain rfl : bits = [b] := hb
    obtain rfl : nums = [] := hn
    have HS0 : Aside (bitB b = s) := ⟨hs⟩
    obtain ⟨d, n, bb, rfl, hd', hn', hb'⟩ := h
    obtain ⟨D, cd, rfl, _⟩ := hd'.form
    obtain ⟨A, ca, rfl, hca, _⟩ := hn'.form
    obtain ⟨B, cb, rfl, _⟩ := hb'.form
    obtain ⟨b0, o0, rfl, hc0, hc1⟩ := BV.at' hb' 0 rfl
    simp only [Nat.zero_mul, Nat.add_zero] at hc0 hc1
    have hk0 := KeepB.init w (.int .i64 2) (.slice D 0 cd) (.slice A 0 ca) (.slice (some ⟨b0, o0, none⟩) 1 cb) 29
    have g0 := hk0.1.out.cell hc0
    have g1 := hk0.1.out.cell hc1
    obtain ⟨f, on⟩ := b
    dsimp only at hok g0 g1
    by_cases hf : f = 0
    · have hf1 : (f == 0) = true := by simp [hf]
      have hf2 : (f != 0) = false := by simp [hf]
      have HS : Aside ((if on then yesB else noB) = s) := ⟨by rw [← HS0.out]; unfold bitB; dsimp only; rw [if_neg (show ¬ f ≠ 0 from fun h => h hf)]⟩
      clear hg ho hd' hn' hb' hs hc0 hc1 hok hf HS0
      cases on
      · go_enter Tryz.func69, Tryz.ntmps69
        go_wp2
        go_ret
        exact ⟨by rw [← HS.out]; rfl, hk0.1.out.alloc _⟩
      · go_enter Tryz.func69, Tryz.ntmps69
        go_wp2
        go_ret
        exact ⟨by rw [← HS.out]; rfl, hk0.1.out.alloc _⟩
    · have hf1 : (f == 0) = false := beq_eq_false_iff_ne.2 hf
      have hf2 : (f != 0) = true := by simp [bne, hf1]
      have hok' : okq ⟨f, false, [], []⟩ = true := by
        unfold okb at hok
        unfold okq
        rw [hf1] at hok
        simp only [Bool.false_or, Bool.and_eq_true, Bool.or_eq_true, Bool.not_eq_true'] at hok
        rw [if_neg hf]
        simpa using hok.1
      have HOK := Aside.mk hok'
      have HS : Aside ((⟨(rtext ⟨f, false, [], []⟩).toArray⟩ : ByteArray) = s) := ⟨by rw [← HS0.out]; unfold bitB rtext; dsimp only; rw [if_pos hf, if_neg hf]⟩
      have HRR : Aside (∀ w', RR w' (.agg #[.int .i64 f, .bool false, .slice none 0 0, .slice none 0 0]) ⟨f, false, [], []⟩) := ⟨fun w' => ⟨_, _, rfl, RV.nil _, RV.nil _⟩⟩
      clear hg ho hd' hn' hb' hs hc0 hc1 hok hok' hf HS0
      go_enter Tryz.func69, Tryz.ntmps69
      go_wp2_with (go_at_call 111; with_reducible refine (text_good (HG.out.ext (hk0.1.out.alloc _)) (HRR.out _) HOK.out HS.out).mono ?_; rintro e w1 ⟨rfl, he⟩; have HE := Aside.mk (Ext.trans (hk0.1.out.alloc _) he); clear he)
      go_ret
      exact ⟨rfl, HE.out⟩
end Go.Proofs.YtcbaipnphepbeaaGreatDoor

namespace Go.Proofs.YtcbaipnphepbeaaGreatDoor
open Go.RowKit

theorem any_sub {α : Type} {l : List α} {p : α → Bool} (h : l.any p = false) (a b : Nat) : ((l.drop a).take b).any p = false := by
  rw [List.any_eq_false] at h ⊢
  exact fun x hx => h x (List.mem_of_mem_drop (List.mem_of_mem_take hx))
theorem valOk_dims {v : Vq} (h : valOk v = true) : Dims v.ds := by
  unfold valOk at h
  simp only [Bool.and_eq_true] at h
  exact tyOk_dims h.1
theorem dims_tail {d : Int} {ds : List Int} (h : Dims (d :: ds)) : Dims ds := ⟨by have := h.1; simp at this; omega, fun x hx => h.2 x (by simp [hx])⟩
/-- An element of a value is a value. -/
theorem elem_ok {v : Vq} {d : Int} {ds : List Int} (h : valOk v = true) (hd : v.ds = d :: ds) {i : Nat} (hi : (i : Int) < d) : valOk (elemV v i) = true := by
  have hD := valOk_dims h
  rw [hd] at hD
  have hp := (dims_tail hD).prod
  obtain ⟨m, hm⟩ : ∃ m : Nat, prodI ds = (m : Int) := ⟨(prodI ds).toNat, by omega⟩
  obtain ⟨-, -, h1, h2, -, h5, h6⟩ := valOk_parts h hd hm hi
  have hel : elemV v i = ⟨v.k, ds, (v.nums.drop (i * m)).take m, (v.bits.drop (i * m)).take m⟩ := by unfold elemV; rw [hd, List.tail_cons, hm, Int.toNat_natCast]
  rw [hel]
  have hlen : ∀ n : Nat, (i + 1) * m ≤ n → min m (n - i * m) = m := by intro n hn; rw [Nat.succ_mul] at hn; omega
  unfold valOk at h ⊢
  rw [hd] at h
  simp only [Bool.and_eq_true] at h ⊢
  obtain ⟨ht, hr⟩ := h
  have hb : ds.any badd = false := by
    unfold tyOk at ht
    simp only [List.any_cons, Bool.and_eq_true, Bool.not_eq_true', Bool.or_eq_false_iff] at ht
    exact ht.1.2
  have hl3 : ds.length ≤ 3 := (dims_tail hD).1
  have hty : v.k = 1 ∨ v.k = 2 → tyOk v.k ds = true := by
    intro hk
    unfold tyOk
    rw [hb, if_pos hk]; simp [hl3]
  have hpos : 1 ≤ (d * (m : Int)) := by
    have := hD.2 d (by simp)
    exact Int.mul_le_mul (this.1) (by omega : (1 : Int) ≤ m) (by decide) (by omega)
  rw [prodI_cons, hm] at hr
  refine ⟨?_, ?_⟩
  · split at hr
    · rename_i hk; exact hty (.inl hk)
    · split at hr
      · rename_i hk; exact hty (.inr hk)
      · cases hr
  · split at hr
    · rename_i hk
      rw [if_pos hk]
      simp only [Bool.and_eq_true, beq_iff_eq, Bool.not_eq_true'] at hr ⊢
      have hn : v.nums ≠ [] := by intro e; have := hr.1.1; rw [e] at this; simp at this; omega
      have hbn : v.bits = [] := List.eq_nil_of_length_eq_zero (by omega)
      refine ⟨⟨?_, ?_⟩, any_sub hr.2 _ _⟩
      · rw [hm, List.length_take, List.length_drop, hlen _ (h5.resolve_right hn)]
      · rw [hbn]; simp
    · rename_i hk1
      rw [if_neg hk1]
      split at hr
      · rename_i hk
        rw [if_pos hk]
        simp only [Bool.and_eq_true, beq_iff_eq, Bool.not_eq_true'] at hr ⊢
        have hn : v.bits ≠ [] := by intro e; have := hr.1.1; rw [e] at this; simp at this; omega
        have hbn : v.nums = [] := List.eq_nil_of_length_eq_zero (by omega)
        refine ⟨⟨?_, ?_⟩, any_sub hr.2 _ _⟩
        · rw [hm, List.length_take, List.length_drop, hlen _ (h6.resolve_right hn)]
        · rw [hbn]; simp
      · cases hr
/-- The text of a value with so many sizes. -/
def showN : Nat → Vq → List UInt8
  | 0, v => scalT v
  | n + 1, v => 123 :: (Lib.join ((List.range (v.ds.headD 0).toNat).map fun i => showN n (elemV v i)) [44, 32] ++ [125])
def Good (v : Vq) : Prop := ∀ q ∈ v.nums, Ds q.num ∧ Ds q.den
theorem Good.elem {v : Vq} (h : Good v) (i : Nat) : Good (elemV v i) := fun q hq => h q (List.mem_of_mem_drop (List.mem_of_mem_take hq))
theorem Rows.all {α : Type} {k : Nat} {R : List Value → α → Prop} {P : α → Prop} (hR : ∀ c a, R c a → P a) : ∀ {xs : List Value} {l : List α}, Rows k R xs l → ∀ a ∈ l, P a
  | _, [], _, a, ha => by cases ha
  | xs, b :: l, h, a, ha => by
    obtain ⟨c, t, rfl, hc, hb, h⟩ := h
    rcases List.mem_cons.1 ha with rfl | ha
    · exact hR _ _ hb
    · exact h.all hR a ha
theorem VV.good {w : World} {x : Value} {v : Vq} (h : VV w x v) : Good v := by
  obtain ⟨d, n, b, rfl, hd, ⟨A, c, xs, _, _, _, _, _, hr⟩, hb⟩ := h
  exact hr.all fun c q ⟨x, y, _, h1, h2⟩ => ⟨h1.dg.2, h2.dg.2⟩
theorem scalT_len {v : Vq} (h : valOk v = true) (hg : Good v) (hd : v.ds = []) : (scalT v).length ≤ 3000 := by
  unfold scalT
  rcases scal_parts h hd with ⟨hk, q, hn, hq, hb⟩ | ⟨hk, b, hb, hok, hn⟩
  · rw [if_pos hk, hn]
    show (rtext q).length ≤ 3000
    unfold rtext
    split
    · rename_i hf
      have k := okq_ds hq hf (hg q (by rw [hn]; simp))
      have h1 := dtext_le k.la
      have h2 := dtext_le k.lb
      unfold ntext
      split <;> split <;> simp <;> omega
    · unfold faultB
      split <;> decide
  · rw [if_neg (by omega)]
    rw [hb]
    show (bitT b).length ≤ 3000
    unfold bitT bitB faultB
    split
    · split <;> decide
    · split <;> decide
theorem join_len (ls : List (List UInt8)) (sep : List UInt8) (B : Nat) (h : ∀ l ∈ ls, l.length ≤ B) : (Lib.join ls sep).length ≤ ls.length * (B + sep.length) := by
  induction ls with
  | nil => simp [Lib.join, List.intercalate]
  | cons a t ih =>
    have ih := ih fun l hl => h l (List.mem_cons_of_mem _ hl)
    have ha := h a (by simp)
    cases t with
    | nil => simp [Lib.join, List.intercalate]; omega
    | cons b t =>
      have e : Lib.join (a :: b :: t) sep = a ++ (sep ++ Lib.join (b :: t) sep) := by simp [Lib.join, List.intercalate]
      rw [e, List.length_append, List.length_append, List.length_cons, Nat.succ_mul]
      omega
theorem showN_len : ∀ (n : Nat) (v : Vq), valOk v = true → Good v → v.ds.length = n → (showN n v).length ≤ 3000 * 9 ^ n
  | 0, v, h, hg, hd => by
    have := scalT_len h hg (List.eq_nil_of_length_eq_zero hd)
    simpa [showN] using this
  | n + 1, v, h, hg, hd => by
    obtain ⟨d, ds, hds⟩ : ∃ d ds, v.ds = d :: ds := by
      cases hv : v.ds with
      | nil => rw [hv] at hd; cases hd
      | cons d ds => exact ⟨d, ds, rfl⟩
    have hD := (valOk_dims h).2 d (by rw [hds]; simp)
    have hl := join_len ((List.range d.toNat).map fun i => showN n (elemV v i)) [44, 32] (3000 * 9 ^ n) (by
      intro l hl
      obtain ⟨i, hi, rfl⟩ := List.mem_map.1 hl
      have hi := List.mem_range.1 hi
      refine showN_len n _ (elem_ok h hds (by omega)) (hg.elem i) ?_
      show v.ds.tail.length = n
      rw [hds] at hd ⊢
      simpa using hd)
    rw [List.length_map, List.length_range] at hl
    unfold showN
    rw [hds, List.headD_cons]
    have h8 : d.toNat ≤ 8 := by omega
    have h9 : d.toNat * (3000 * 9 ^ n + 2) ≤ 8 * (3000 * 9 ^ n + 2) := Nat.mul_le_mul_right _ h8
    have h10 : 1 ≤ 9 ^ n := Nat.one_le_pow _ _ (by decide)
    rw [List.length_cons, List.length_append, Nat.pow_succ]
    have hl2 := Nat.le_trans hl h9
    have e2 : [(44 : UInt8), 32].length = 2 := rfl
    have e1 : [(125 : UInt8)].length = 1 := rfl
    rw [e1]
    omega
end Go.Proofs.YtcbaipnphepbeaaGreatDoor

namespace Go.Proofs.YtcbaipnphepbeaaGreatDoor
open Go.RowKit

/-- Strings. -/
def StrC (_ : World) (c : List Value) (s : ByteArray) : Prop := c = [.string s]
theorem StrC.ext : Grows StrC := fun _ _ _ _ _ h => h
theorem StrC.one {w : World} : ∀ c a, StrC w c a → ∀ u ∈ c, u.oneCell' = true := by
  rintro c a rfl u hu
  rw [List.mem_singleton.1 hu]; rfl
theorem KeepB.below {w w1 w2 : World} {x0 x1 x2 x3 : Value} (h : KeepB w x0 x1 x2 x3 w1) (b : Below (w.heap.size + 1) w1 w2) : KeepB w x0 x1 x2 x3 w2 := by
  obtain ⟨h0, h1, h2, h3, h4⟩ := h
  have hc : ∀ {j : Nat} {v : Value}, w1.cell? ⟨w.heap.size, j, none⟩ = some v → w2.cell? ⟨w.heap.size, j, none⟩ = some v := fun h => (Below.cell b (Nat.lt_succ_self _)).trans h
  exact ⟨⟨Below.trans h0.out (Below.mono b (Nat.le_succ _))⟩, hc h1, hc h2, hc h3, hc h4⟩
theorem one_str {w : World} {s : ByteArray} : SV 1 StrC (w.alloc (.cells #[.string s] 9)) (.slice (some ⟨w.heap.size, 0, none⟩) 1 1) [s] :=
  (SO.lit (e := 9) (R := StrC) w [.string s] [s] (by simp) (Rows.one rfl rfl)).sv
/-- The texts of the first elements. -/
def showL (n : Nat) (v : Vq) (j : Nat) : List ByteArray := (List.range j).map fun i => ⟨(showN n (elemV v i)).toArray⟩
theorem showL_succ (n : Nat) (v : Vq) (j : Nat) : showL n v (j + 1) = showL n v j ++ [⟨(showN n (elemV v j)).toArray⟩] := by simp [showL, List.range_succ]
theorem showL_len (n : Nat) (v : Vq) (j : Nat) : (showL n v j).length = j := by simp [showL]
theorem showN_succ {n : Nat} {v : Vq} {dn : Nat} {ds : List Int} (hds : v.ds = (dn : Int) :: ds) : showN (n + 1) v = 123 :: (Lib.join ((List.range dn).map fun i => showN n (elemV v i)) [44, 32] ++ [125]) := by
  show 123 :: (Lib.join ((List.range (v.ds.headD 0).toNat).map fun i => showN n (elemV v i)) [44, 32] ++ [125]) = _
  rw [hds, List.headD_cons, Int.toNat_natCast]
theorem joined {w : World} {A : Option Addr} {c n : Nat} {l : List ByteArray} {s : ByteArray} (hn : l.length = n) (h : SV 1 StrC w (.slice A n c) l) (hl : 0 < l.length) (hs : (⟨(Lib.join (l.map (·.data.toList)) [44, 32]).toArray⟩ : ByteArray) = s) (hz : s.size ≤ 140737488355328) :
    Calls Tryz.prog 112 #[.slice A n c, .string ⟨#[44, 32]⟩] w fun e w' => e = .returned (.string s) ∧ Ext w w' := by
  subst hn
  subst hs
  have hs := h.spot
  obtain ⟨ad, cs, rfl, h1, -, h3⟩ := h.at' (by decide) 0 (List.getElem?_eq_getElem hl)
  have hsp := hs ad rfl
  have hcells : ∀ (j : Nat) x, l[j]? = some x → w.cell? ⟨ad.block, ad.off + j, none⟩ = some (.string x) := by
    intro j x hx
    obtain ⟨ad', cs', e, h1, h2, h3⟩ := h.at' (by decide) j hx
    injection e with e
    subst e
    obtain rfl : cs' = [.string x] := h2
    have := h3 0 _ rfl
    rw [(addr_of hsp _).2] at this
    simpa using this
  have hb : ad.block < w.heap.size := World.block_lt_of_cell? w ⟨ad.block, ad.off + 0, none⟩ (hcells 0 _ (List.getElem?_eq_getElem hl))
  have hlc : l.length ≤ c ∧ l.length ≤ 1073741824 := by
    obtain ⟨A', c', xs, e, h1, h2, _⟩ := h
    injection e with _ _ e3
    subst e3
    exact ⟨h1, h2⟩
  rw [(addr_of hsp 0).1]
  refine (Tryz.strings_Join ad.block ad.off c l ⟨#[44, 32]⟩ w hcells hb (by omega) hlc.1 ?_).mono ?_
  · have e : ((⟨#[44, 32]⟩ : ByteArray).data.toList) = [44, 32] := rfl
    rw [e]
    have : (⟨(Lib.join (l.map (·.data.toList)) [44, 32]).toArray⟩ : ByteArray).size = (Lib.join (l.map (·.data.toList)) [44, 32]).length := by
      show (Lib.join (l.map (·.data.toList)) [44, 32]).toArray.size = _
      simp
    omega
  · rintro e w' ⟨rfl, hb⟩
    exact ⟨rfl, hb⟩
set_option maxRecDepth 10000 in
set_option maxHeartbeats 4000000 in
theorem shShow_calls : ∀ (n : Nat) (w : World) (x : Value) (v : Vq) (s : ByteArray), Glob w → VV w x v → valOk v = true → v.ds.length = n → (⟨(showN n v).toArray⟩ : ByteArray) = s →
    Calls Tryz.prog 69 #[x] w fun e w' => e = .returned (.string s) ∧ Ext w w'
  | 0, w, x, v, s, hg, h, ho, hd, hs => show_scalar hg h ho (List.eq_nil_of_length_eq_zero hd) hs
  | n + 1, w, x, v, s, hg, h, ho, hd, hs => by
    have HIH := Aside.mk (shShow_calls n)
    have hgood := h.good
    obtain ⟨d, ds, hds⟩ : ∃ d ds, v.ds = d :: ds := by
      cases hv : v.ds with
      | nil => rw [hv] at hd; cases hd
      | cons d ds => exact ⟨d, ds, rfl⟩
    have hD := (valOk_dims ho).2 d (by rw [hds]; simp)
    obtain ⟨dn, rfl⟩ : ∃ m : Nat, d = (m : Int) := ⟨d.toNat, by omega⟩
    have HG := Aside.mk hg
    have HV := Aside.mk h
    have HOK := Aside.mk ho
    have HDS := Aside.mk hds
    have HLE : Aside (∀ i, (elemV v i).ds.length = n) := ⟨fun i => by show v.ds.tail.length = n; rw [hds] at hd ⊢; simpa using hd⟩
    have HEO' : Aside (∀ i : Nat, i < dn → valOk (elemV v i) = true) := ⟨fun i hi => elem_ok ho hds (by omega)⟩
    obtain ⟨j0, hj0⟩ : ∃ b, (⟨(Lib.join ((showL n v dn).map (·.data.toList)) [44, 32]).toArray⟩ : ByteArray) = b := ⟨_, rfl⟩
    have hlen := showN_len (n + 1) v ho hgood hd
    have hmap : (showL n v dn).map (·.data.toList) = (List.range dn).map fun i => showN n (elemV v i) := by simp [showL]
    have hd3 : n + 1 ≤ 3 := by rw [← hd]; exact (valOk_dims ho).1
    have h9 : 3000 * 9 ^ (n + 1) ≤ 3000 * 9 ^ 3 := Nat.mul_le_mul_left _ (Nat.pow_le_pow_right (by decide) hd3)
    have hsz : j0.size ≤ 2187000 := by
      rw [← hj0]
      show (Lib.join _ _).toArray.size ≤ _
      have : (showN (n + 1) v).length = (Lib.join ((List.range dn).map fun i => showN n (elemV v i)) [44, 32]).length + 2 := by
        rw [showN_succ hds]; simp
      rw [hmap]
      simp only [List.size_toArray]
      omega
    have HS : Aside (⟨#[123]⟩ ++ j0 ++ ⟨#[125]⟩ = s) := ⟨by
      rw [← hs, ← hj0, hmap, show (⟨#[123]⟩ : ByteArray) = ⟨[123].toArray⟩ from rfl, show (⟨#[125]⟩ : ByteArray) = ⟨[125].toArray⟩ from rfl, bcat, bcat]
      rw [showN_succ hds]; simp⟩
    have HJ := Aside.mk hj0
    obtain ⟨b0, o0, cd, A, ca, B, cb, rfl, hcell, hlc⟩ := h.first hds
    have hd1 : 1 ≤ dn ∧ dn ≤ 8 := by omega
    have hk0 := KeepB.init w (.int .i64 v.k) (.slice (some ⟨b0, o0, none⟩) (ds.length + 1) cd) (.slice A v.nums.length ca) (.slice B v.bits.length cb) 29
    have g0 := hk0.1.out.cell hcell
    clear hg h ho hds hD hcell hs hj0 hlen hmap hd3 h9 hd hgood
    go_enter Tryz.func69, Tryz.ntmps69
    go_wp2_with fail
    go_loopw [8, 54] (fun ws i wr => ∃ (j : Nat) (N : Option Addr) (cN : Nat), j ≤ dn ∧ i = .int .i64 (j : Int) ∧ ws = .slice N j cN ∧ KeepB w (.int .i64 v.k) (.slice (some ⟨b0, o0, none⟩) (ds.length + 1) cd) (.slice A v.nums.length ca) (.slice B v.bits.length cb) wr ∧ Aside (SO (w.heap.size + 1) 9 1 StrC wr (.slice N j cN) (showL n v j))) (fun _ i _ => dn - (intOf i).toNat)
    case atStart => exact ⟨0, none, 0, by omega, rfl, rfl, hk0, ⟨SO.nil⟩⟩
    case round =>
      clear hk0 g0
      obtain ⟨j, N, cN, hj, rfl, rfl, hk0, HW⟩ := hrel
      by_cases hlt : j < dn
      · have HLT : Aside ((j : Int) < (dn : Int)) := ⟨by omega⟩
        have HEO : Aside (valOk (elemV v j) = true) := ⟨HEO'.out j hlt⟩
        have HEL : Aside ((elemV v j).ds.length = n) := ⟨HLE.out j⟩
        obtain ⟨se, hse⟩ : ∃ b, (⟨(showN n (elemV v j)).toArray⟩ : ByteArray) = b := ⟨_, rfl⟩
        have HSE := Aside.mk hse
        have HSL : Aside (showL n v (j + 1) = showL n v j ++ [se]) := ⟨by rw [showL_succ, hse]⟩
        have HLN : Aside ((showL n v j).length + [se].length ≤ 1073741824) := ⟨by rw [showL_len]; simp; omega⟩
        have HLN2 : Aside ((showL n v j ++ [se]).length = j + 1) := ⟨by simp [showL_len]⟩
        clear hse
        go_wp2_with (go_at_call 16; with_reducible refine (element_ok (HV.out.ext hk0.1.out) HOK.out HDS.out HLT.out).mono ?_; rintro e w1 ⟨r, rfl, hr, he⟩; obtain ⟨D7, e7, A7, c7, B7, d7, rfl⟩ := hr.vv.form; have HR := Aside.mk hr.vv; have hk1 := KeepB.ext he hk0; have HE1 := Aside.mk he; have HA := Aside.mk ((Ext.refl w1).alloc (.cells #[.int .i64 (elemV v j).k, .slice D7 (elemV v j).ds.length e7, .slice A7 (elemV v j).nums.length c7, .slice B7 (elemV v j).bits.length d7] 29)); have hk2 := KeepB.ext HA.out hk1; clear hr he)
        have hz := (HIH.out _ _ _ _ (HG.out.ext (Aside.out (And.left hk2))) (HR.out.ext HA.out) HEO.out HEL.out HSE.out)
        with_reducible refine hz.mono ?_
        clear hz
        rintro e w2 ⟨rfl, he⟩
        have hk3 := KeepB.ext (he.alloc (.cells #[.string se] 9)) hk2
        have HE3 := Aside.mk (((HE1.out.trans HA.out).trans he).alloc (.cells #[.string se] 9))
        have HW2 := Aside.mk (HW.out.ext StrC.ext HE3.out)
        have HB2 : Aside (w.heap.size + 1 ≤ (w2.alloc (.cells #[.string se] 9)).heap.size) := ⟨World.block_lt_of_cell? _ _ hk3.2.1⟩
        clear he
        go_wp2_with (at_builtin; refine append_so (R := StrC) (w.heap.size + 1) elemStr rfl _ _ rfl _ _ (showL n v j) [se] HW2.out one_str StrC.one (fun _ _ _ _ h => h) rfl rfl HB2.out HLN.out ?_; intro v1 w4 ho hg; have hk4 := hk3.below (Below.grown (Below.refl _ _) hg HB2.out HW2.out.low); obtain ⟨A5, c5, rfl, _⟩ := ho.sv.form; rw [HLN2.out] at ho ⊢; have HO4 := Aside.mk ho; clear ho hg)
        go_roundw
        case rel => exact ⟨_, _, _, _, _, _, _, _, _, _, _, _, _, _, _, _, _, _, _, ⟨j + 1, A5, c5, by omega, by go_num, rfl, hk4, ⟨by rw [HSL.out]; exact HO4.out⟩⟩, rfl⟩
        case measure => simp [intOf]; omega
      · have hjn : j = dn := by omega
        subst hjn
        have HL0 : Aside (0 < (showL n v j).length) := ⟨by rw [showL_len]; omega⟩
        have HSZ : Aside (j0.size ≤ 140737488355328) := ⟨by omega⟩
        go_wp2_with (go_at_call 112; with_reducible refine (joined (showL_len n v j) HW.out.sv HL0.out HJ.out HSZ.out).mono ?_; rintro e w5 ⟨rfl, he⟩; have HE := Aside.mk (hk0.1.out.trans he); clear he)
        go_ret
        exact ⟨by rw [HS.out]; rfl, HE.out⟩
/-- The text of a value. -/
def showV (v : Vq) : List UInt8 := showN v.ds.length v
theorem show_ok {w : World} {x : Value} {v : Vq} {s : ByteArray} (hg : Glob w) (h : VV w x v) (ho : valOk v = true) (hs : (⟨(showV v).toArray⟩ : ByteArray) = s) :
    Calls Tryz.prog 17 #[x] w fun e w' => e = .returned (.tuple #[.string s, .int .i64 0]) ∧ Ext w w' := by
  have HV := Aside.mk h
  have HO := Aside.mk ho
  have HG := Aside.mk hg
  have HS := Aside.mk hs
  obtain ⟨D, cd, A, ca, B, cb, rfl⟩ := h.form
  have hk0 := KeepB.init w (.int .i64 v.k) (.slice D v.ds.length cd) (.slice A v.nums.length ca) (.slice B v.bits.length cb) 29
  clear h ho hg hs
  go_enter Tryz.func17, Tryz.ntmps17
  go_wp2_with (go_at_call 15; with_reducible refine (isValue_calls (HV.out.ext hk0.1.out) HO.out).mono ?_; rintro e w1 ⟨rfl, he⟩; replace hk0 := KeepB.ext he hk0; clear he)
  have hz := shShow_calls _ _ _ _ _ (HG.out.ext hk0.1.out) (HV.out.ext hk0.1.out) HO.out rfl HS.out
  with_reducible refine hz.mono ?_
  clear hz
  rintro e w2 ⟨rfl, he⟩
  have hk1 := KeepB.ext he hk0
  clear he hk0
  go_wp2_with fail
  go_ret2
  exact ⟨rfl, hk1.1.out⟩
end Go.Proofs.YtcbaipnphepbeaaGreatDoor

namespace Go.Proofs.YtcbaipnphepbeaaGreatDoor
open Go.RowKit

/-- Does a byte end a word? -/
def sepB (c : UInt8) : Bool := c == 44 || c == 125
def wordT (s : List UInt8) : List UInt8 := s.takeWhile fun c => !sepB c
def restT (s : List UInt8) : List UInt8 := s.dropWhile fun c => !sepB c
theorem word_rest (s : List UInt8) : wordT s ++ restT s = s := List.takeWhile_append_dropWhile
/-- What take reads: sizes, what is left, words. -/
def takeL (f : List UInt8 → Option (List Int × List UInt8 × List (List UInt8))) : Nat → Nat → List Int → List UInt8 → List (List UInt8) → Option (List Int × List UInt8 × List (List UInt8))
  | 0, _, _, _, _ => none
  | k + 1, n, first, s, ws =>
    match f s with
    | none => none
    | some (dims, r, ws') =>
      if 1 < n ∧ dims ≠ first then none
      else match r with
        | [] => none
        | c :: r1 => if c = 125 then some ((n : Int) :: dims, r1, ws ++ ws')
          else match r1 with
            | [] => none
            | d :: r2 => if c = 44 ∧ d = 32 then takeL f k (n + 1) dims r2 (ws ++ ws') else none
def takeF : Nat → List UInt8 → Option (List Int × List UInt8 × List (List UInt8))
  | 0, s => if s.head? = some 123 then none else some ([], restT s, [wordT s])
  | m + 1, s => if s.head? = some 123 then takeL (takeF m) 8 1 [] s.tail [] else some ([], restT s, [wordT s])
def yesT : List UInt8 := [121, 101, 115]
def noT : List UInt8 := [110, 111]
/-- What a word says, as an element of a value of a kind. -/
def stepW (k : Int) (w : List UInt8) : Option (List Rq × List Bq) :=
  if k = 2 ∧ (w = yesT ∨ w = noT) then some ([], [⟨0, decide (w = yesT)⟩])
  else if (fparse w).2 ≠ 0 ∨ (k = 2 ∧ (fparse w).1.f = 0) then none
  else if k = 2 then some ([], [⟨(fparse w).1.f, false⟩])
  else some ([(fparse w).1], [])
def readW (k : Int) : List (List UInt8) → Option (List Rq × List Bq)
  | [] => some ([], [])
  | w :: ws => match stepW k w with
    | none => none
    | some (a, b) => match readW k ws with
      | none => none
      | some (ns, ms) => some (a ++ ns, b ++ ms)
def kindW (ws : List (List UInt8)) : Int := if yesT ∈ ws ∨ noT ∈ ws then 2 else 1
/-- What Read returns. -/
def readF (s : List UInt8) : Vq × Int :=
  if 20000 < s.length then (zeroV, 3)
  else match takeF 3 s with
    | none => (zeroV, 5)
    | some (dims, r, ws) => if r = [] then
        (match readW (kindW ws) ws with
        | none => (zeroV, 5)
        | some (ns, bs) => (⟨kindW ws, dims, ns, bs⟩, 0))
      else (zeroV, 5)

/-- The words of a text are no longer than it; they are not too many. -/
theorem takeL_len {f : List UInt8 → Option (List Int × List UInt8 × List (List UInt8))} {M : Nat} (hf : ∀ s d r w, f s = some (d, r, w) → r.length ≤ s.length ∧ w.length ≤ M ∧ ∀ x ∈ w, x.length ≤ s.length) :
    ∀ (k n : Nat) (first : List Int) (s : List UInt8) (ws : List (List UInt8)) d r w, takeL f k n first s ws = some (d, r, w) → r.length ≤ s.length ∧ w.length ≤ ws.length + k * M ∧ ∀ x ∈ w, x ∈ ws ∨ x.length ≤ s.length
  | 0, _, _, _, _, _, _, _, h => by cases h
  | k + 1, n, first, s, ws, d, r, w, h => by
    unfold takeL at h
    split at h
    · cases h
    · rename_i dims r0 ws' hfs
      have h0 := hf _ _ _ _ hfs
      split at h
      · cases h
      · split at h
        · cases h
        · rename_i c r1
          split at h
          · injection h with h; injection h with h1 h2; injection h2 with h2 h3
            subst h1 h2 h3
            have := h0.1
            simp only [List.length_cons] at this
            refine ⟨by omega, ?_, ?_⟩
            · rw [List.length_append, Nat.succ_mul]; omega
            · intro x hx
              rcases List.mem_append.1 hx with hx | hx
              · exact .inl hx
              · exact .inr (h0.2.2 x hx)
          · split at h
            · cases h
            · rename_i e r2
              split at h
              · have h1 := takeL_len hf k (n + 1) dims r2 (ws ++ ws') d r w h
                have := h0.1
                simp only [List.length_cons] at this
                refine ⟨by omega, ?_, ?_⟩
                · have := h1.2.1
                  rw [List.length_append] at this
                  rw [Nat.succ_mul]; omega
                · intro x hx
                  rcases h1.2.2 x hx with hx | hx
                  · rcases List.mem_append.1 hx with hx | hx
                    · exact .inl hx
                    · exact .inr (h0.2.2 x hx)
                  · exact .inr (by omega)
              · cases h
theorem wordT_len (s : List UInt8) : (wordT s).length ≤ s.length := by
  have := congrArg List.length (word_rest s); rw [List.length_append] at this; omega
theorem restT_len (s : List UInt8) : (restT s).length ≤ s.length := by
  have := congrArg List.length (word_rest s); rw [List.length_append] at this; omega
theorem takeF_len : ∀ (m : Nat) (s : List UInt8) d r w, takeF m s = some (d, r, w) → r.length ≤ s.length ∧ w.length ≤ 8 ^ m ∧ ∀ x ∈ w, x.length ≤ s.length
  | 0, s, d, r, w, h => by
    unfold takeF at h
    split at h
    · cases h
    · injection h with h; injection h with h1 h2; injection h2 with h2 h3
      subst h1 h2 h3
      exact ⟨restT_len s, by simp, fun x hx => by rw [List.mem_singleton.1 hx]; exact wordT_len s⟩
  | m + 1, s, d, r, w, h => by
    unfold takeF at h
    split at h
    · have h1 := takeL_len (M := 8 ^ m) (fun s d r w hh => takeF_len m s d r w hh) 8 1 [] s.tail [] d r w h
      refine ⟨?_, ?_, ?_⟩
      · have := h1.1; rw [List.length_tail] at this; omega
      · have := h1.2.1; rw [Nat.pow_succ]; simp at this; omega
      · intro x hx
        rcases h1.2.2 x hx with hx | hx
        · cases hx
        · rw [List.length_tail] at hx; omega
    · injection h with h; injection h with h1 h2; injection h2 with h2 h3
      subst h1 h2 h3
      refine ⟨restT_len s, ?_, fun x hx => by rw [List.mem_singleton.1 hx]; exact wordT_len s⟩
      have := Nat.one_le_pow (m + 1) 8 (by decide)
      simpa using this
/-- IndexAny of the two bytes that end a word. -/
theorem indexAny_sep : ∀ s : List UInt8, Lib.indexAny s [44, 125] = if restT s = [] then -1 else ((wordT s).length : Int)
  | [] => rfl
  | c :: t => by
    have ih := indexAny_sep t
    have hc : ([44, 125] : List UInt8).contains c = sepB c := by
      unfold sepB
      by_cases h1 : c = 44
      · subst h1; rfl
      · by_cases h2 : c = 125
        · subst h2; rfl
        · simp [h1, h2]
    rw [Lib.indexAny, hc]
    cases hs : sepB c
    · have e1 : restT (c :: t) = restT t := by unfold restT; rw [List.dropWhile_cons]; simp [hs]
      have e2 : wordT (c :: t) = c :: wordT t := by unfold wordT; rw [List.takeWhile_cons]; simp [hs]
      rw [e1, e2, ih]
      by_cases h : restT t = []
      · simp [h]
      · simp only [if_neg h, Bool.false_eq_true, if_false]
        rw [if_neg (by intro e; have := beq_iff_eq.1 e; omega)]
        simp
    · have e1 : restT (c :: t) = c :: t := by unfold restT; rw [List.dropWhile_cons]; simp [hs]
      have e2 : wordT (c :: t) = [] := by unfold wordT; rw [List.takeWhile_cons]; simp [hs]
      rw [e1, e2]; simp
end Go.Proofs.YtcbaipnphepbeaaGreatDoor
