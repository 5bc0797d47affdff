/- Contracts of fluxionref03: part. Contracts of fluxionref03: Element. Contracts of fluxionref03: Fill. -/
import Derived.Test.YtcbaipnphepbeaaGreatDoorNp
namespace Go.Proofs.YtcbaipnphepbeaaGreatDoor
open Go.RowKit
attribute [local go_sem ↓] Go.wp_at_zero Go.wp_at_succ

/-- A box of four cells, and a result of four, with one block between. -/
abbrev KQ (w : World) (x0 x1 x2 x3 : Value) (w' : World) : Prop :=
  Aside (Ext w w') ∧ (w'.cell? ⟨w.heap.size, 0, none⟩ = some x0 ∧ w'.cell? ⟨w.heap.size, 1, none⟩ = some x1 ∧ w'.cell? ⟨w.heap.size, 2, none⟩ = some x2 ∧ w'.cell? ⟨w.heap.size, 3, none⟩ = some x3) ∧
    (Fits w' ⟨w.heap.size + 2, 0, none⟩ ∧ Fits w' ⟨w.heap.size + 2, 1, none⟩ ∧ Fits w' ⟨w.heap.size + 2, 2, none⟩ ∧ Fits w' ⟨w.heap.size + 2, 3, none⟩)
theorem KQ.below {w w1 w2 : World} {x0 x1 x2 x3 : Value} (h : KQ w x0 x1 x2 x3 w1) (b : Below (w.heap.size + 3) w1 w2) : KQ w x0 x1 x2 x3 w2 := by
  obtain ⟨h0, ⟨h1, h2, h3, h4⟩, ⟨h5, h6, h7, h8⟩⟩ := h
  have hc : ∀ {g j : Nat} {v : Value}, g < w.heap.size + 3 → w1.cell? ⟨g, j, none⟩ = some v → w2.cell? ⟨g, j, none⟩ = some v := fun hg h => (Below.cell b hg).trans h
  have hf : ∀ {g j : Nat}, g < w.heap.size + 3 → w1.frozen? ⟨g, j, none⟩ = false → w2.frozen? ⟨g, j, none⟩ = false := fun hg h => (Below.frozen b hg).trans h
  have hF : ∀ {g j : Nat}, g < w.heap.size + 3 → Fits w1 ⟨g, j, none⟩ → Fits w2 ⟨g, j, none⟩ := fun hg h => Fits.of (hc hg h.1) (hf hg h.2)
  exact ⟨⟨Below.trans h0.out (Below.mono b (by omega))⟩, ⟨hc (by omega) h1, hc (by omega) h2, hc (by omega) h3, hc (by omega) h4⟩, ⟨hF (by omega) h5, hF (by omega) h6, hF (by omega) h7, hF (by omega) h8⟩⟩
theorem KQ.lt {w w1 : World} {x0 x1 x2 x3 : Value} (h : KQ w x0 x1 x2 x3 w1) : w.heap.size + 3 ≤ w1.heap.size := World.block_lt_of_cell? w1 ⟨w.heap.size + 2, 0, none⟩ h.2.2.1.1
theorem KQ.ext {w w1 w2 : World} {x0 x1 x2 x3 : Value} (e : Ext w1 w2) (h : KQ w x0 x1 x2 x3 w1) : KQ w x0 x1 x2 x3 w2 := h.below (Below.mono e h.lt)
theorem KQ.set3 {w w1 : World} {x0 x1 x2 x3 : Value} (h : KQ w x0 x1 x2 x3 w1) (j : Nat) (v : Value) : KQ w x0 x1 x2 x3 (w1.setCell ⟨w.heap.size + 1 + 1 + 1, j, none⟩ v) := h.below (Below.setCell (p := ⟨w.heap.size + 1 + 1 + 1, j, none⟩) (Below.refl _ _) (Nat.le_refl _) v)
theorem KQ.init (w : World) (x0 x1 x2 x3 z0 z1 z2 z3 : Value) (o : Obj) (t t' : TypeId) : KQ w x0 x1 x2 x3 (((w.alloc (.cells #[x0, x1, x2, x3] t)).alloc o).alloc (.cells #[z0, z1, z2, z3] t')) :=
  ⟨⟨(((Ext.refl w).alloc _).alloc _).alloc _⟩, ⟨cell_old (cell_old (cell_new rfl rfl)), cell_old (cell_old (cell_new rfl rfl)), cell_old (cell_old (cell_new rfl rfl)), cell_old (cell_old (cell_new rfl rfl))⟩,
    ⟨fits_new (v := z0) (by simp) rfl, fits_new (v := z1) (by simp) rfl, fits_new (v := z2) (by simp) rfl, fits_new (v := z3) (by simp) rfl⟩⟩
/-- Some elements of a value. -/
def partN (v : Vq) (fr many : Nat) : List Rq := if v.k = 1 then (v.nums.drop fr).take many else []
def partB (v : Vq) (fr many : Nat) : List Bq := if v.k = 1 then [] else (v.bits.drop fr).take many
theorem copy_box {w : World} {v : Value} {q : Rq} (h : RR w v q) :
    Calls Tryz.prog 74 #[v] w fun e w' => ∃ A c B d, e = .returned (.agg #[.int .i64 q.f, .bool q.neg, .slice A q.num.length c, .slice B q.den.length d]) ∧ RO w.heap.size w' (.agg #[.int .i64 q.f, .bool q.neg, .slice A q.num.length c, .slice B q.den.length d]) q ∧ Ext w w' := by
  refine (rCopy_calls h).mono ?_
  rintro e w' ⟨r, rfl, hr, he⟩
  obtain ⟨A, c, B, d, rfl⟩ := hr.form
  exact ⟨A, c, B, d, rfl, hr, he⟩
set_option maxRecDepth 10000 in
set_option maxHeartbeats 8000000 in
theorem rpart_calls {w : World} {x : Value} {v : Vq} {fr many : Nat} {kt : Int} {T : Option Addr} {lt ct : Nat} (h : VV w x v) (hfm : fr + many ≤ 4096) (hl1 : v.k = 1 → fr + many ≤ v.nums.length) (hl2 : v.k ≠ 1 → fr + many ≤ v.bits.length) :
    Calls Tryz.prog 73 #[x, .int .i64 (fr : Int), .int .i64 (many : Int), .agg #[.int .i64 kt, .slice T lt ct]] w fun e w' => ∃ xn xb, e = .returned (.agg #[.int .i64 kt, .slice T lt ct, xn, xb]) ∧
      SO w.heap.size 83 4 (RatO w.heap.size) w' xn (partN v fr many) ∧ SO w.heap.size 46 2 BitC w' xb (partB v fr many) ∧ Ext w w' := by
  obtain ⟨D, cd, A, ca, B, cb, rfl⟩ := h.form
  obtain ⟨-, -, hn, hb⟩ := h.ty
  have HN := Aside.mk hn
  have HB := Aside.mk hb
  have HL1 := Aside.mk hl1
  have HL2 := Aside.mk hl2
  obtain ⟨ld, hld⟩ : ∃ n, v.ds.length = n := ⟨_, rfl⟩
  obtain ⟨ln, hln⟩ : ∃ n, v.nums.length = n := ⟨_, rfl⟩
  obtain ⟨lb, hlb⟩ : ∃ n, v.bits.length = n := ⟨_, rfl⟩
  rw [hln] at HN HL1
  rw [hlb] at HB HL2
  rw [hld, hln, hlb]
  have HLN := Aside.mk hln
  have HLB0 := Aside.mk hlb
  have hcc : ln ≤ 1073741824 ∧ lb ≤ 1073741824 := by
    obtain ⟨_, _, _, h1⟩ := hn.form
    obtain ⟨_, _, _, h2⟩ := hb.form
    omega
  clear h hn hb hl1 hl2 hld hln hlb
  have hk0 := KQ.init w (.int .i64 v.k) (.slice D ld cd) (.slice A ln ca) (.slice B lb cb) (.int .i64 0) (.slice none 0 0) (.slice none 0 0) (.slice none 0 0) (.cells #[.int .i64 kt, .slice T lt ct] 25) 29 29
  have hk1 := KQ.ext ((Ext.refl _).alloc (.cells #[.int .i64 kt, .slice T lt ct, .slice none 0 0, .slice none 0 0] 29)) hk0
  have hb0 := B4.new (w := (((w.alloc (.cells #[.int .i64 v.k, .slice D ld cd, .slice A ln ca, .slice B lb cb] 29)).alloc (.cells #[.int .i64 kt, .slice T lt ct] 25)).alloc (.cells #[.int .i64 0, .slice none 0 0, .slice none 0 0, .slice none 0 0] 29))) (g := w.heap.size + 3) (by simp) (.int .i64 kt) (.slice T lt ct) (.slice none 0 0) (.slice none 0 0) 29
  have HROW0 : Aside (RdRows w.heap.size (w.heap.size + 3) [] [] (.slice none 0 0) (.slice none 0 0) (.slice none 0 0) (.slice none 0 0) [] [] ((((w.alloc (.cells #[.int .i64 v.k, .slice D ld cd, .slice A ln ca, .slice B lb cb] 29)).alloc (.cells #[.int .i64 kt, .slice T lt ct] 25)).alloc (.cells #[.int .i64 0, .slice none 0 0, .slice none 0 0, .slice none 0 0] 29)).alloc (.cells #[.int .i64 kt, .slice T lt ct, .slice none 0 0, .slice none 0 0] 29))) := ⟨⟨by omega, hb0.lt, SO.nil, (fun h => by cases h), SO.nil, (fun h => by cases h), SO.nil, SO.nil⟩⟩
  clear hk0
  go_enter Tryz.func73, Tryz.ntmps73
  go_wp2_with fail
  go_loopw [10] (fun i wr => ∃ (p : Nat) (NA : Option Addr) (nn nc : Nat) (BA : Option Addr) (bn bc : Nat), fr ≤ p ∧ p ≤ fr + many ∧ nn ≤ p ∧ bn ≤ p ∧ i = .int .i64 (p : Int) ∧ KQ w (.int .i64 v.k) (.slice D ld cd) (.slice A ln ca) (.slice B lb cb) wr ∧ B4 wr (w.heap.size + 3) (.int .i64 kt) (.slice T lt ct) (.slice NA nn nc) (.slice BA bn bc) ∧
    Aside (∃ ns bts, ns = partN v fr (p - fr) ∧ bts = partB v fr (p - fr) ∧ ns.length = nn ∧ bts.length = bn ∧ RdRows w.heap.size (w.heap.size + 3) [] [] (.slice none 0 0) (.slice none 0 0) (.slice NA nn nc) (.slice BA bn bc) ns bts wr)) (fun i _ => fr + many - (intOf i).toNat)
  case atStart => exact ⟨fr, none, 0, 0, none, 0, 0, by omega, by omega, by omega, by omega, rfl, hk1, hb0, ⟨[], [], by simp [partN], by simp [partB], rfl, rfl, HROW0.out⟩⟩
  case round =>
    clear hk1 hb0 HROW0
    obtain ⟨p, NA, nn, nc, BA, bn, bc, hfp, hpm, hnj, hbj, rfl, hk0, hb0, HS⟩ := hrel
    obtain ⟨ns, bts, hns, hbs, hnn, hbn, hrow⟩ := HS.out
    have HNS := Aside.mk hns
    have HBS := Aside.mk hbs
    have HNN := Aside.mk hnn
    have HBN := Aside.mk hbn
    have HROW := Aside.mk hrow
    clear HS hns hbs hnn hbn hrow
    by_cases hlt : p < fr + many
    · by_cases hk : v.k = 1
      · have hk1 : (v.k == 1) = true := by simp [hk]
        have HK := Aside.mk hk
        have hll := HL1.out hk
        have hp0 : (0 : Int) ≤ (p : Int) := Int.natCast_nonneg _
        have hpl : (p : Int) < (ln : Int) := by omega
        clear hk
        obtain ⟨q, hq⟩ : ∃ q, v.nums[p]? = some q := ⟨v.nums[p]'(by rw [HLN.out]; omega), List.getElem?_eq_getElem _⟩
        obtain ⟨b0, o0, x, y, rfl, hc0, hc1, hc2, hc3, hrr⟩ := QV.at' (SV.ext RatC.ext HN.out (hk0.1.out.drew)) p hq
        have HRR := Aside.mk hrr
        have HNS2 : Aside (ns ++ [q] = partN v fr (p + 1 - fr)) := ⟨by unfold partN at *; rw [HNS.out, if_pos HK.out, if_pos HK.out, show p + 1 - fr = (p - fr) + 1 from by omega, List.take_add_one, List.getElem?_drop, show fr + (p - fr) = p from by omega, hq]; rfl⟩
        have HBS2 : Aside (bts = partB v fr (p + 1 - fr)) := ⟨by unfold partB at *; rw [HBS.out, if_pos HK.out, if_pos HK.out]⟩
        have HLB : Aside (ns.length + [q].length ≤ 1073741824) := ⟨by have := HNN.out; simp; omega⟩
        have HLB2 : Aside ((ns ++ [q]).length = nn + 1) := ⟨by simp [HNN.out]⟩
        have HCC : Aside (∀ args w, Sem.run Tryz.prog (callFunc 74 args) w = .ok (.enter 74 args) w) := ⟨by intro args w; simp [go_sem]⟩
        clear hq hrr
        have hb1 := hb0.ext ((Ext.refl wr).drew)
        have HROW1 := Aside.mk (HROW.out.ext ((Ext.refl wr).drew))
        have hk0' := KQ.ext ((Ext.refl wr).drew) hk0
        go_wp2_with fail
        go_region_law (first | (refine step_call (F := 74) (args := #[.tmp 31]) (types := #[83]) HCC.out rfl rfl #[.agg #[.int .i64 q.f, .bool q.neg, x, y]] (by simp [Act.eval]) (copy_box HRR.out) ?_; rintro e w3 ⟨A4, c4, B4', d4, rfl, hr, he⟩; have hb3w := hb1.ext he; have hb3 := hb1.ext (he.alloc (.cells #[.int .i64 q.f, .bool q.neg, .slice A4 q.num.length c4, .slice B4' q.den.length d4] 83)); have hk3 := KQ.ext (((Ext.refl wr).drew.trans he).alloc (.cells #[.int .i64 q.f, .bool q.neg, .slice A4 q.num.length c4, .slice B4' q.den.length d4] 83)) hk0; have HROW3 := Aside.mk (HROW1.out.ext (he.alloc (.cells #[.int .i64 q.f, .bool q.neg, .slice A4 q.num.length c4, .slice B4' q.den.length d4] 83))); have HRO := Aside.mk hr; have HLR := Aside.mk HROW1.out.lt; refine ⟨_, rfl, ?_⟩; clear hr he) | (refine step_append_so (R := RatO (w.heap.size + 3 + 1)) (W := w3.alloc (.cells #[.int .i64 q.f, .bool q.neg, .slice A4 q.num.length c4, .slice B4' q.den.length d4] 83)) (w.heap.size + 3 + 1) elemRat rfl (.tmp 26) (.tmp 33) rfl (.slice NA nn nc) (.slice (some ⟨w3.heap.size, 0, none⟩) 1 1) ns [q] HROW3.out.nums (one_rat2 (g := w3.heap.size) rfl HRO.out HLR.out) RatO.one (fun _ hg => RatO.grown HROW3.out.nums (by decide) hg) (by simp [Act.eval]) (by simp [Act.eval]) HROW3.out.lt HLB.out ?_; rintro v1 w5 ho hg; obtain ⟨A5, c5, rfl, _⟩ := ho.sv.form; rw [HLB2.out] at ho ⊢; have hbel := Below.grown (Below.refl (w.heap.size + 3 + 1) _) hg HROW3.out.lt HROW3.out.nums.low; have hb5 := hb3.below (Nat.lt_succ_self _) hbel; have hk5 := hk3.below (Below.mono hbel (Nat.le_succ _)); have HROW5 := Aside.mk (HROW3.out.num hg ho); clear ho hg hbel))
        all_goals
          have HB5 := Aside.mk hb5
          have HK5 := Aside.mk hk5
          clear hb0 hb1 hb3 hb3w hk0 hk0' hk3
          go_wp2_with fail
          go_roundw
          case rel => exact ⟨p + 1, A5, nn + 1, c5, BA, bn, bc, by omega, by omega, by omega, by omega, by go_num, HK5.out.set3 _ _, HB5.out.put 2 _, ⟨_, bts, HNS2.out, HBS2.out, HLB2.out, HBN.out, HROW5.out.set 2 _⟩⟩
          case measure => simp [intOf]; omega
      · have hk1 : (v.k == 1) = false := beq_eq_false_iff_ne.2 hk
        have HK := Aside.mk hk
        have hll := HL2.out hk
        have hp0 : (0 : Int) ≤ (p : Int) := Int.natCast_nonneg _
        have hpl : (p : Int) < (lb : Int) := by omega
        clear hk
        obtain ⟨q, hq⟩ : ∃ q, v.bits[p]? = some q := ⟨v.bits[p]'(by rw [HLB0.out]; omega), List.getElem?_eq_getElem _⟩
        obtain ⟨b0, o0, rfl, hc0, hc1⟩ := BV.at' (SV.ext BitC.ext HB.out (hk0.1.out.drew)) p hq
        have HNS2 : Aside (ns = partN v fr (p + 1 - fr)) := ⟨by unfold partN at *; rw [HNS.out, if_neg HK.out, if_neg HK.out]⟩
        have HBS2 : Aside (bts ++ [q] = partB v fr (p + 1 - fr)) := ⟨by unfold partB at *; rw [HBS.out, if_neg HK.out, if_neg HK.out, show p + 1 - fr = (p - fr) + 1 from by omega, List.take_add_one, List.getElem?_drop, show fr + (p - fr) = p from by omega, hq]; rfl⟩
        have HLB : Aside (bts.length + [q].length ≤ 1073741824) := ⟨by have := HBN.out; simp; omega⟩
        have HLB2 : Aside ((bts ++ [q]).length = bn + 1) := ⟨by simp [HBN.out]⟩
        clear hq
        have hb1 := hb0.ext ((Ext.refl wr).drew)
        have hb3 := hb0.ext (((Ext.refl wr).alloc (.cells #[.int .i64 q.f, .bool q.on] 46)).drew)
        have hk3 := KQ.ext (((Ext.refl wr).alloc (.cells #[.int .i64 q.f, .bool q.on] 46)).drew) hk0
        have HROW3 := Aside.mk (HROW.out.ext (((Ext.refl wr).alloc (.cells #[.int .i64 q.f, .bool q.on] 46)).drew))
        have HSB : Aside (SV 2 BitC (wr.alloc (.cells #[.int .i64 q.f, .bool q.on] 46)).drew (.slice (some ⟨wr.heap.size, 0, none⟩) 1 1) [q]) := ⟨(one_bit (g := wr.heap.size) rfl).ext BitC.ext ((Ext.refl _).drew)⟩
        have hk0' := KQ.ext ((Ext.refl wr).drew) hk0
        have hc0' : (wr.alloc (.cells #[.int .i64 q.f, .bool q.on] 46)).drew.cell? ⟨b0, o0 + p * 2, none⟩ = some (.int .i64 q.f) := (((Ext.refl wr.drew).alloc (.cells #[.int .i64 q.f, .bool q.on] 46))).cell hc0
        have hc1' : (wr.alloc (.cells #[.int .i64 q.f, .bool q.on] 46)).drew.cell? ⟨b0, o0 + p * 2 + 1, none⟩ = some (.bool q.on) := (((Ext.refl wr.drew).alloc (.cells #[.int .i64 q.f, .bool q.on] 46))).cell hc1
        go_wp2_with fail
        go_region_law (refine step_append_so (R := BitC) (W := (wr.alloc (.cells #[.int .i64 q.f, .bool q.on] 46)).drew) (w.heap.size + 3 + 1) elemBit rfl (.tmp 37) (.tmp 43) rfl (.slice BA bn bc) (.slice (some ⟨wr.heap.size, 0, none⟩) 1 1) bts [q] HROW3.out.bits HSB.out BitC.one (fun _ _ _ _ h => h) (by simp [Act.eval]) (by simp [Act.eval]) HROW3.out.lt HLB.out ?_; rintro v1 w5 ho hg; obtain ⟨A5, c5, rfl, _⟩ := ho.sv.form; rw [HLB2.out] at ho ⊢; have hbel := Below.grown (Below.refl (w.heap.size + 3 + 1) _) hg HROW3.out.lt HROW3.out.bits.low; have hb5 := hb3.below (Nat.lt_succ_self _) hbel; have hk5 := hk3.below (Below.mono hbel (Nat.le_succ _)); have HROW5 := Aside.mk (HROW3.out.bit hg ho); clear ho hg hbel)
        all_goals
          have HB5 := Aside.mk hb5
          have HK5 := Aside.mk hk5
          clear hb0 hb1 hb3 hk0 hk0' hk3
          go_wp2_with fail
          go_roundw
          case rel => exact ⟨p + 1, NA, nn, nc, A5, bn + 1, c5, by omega, by omega, by omega, by omega, by go_num, HK5.out.set3 _ _, HB5.out.put 3 _, ⟨ns, _, HNS2.out, HBS2.out, HNN.out, HLB2.out, HROW5.out.set 3 _⟩⟩
          case measure => simp [intOf]; omega
    · have hpm2 : p = fr + many := by omega
      have HN2 : Aside (ns = partN v fr many) := ⟨by rw [HNS.out, show p - fr = many from by omega]⟩
      have HB2 : Aside (bts = partB v fr many) := ⟨by rw [HBS.out, show p - fr = many from by omega]⟩
      have HK := Aside.mk hk0
      go_wp2_with fail
      refine bodyPost_ret (v := .agg #[.int .i64 kt, .slice T lt ct, .slice NA nn nc, .slice BA bn bc]) (by simp [results, Tryz.results73, go_sem, hk0]) rfl ?_
      rw [← HN2.out, ← HB2.out]
      refine ⟨_, _, rfl, ?_, ?_, ext_set4 HK.out.1.out (Nat.le_succ_of_le (Nat.le_succ _)) _ _ _ _⟩
      · exact ((HROW.out.nums.set4 (Nat.lt_succ_of_lt (Nat.lt_succ_self _)) _ _ _ _ (fun w p hp u c a h => RatO.set hp u c a h)).mono (by omega)).monoR (fun _ _ h => h.mono (by omega))
      · exact ((HROW.out.bits.set4 (Nat.lt_succ_of_lt (Nat.lt_succ_self _)) _ _ _ _ (fun _ _ _ _ _ _ h => h)).mono (by omega))
end Go.Proofs.YtcbaipnphepbeaaGreatDoor

namespace Go.Proofs.YtcbaipnphepbeaaGreatDoor
open Go.RowKit
attribute [local go_sem ↓] Go.wp_at_zero Go.wp_at_succ

theorem valOk_kinds {v : Vq} (h : valOk v = true) : (v.k = 1 → v.bits = [] ∧ 0 < v.nums.length) ∧ (v.k ≠ 1 → v.nums = [] ∧ 0 < v.bits.length) := by
  have hp := (valOk_dims h).prod
  unfold valOk at h
  simp only [Bool.and_eq_true] at h
  have h2 := h.2
  split at h2
  · rename_i hk
    simp only [Bool.and_eq_true, beq_iff_eq] at h2
    exact ⟨fun _ => ⟨List.eq_nil_of_length_eq_zero (by omega), by omega⟩, fun hn => absurd hk hn⟩
  · rename_i hk
    split at h2
    · simp only [Bool.and_eq_true, beq_iff_eq] at h2
      exact ⟨fun h1 => absurd h1 hk, fun _ => ⟨List.eq_nil_of_length_eq_zero (by omega), by omega⟩⟩
    · cases h2
end Go.Proofs.YtcbaipnphepbeaaGreatDoor

namespace Go.Proofs.YtcbaipnphepbeaaGreatDoor
open Go.RowKit
attribute [local go_sem ↓] Go.wp_at_zero Go.wp_at_succ

/-- Boxes of a type, a Rat, a bit, and a result of four cells. -/
abbrev KF (w : World) (x0 x1 y0 y1 y2 y3 z0 z1 : Value) (w' : World) : Prop :=
  Aside (Ext w w') ∧ (w'.cell? ⟨w.heap.size, 0, none⟩ = some x0 ∧ w'.cell? ⟨w.heap.size, 1, none⟩ = some x1) ∧
    (w'.cell? ⟨w.heap.size + 1, 0, none⟩ = some y0 ∧ w'.cell? ⟨w.heap.size + 1, 1, none⟩ = some y1 ∧ w'.cell? ⟨w.heap.size + 1, 2, none⟩ = some y2 ∧ w'.cell? ⟨w.heap.size + 1, 3, none⟩ = some y3) ∧
    (w'.cell? ⟨w.heap.size + 1 + 1, 0, none⟩ = some z0 ∧ w'.cell? ⟨w.heap.size + 1 + 1, 1, none⟩ = some z1) ∧
    (Fits w' ⟨w.heap.size + 1 + 1 + 1, 0, none⟩ ∧ Fits w' ⟨w.heap.size + 1 + 1 + 1, 1, none⟩ ∧ Fits w' ⟨w.heap.size + 1 + 1 + 1, 2, none⟩ ∧ Fits w' ⟨w.heap.size + 1 + 1 + 1, 3, none⟩)
theorem KF.below {w w1 w2 : World} {x0 x1 y0 y1 y2 y3 z0 z1 : Value} (h : KF w x0 x1 y0 y1 y2 y3 z0 z1 w1) (b : Below (w.heap.size + 4) w1 w2) : KF w x0 x1 y0 y1 y2 y3 z0 z1 w2 := by
  obtain ⟨h0, ⟨h1, h2⟩, ⟨h3, h4, h5, h6⟩, ⟨h7, h8⟩, ⟨f1, f2, f3, f4⟩⟩ := h
  have hc : ∀ {g j : Nat} {v : Value}, g < w.heap.size + 4 → w1.cell? ⟨g, j, none⟩ = some v → w2.cell? ⟨g, j, none⟩ = some v := fun hg h => (Below.cell b hg).trans h
  have hf : ∀ {g j : Nat}, g < w.heap.size + 4 → w1.frozen? ⟨g, j, none⟩ = false → w2.frozen? ⟨g, j, none⟩ = false := fun hg h => (Below.frozen b hg).trans h
  have hF : ∀ {g j : Nat}, g < w.heap.size + 4 → Fits w1 ⟨g, j, none⟩ → Fits w2 ⟨g, j, none⟩ := fun hg h => Fits.of (hc hg h.1) (hf hg h.2)
  exact ⟨⟨Below.trans h0.out (Below.mono b (by omega))⟩, ⟨hc (by omega) h1, hc (by omega) h2⟩, ⟨hc (by omega) h3, hc (by omega) h4, hc (by omega) h5, hc (by omega) h6⟩, ⟨hc (by omega) h7, hc (by omega) h8⟩, ⟨hF (by omega) f1, hF (by omega) f2, hF (by omega) f3, hF (by omega) f4⟩⟩
theorem KF.lt {w w1 : World} {x0 x1 y0 y1 y2 y3 z0 z1 : Value} (h : KF w x0 x1 y0 y1 y2 y3 z0 z1 w1) : w.heap.size + 4 ≤ w1.heap.size := World.block_lt_of_cell? w1 ⟨w.heap.size + 1 + 1 + 1, 0, none⟩ h.2.2.2.2.1.1
theorem KF.ext {w w1 w2 : World} {x0 x1 y0 y1 y2 y3 z0 z1 : Value} (e : Ext w1 w2) (h : KF w x0 x1 y0 y1 y2 y3 z0 z1 w1) : KF w x0 x1 y0 y1 y2 y3 z0 z1 w2 := h.below (Below.mono e h.lt)
theorem KF.set {w w1 : World} {x0 x1 y0 y1 y2 y3 z0 z1 : Value} (h : KF w x0 x1 y0 y1 y2 y3 z0 z1 w1) {g : Nat} (hg : w.heap.size + 4 ≤ g) (j : Nat) (v : Value) : KF w x0 x1 y0 y1 y2 y3 z0 z1 (w1.setCell ⟨g, j, none⟩ v) := h.below (Below.setCell (Below.refl _ _) hg v)
theorem KF.init (w : World) (x0 x1 y0 y1 y2 y3 z0 z1 r0 r1 r2 r3 : Value) (t1 t2 t3 t4 : TypeId) : KF w x0 x1 y0 y1 y2 y3 z0 z1 ((((w.alloc (.cells #[x0, x1] t1)).alloc (.cells #[y0, y1, y2, y3] t2)).alloc (.cells #[z0, z1] t3)).alloc (.cells #[r0, r1, r2, r3] t4)) :=
  ⟨⟨((((Ext.refl w).alloc _).alloc _).alloc _).alloc _⟩, ⟨cell_old (cell_old (cell_old (cell_new rfl rfl))), cell_old (cell_old (cell_old (cell_new rfl rfl)))⟩,
    ⟨cell_old (cell_old (cell_new (by simp) rfl)), cell_old (cell_old (cell_new (by simp) rfl)), cell_old (cell_old (cell_new (by simp) rfl)), cell_old (cell_old (cell_new (by simp) rfl))⟩,
    ⟨cell_old (cell_new (by simp) rfl), cell_old (cell_new (by simp) rfl)⟩,
    ⟨fits_new (v := r0) (by simp) rfl, fits_new (v := r1) (by simp) rfl, fits_new (v := r2) (by simp) rfl, fits_new (v := r3) (by simp) rfl⟩⟩
theorem own_ne {w : World} {base : Nat} {e t : TypeId} {k n g : Nat} {v : Value} {xs : List Value} {cs : Array Value} {fr : Nat × Nat} (h : w.ownsRow base e k v n xs) (hg : w.heap[g]? = some (.cells cs t fr)) (hne : e ≠ t) : v.ownBlock ≠ some g := by
  rcases h.2 with ⟨rfl, _⟩ | ⟨g', cap, cur, rfl, _, h3, _⟩
  · simp [Value.ownBlock]
  · intro e'
    have e2 : g' = g := Option.some.inj e'
    rw [e2, hg] at h3
    injection h3 with h3
    injection h3 with _ h4 _
    exact hne h4.symm
theorem B4.of_heap {w : World} {g : Nat} {x0 x1 x2 x3 : Value} {t : TypeId} (h : w.heap[g]? = some (.cells #[x0, x1, x2, x3] t)) : B4 w g x0 x1 x2 x3 :=
  ⟨⟨by simp [World.cell?, h], by simp [World.cell?, h], by simp [World.cell?, h], by simp [World.cell?, h]⟩, by simp [World.frozen?, h], by simp [World.frozen?, h], by simp [World.frozen?, h], by simp [World.frozen?, h]⟩
theorem SO.setNe4 {α : Type} {base : Nat} {e : TypeId} {k : Nat} {R : World → List Value → α → Prop} {w : World} {v : Value} {l : List α} (h : SO base e k R w v l) {g : Nat} (hg : v.ownBlock ≠ some g) (v0 v1 v2 v3 : Value) (hR : ∀ (w : World) (j : Nat) u c a, R w c a → R (w.setCell ⟨g, j, none⟩ u) c a) :
    SO base e k R ((((w.setCell ⟨g, 0, none⟩ v0).setCell ⟨g, 1, none⟩ v1).setCell ⟨g, 2, none⟩ v2).setCell ⟨g, 3, none⟩ v3) v l :=
  (((h.setNe (p := ⟨g, 0, none⟩) hg v0 (hR _ _ _)).setNe (p := ⟨g, 1, none⟩) hg v1 (hR _ _ _)).setNe (p := ⟨g, 2, none⟩) hg v2 (hR _ _ _)).setNe (p := ⟨g, 3, none⟩) hg v3 (hR _ _ _)
/-- A new Value of a type, and the boxes. -/
def FCut (w : World) (K : World → Prop) (n : Nat) (k : Int) (nd : Nat) (ds : List Int) (s3 : Value) (wx : World) : Prop :=
  ∃ g A1 c1, s3 = .pointer (some ⟨g, 0, none⟩) ∧ K wx ∧ B4 wx g (.int .i64 k) (.slice A1 nd c1) (.slice none 0 0) (.slice none 0 0) ∧ w.heap.size + n ≤ g ∧ (Value.slice A1 nd c1).ownBlock ≠ some g ∧ SO (w.heap.size + n) 3 1 IntC wx (.slice A1 nd c1) ds
theorem FCut.new {w w1 : World} {K : World → Prop} {n : Nat} {k : Int} {A1 : Option Addr} {nd c1 : Nat} {ds : List Int} (hk : K (w1.alloc (.cells #[.int .i64 k, .slice A1 nd c1, .slice none 0 0, .slice none 0 0] 29))) (hr : SO (w.heap.size + n) 3 1 IntC w1 (.slice A1 nd c1) ds) (hb : w.heap.size + n ≤ w1.heap.size) :
    FCut w K n k nd ds (.pointer (some ⟨w1.heap.size, 0, none⟩)) (w1.alloc (.cells #[.int .i64 k, .slice A1 nd c1, .slice none 0 0, .slice none 0 0] 29)) :=
  ⟨_, A1, c1, rfl, hk, B4.new rfl _ _ _ _ _, hb, fun e => by
    obtain ⟨xs, ho⟩ := hr.row
    have := (ho.lt _ e).2; omega, hr.ext IntC.ext ((Ext.refl w1).alloc _)⟩
theorem FCut.old {w w1 : World} {K : World → Prop} {n g : Nat} {k : Int} {A1 : Option Addr} {nd c1 : Nat} {ds : List Int} {z0 z1 z2 z3 : Value} (hh : w1.heap[g]? = some (.cells #[z0, z1, z2, z3] 29)) (hr : SO (w.heap.size + n) 3 1 IntC w1 (.slice A1 nd c1) ds) (hg : w.heap.size + n ≤ g)
    (hk : K ((((w1.setCell ⟨g, 0, none⟩ (.int .i64 k)).setCell ⟨g, 1, none⟩ (.slice A1 nd c1)).setCell ⟨g, 2, none⟩ (.slice none 0 0)).setCell ⟨g, 3, none⟩ (.slice none 0 0))) :
    FCut w K n k nd ds (.pointer (some ⟨g, 0, none⟩)) ((((w1.setCell ⟨g, 0, none⟩ (.int .i64 k)).setCell ⟨g, 1, none⟩ (.slice A1 nd c1)).setCell ⟨g, 2, none⟩ (.slice none 0 0)).setCell ⟨g, 3, none⟩ (.slice none 0 0)) := by
  obtain ⟨xs, ho⟩ := hr.row
  have hne := own_ne ho hh (by decide)
  exact ⟨g, A1, c1, rfl, hk, ((((B4.of_heap hh).put 0 _).put 1 _).put 2 _).put 3 _, hg, hne, hr.setNe4 hne _ _ _ _ (fun _ _ _ _ _ h => h)⟩
/-- The value of a type the elements of which all are a number or a bit. -/
def fillQ (k : Int) (ds : List Int) (q : Rq) (b : Bq) : Vq := ⟨k, ds, if k = 1 then List.replicate (prodI ds).toNat q else [], if k = 1 then [] else List.replicate (prodI ds).toNat b⟩
set_option maxRecDepth 10000 in
set_option maxHeartbeats 16000000 in
theorem rFill_calls {w : World} {x y : Value} {k f : Int} {ds : List Int} {q : Rq} {on : Bool} (h : TV w x k ds) (hd : Dims ds) (hy : RR w y q) :
    Calls Tryz.prog 90 #[x, y, .agg #[.int .i64 f, .bool on]] w fun e w' => ∃ r, e = .returned r ∧ VO w.heap.size w' r (fillQ k ds q ⟨f, on⟩) ∧ Ext w w' := by
  obtain ⟨x, rfl, hi⟩ := h
  have HI := Aside.mk hi
  have HD := Aside.mk hi.sv
  have HDD := Aside.mk hd
  have HY := Aside.mk hy
  obtain ⟨D, cd, rfl, _⟩ := hi.form
  obtain ⟨A, ca, B, cb, rfl⟩ := hy.form
  obtain ⟨nd, hnd⟩ : ∃ n, ds.length = n := ⟨_, rfl⟩
  have HND := Aside.mk hnd
  obtain ⟨ln, hln⟩ : ∃ n, q.num.length = n := ⟨_, rfl⟩
  obtain ⟨lb, hlb⟩ : ∃ n, q.den.length = n := ⟨_, rfl⟩
  obtain ⟨m, hm⟩ : ∃ m : Nat, prodI ds = (m : Int) := ⟨(prodI ds).toNat, by have := hd.prod; omega⟩
  have HM := Aside.mk hm
  have hm5 : m ≤ 512 := by have := hd.prod; omega
  rw [hnd] at HD HI ⊢
  rw [hln, hlb] at HY ⊢
  have HZQ : Aside (fillQ k ds q ⟨f, on⟩ = ⟨k, ds, if k = 1 then List.replicate m q else [], if k = 1 then [] else List.replicate m ⟨f, on⟩⟩) := ⟨by unfold fillQ; rw [hm, Int.toNat_natCast]⟩
  obtain ⟨z, hz⟩ : ∃ z, fillQ k ds q ⟨f, on⟩ = z := ⟨_, rfl⟩
  rw [hz] at HZQ ⊢
  clear hi hd hnd hm hz hy hln hlb
  have hk0 := KF.ext ((Ext.refl _).drew) (KF.init w (.int .i64 k) (.slice D nd cd) (.int .i64 q.f) (.bool q.neg) (.slice A ln ca) (.slice B lb cb) (.int .i64 f) (.bool on) (.int .i64 0) (.slice none 0 0) (.slice none 0 0) (.slice none 0 0) 25 83 46 29)
  have HE0 : Aside (Ext w w) := ⟨Ext.refl w⟩
  go_enter Tryz.func90, Tryz.ntmps90
  go_upto_region 1 with fail
  go_cut [7] from 9 to 16 (fun s7 wx => FCut w (fun w' => KF w (.int .i64 k) (.slice D nd cd) (.int .i64 q.f) (.bool q.neg) (.slice A ln ca) (.slice B lb cb) (.int .i64 f) (.bool on) w') 4 k nd ds s7 wx)
  case first =>
    go_wp2
    go_region_held3 (fun w' => KF w (.int .i64 k) (.slice D nd cd) (.int .i64 q.f) (.bool q.neg) (.slice A ln ca) (.slice B lb cb) (.int .i64 f) (.bool on) w') (first | assumption | exact KF.ext (by assumption) (by assumption) | exact KF.ext ((Ext.refl _).alloc _) (by assumption) | exact (((KF.set (by assumption) (by omega) _ _).set (by omega) _ _).set (by omega) _ _).set (by omega) _ _) ((refine step_lit (base := w.heap.size + 4) elemInt IntC.ext rfl (.tmp 11) (.tmp 13) rfl (.slice D nd cd) ds (by rfl) (by rfl) (lit_at (by (repeat (first | with_reducible refine lit_ext HE0 ?_ | with_reducible refine lit_drew ?_ | ((with_reducible refine lit_new ?_); simp; done) | with_reducible refine lit_old ?_))) (by simp)) (HD.out.ext IntC.ext (Aside.out (And.left (show KF w (.int .i64 k) (.slice D nd cd) (.int .i64 q.f) (.bool q.neg) (.slice A ln ca) (.slice B lb cb) (.int .i64 f) (.bool on) _ from by assumption)))).sw (by simp <;> omega) ?_; rintro v1 w3 h1 he1; have hk3 := KF.ext he1 (show KF w (.int .i64 k) (.slice D nd cd) (.int .i64 q.f) (.bool q.neg) (.slice A ln ca) (.slice B lb cb) (.int .i64 f) (.bool on) _ from by assumption); obtain ⟨A1, c1, rfl, _⟩ := h1.sv.form; rw [HND.out] at h1 ⊢; have HR1 := Aside.mk h1; have HE1 := Aside.mk he1; have hce := he1.cells; have hfr := he1.frees; clear h1 he1))
    all_goals
      go_wp2
      go_meet
      first
        | ((with_reducible refine FCut.new (KF.ext ((Ext.refl _).alloc _) hk3) HR1.out ?_); exact hk3.lt)
        | ((with_reducible refine FCut.old (z0 := .int .i64 0) (z1 := .slice none 0 0) (z2 := .slice none 0 0) (z3 := .slice none 0 0) ?_ HR1.out ?_ ?_) <;> first | exact (((KF.set hk3 (by omega) _ _).set (by omega) _ _).set (by omega) _ _).set (by omega) _ _ | omega | (repeat (first | with_reducible refine lit_ext HE1 ?_ | with_reducible refine lit_drew ?_ | ((with_reducible refine lit_new ?_); simp; done) | with_reducible refine lit_old ?_)))
  case rest =>
    clear hk0
    obtain ⟨g, A1, c1, rfl, hk0, hb0, hg4, hne, hso⟩ := hcut
    have HROW0 : Aside (RdRows (w.heap.size + 2) g ds [] (.slice A1 nd c1) (.slice none 0 0) (.slice none 0 0) (.slice none 0 0) [] [] wc) := ⟨hg4, hb0.lt, hso, hne, SO.nil, (fun h => by cases h), SO.nil, SO.nil⟩
    have HTV : Aside (TV w (.agg #[.int .i64 k, .slice D nd cd]) k ds) := ⟨_, rfl, HI.out⟩
    have HG4 := Aside.mk hg4
    clear hne hso
    go_wp2_with fail
    go_loopw [8] (fun i wr => ∃ (j : Nat) (NA : Option Addr) (nn nc : Nat) (BA : Option Addr) (bn bc : Nat), j ≤ m ∧ nn ≤ j ∧ bn ≤ j ∧ i = .int .i64 (j : Int) ∧ KF w (.int .i64 k) (.slice D nd cd) (.int .i64 q.f) (.bool q.neg) (.slice A ln ca) (.slice B lb cb) (.int .i64 f) (.bool on) wr ∧ B4 wr g (.int .i64 k) (.slice A1 nd c1) (.slice NA nn nc) (.slice BA bn bc) ∧
      Aside (∃ ns bts, (ns = if k = 1 then List.replicate j q else []) ∧ (bts = if k = 1 then [] else List.replicate j ⟨f, on⟩) ∧ ns.length = nn ∧ bts.length = bn ∧ RdRows (w.heap.size + 2) g ds [] (.slice A1 nd c1) (.slice none 0 0) (.slice NA nn nc) (.slice BA bn bc) ns bts wr)) (fun i _ => m - (intOf i).toNat)
    case atStart => exact ⟨0, none, 0, 0, none, 0, 0, by omega, by omega, by omega, rfl, hk0, hb0, ⟨[], [], by simp, by simp, rfl, rfl, HROW0.out⟩⟩
    case round =>
      clear hk0 hb0 HROW0
      obtain ⟨j, NA, nn, nc, BA, bn, bc, hj, hnj, hbj, rfl, hk0, hb0, HS⟩ := hrel
      obtain ⟨ns, bts, hns, hbs, hnn, hbn, hrow⟩ := HS.out
      have HNS := Aside.mk hns
      have HBS := Aside.mk hbs
      have HNN := Aside.mk hnn
      have HBN := Aside.mk hbn
      have HROW := Aside.mk hrow
      clear HS hns hbs hnn hbn hrow
      by_cases hlt : j < m
      · by_cases hk : k = 1
        · have hk1 : (k == 1) = true := by simp [hk]
          have HK := Aside.mk hk
          clear hk
          have HLB : Aside (ns.length + [q].length ≤ 1073741824) := ⟨by have := HNN.out; simp; omega⟩
          have HLB2 : Aside ((ns ++ [q]).length = nn + 1) := ⟨by simp [HNN.out]⟩
          have HNS2 : Aside (ns ++ [q] = if k = 1 then List.replicate (j + 1) q else []) := ⟨by rw [HNS.out, if_pos HK.out, if_pos HK.out, List.replicate_succ']⟩
          have HBS2 : Aside (bts = if k = 1 then [] else List.replicate (j + 1) ⟨f, on⟩) := ⟨by rw [HBS.out, if_pos HK.out, if_pos HK.out]⟩
          have HCC : Aside (∀ args w, Sem.run Tryz.prog (callFunc 74 args) w = .ok (.enter 74 args) w) := ⟨by intro args w; simp [go_sem]⟩
          go_wp2_with (go_at_call 40; (with_reducible refine (rSize_calls (HTV.out.ext hk0.1.out) HDD.out).mono ?_); rw [HM.out]; rintro e w1 ⟨rfl, he⟩; have hk1' := KF.ext he hk0; have hb1 := hb0.ext he; have HROW1 := Aside.mk (HROW.out.ext he); clear he)
          have hb2 := hb1.ext ((Ext.refl w1).drew)
          have hk2 := KF.ext ((Ext.refl w1).drew) hk1'
          have HROW2 := Aside.mk (HROW1.out.ext ((Ext.refl w1).drew))
          have HRR : Aside (RR w1.drew (.agg #[.int .i64 q.f, .bool q.neg, .slice A ln ca, .slice B lb cb]) q) := ⟨HY.out.ext hk2.1.out⟩
          go_region_law (first | (refine step_call (F := 74) (args := #[.tmp 28]) (types := #[83]) HCC.out rfl rfl #[.agg #[.int .i64 q.f, .bool q.neg, .slice A ln ca, .slice B lb cb]] (by simp [Act.eval]) (copy_box HRR.out) ?_; rintro e w3 ⟨A4, c4, B4', d4, rfl, hr, he⟩; have hb3w := hb2.ext he; have hb3 := hb2.ext (he.alloc (.cells #[.int .i64 q.f, .bool q.neg, .slice A4 q.num.length c4, .slice B4' q.den.length d4] 83)); have hk3 := KF.ext (he.alloc (.cells #[.int .i64 q.f, .bool q.neg, .slice A4 q.num.length c4, .slice B4' q.den.length d4] 83)) hk2; have HROW3 := Aside.mk (HROW2.out.ext (he.alloc (.cells #[.int .i64 q.f, .bool q.neg, .slice A4 q.num.length c4, .slice B4' q.den.length d4] 83))); have HRO := Aside.mk hr; have HLR := Aside.mk HROW2.out.lt; refine ⟨_, rfl, ?_⟩; clear hr he) | (refine step_append_so (R := RatO (g + 1)) (W := w3.alloc (.cells #[.int .i64 q.f, .bool q.neg, .slice A4 q.num.length c4, .slice B4' q.den.length d4] 83)) (g + 1) elemRat rfl (.tmp 27) (.tmp 30) rfl (.slice NA nn nc) (.slice (some ⟨w3.heap.size, 0, none⟩) 1 1) ns [q] HROW3.out.nums (one_rat2 (g := w3.heap.size) rfl HRO.out HLR.out) RatO.one (fun _ hg => RatO.grown HROW3.out.nums (by decide) hg) (by simp [Act.eval]) (by simp [Act.eval]) HROW3.out.lt HLB.out ?_; rintro v1 w5 ho hg; obtain ⟨A5, c5, rfl, _⟩ := ho.sv.form; rw [HLB2.out] at ho ⊢; have hbel := Below.grown (Below.refl (g + 1) _) hg HROW3.out.lt HROW3.out.nums.low; have hb5 := hb3.below (Nat.lt_succ_self _) hbel; have hk5 := hk3.below (Below.mono hbel (Nat.le_succ_of_le HG4.out)); have HROW5 := Aside.mk (HROW3.out.num hg ho); clear ho hg hbel))
          all_goals
            have HB5 := Aside.mk hb5
            have HK5 := Aside.mk hk5
            clear hb0 hb1 hb2 hb3 hb3w hk0 hk1' hk2 hk3
            go_wp2_with fail
            go_roundw
            case rel => exact ⟨j + 1, A5, nn + 1, c5, BA, bn, bc, by omega, by omega, by omega, by go_num, HK5.out.set HG4.out _ _, HB5.out.put 2 _, ⟨_, bts, HNS2.out, HBS2.out, HLB2.out, HBN.out, HROW5.out.set 2 _⟩⟩
            case measure => simp [intOf]; omega
        · have hk1 : (k == 1) = false := beq_eq_false_iff_ne.2 hk
          have HK := Aside.mk hk
          clear hk
          have HLB : Aside (bts.length + [(⟨f, on⟩ : Bq)].length ≤ 1073741824) := ⟨by have := HBN.out; simp; omega⟩
          have HLB2 : Aside ((bts ++ [(⟨f, on⟩ : Bq)]).length = bn + 1) := ⟨by simp [HBN.out]⟩
          have HNS2 : Aside (ns = if k = 1 then List.replicate (j + 1) q else []) := ⟨by rw [HNS.out, if_neg HK.out, if_neg HK.out]⟩
          have HBS2 : Aside (bts ++ [(⟨f, on⟩ : Bq)] = if k = 1 then [] else List.replicate (j + 1) ⟨f, on⟩) := ⟨by rw [HBS.out, if_neg HK.out, if_neg HK.out, List.replicate_succ']⟩
          go_wp2_with (first | (go_at_call 40; (with_reducible refine (rSize_calls (HTV.out.ext hk0.1.out) HDD.out).mono ?_); rw [HM.out]; rintro e w1 ⟨rfl, he⟩; have hk1' := KF.ext he hk0; have hb1 := hb0.ext he; have HROW1 := Aside.mk (HROW.out.ext he); clear he) | (at_builtin; refine append_so (R := BitC) (g + 1) elemBit rfl _ _ rfl _ _ bts [⟨f, on⟩] (HROW1.out.ext ((Ext.refl _).alloc (.cells #[.int .i64 f, .bool on] 46))).bits (one_bit (g := w1.heap.size) rfl) BitC.one (fun _ _ _ _ h => h) rfl rfl (HROW1.out.ext ((Ext.refl _).alloc (.cells #[.int .i64 f, .bool on] 46))).lt HLB.out ?_; intro v1 w5 ho hg; obtain ⟨A5, c5, rfl, _⟩ := ho.sv.form; rw [HLB2.out] at ho ⊢; have hrow3 := HROW1.out.ext ((Ext.refl _).alloc (.cells #[.int .i64 f, .bool on] 46)); have hbel := Below.grown (Below.refl (g + 1) _) hg hrow3.lt hrow3.bits.low; have hb5 := (hb1.ext ((Ext.refl _).alloc (.cells #[.int .i64 f, .bool on] 46))).below (Nat.lt_succ_self _) hbel; have hk5 := (KF.ext ((Ext.refl _).alloc (.cells #[.int .i64 f, .bool on] 46)) hk1').below (Below.mono hbel (Nat.le_succ_of_le HG4.out)); have HROW5 := Aside.mk (hrow3.bit hg ho); clear ho hg hbel hrow3))
          have HB5 := Aside.mk hb5
          have HK5 := Aside.mk hk5
          go_roundw
          case rel => exact ⟨j + 1, NA, nn, nc, A5, bn + 1, c5, by omega, by omega, by omega, by go_num, HK5.out.set HG4.out _ _, HB5.out.put 3 _, ⟨ns, _, HNS2.out, HBS2.out, HNN.out, HLB2.out, HROW5.out.set 3 _⟩⟩
          case measure => simp [intOf]; omega
      · have hjm : j = m := by omega
        have HZZ : Aside (z = ⟨k, ds, ns, bts⟩) := ⟨by rw [HZQ.out, HNS.out, HBS.out, hjm]⟩
        go_wp2_with (go_at_call 40; (with_reducible refine (rSize_calls (HTV.out.ext hk0.1.out) HDD.out).mono ?_); rw [HM.out]; rintro e w1 ⟨rfl, he⟩; have hk1' := KF.ext he hk0; have hb1 := hb0.ext he; have HROW1 := Aside.mk (HROW.out.ext he); clear he)
        have HK := Aside.mk hk1'
        refine bodyPost_ret (v := .agg #[.int .i64 k, .slice A1 nd c1, .slice NA nn nc, .slice BA bn bc]) (by simp [results, Tryz.results90, go_sem, hk1']) rfl ?_
        rw [HZZ.out]
        have hg4 := HG4.out
        refine ⟨_, rfl, ⟨_, _, _, rfl, ?_, ?_, ?_⟩, ext_set4 HK.out.1.out (by omega) _ _ _ _⟩
        · exact ((HROW1.out.dims.set4 (by omega) _ _ _ _ (fun _ _ _ _ _ _ h => h)).mono (by omega))
        · exact ((HROW1.out.nums.set4 (by omega) _ _ _ _ (fun w p hp u c a h => RatO.set hp u c a h)).mono (by omega)).monoR (fun _ _ h => h.mono (by omega))
        · exact ((HROW1.out.bits.set4 (by omega) _ _ _ _ (fun _ _ _ _ _ _ h => h)).mono (by omega))
end Go.Proofs.YtcbaipnphepbeaaGreatDoor
