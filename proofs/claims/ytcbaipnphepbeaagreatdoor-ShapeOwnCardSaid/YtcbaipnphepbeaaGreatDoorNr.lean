/- Contracts of fluxionref03: Zero, Held; of fluxionlaw03: zero. Contracts of fluxionref03: Equal of two readings of one value; of fluxionlaw03: gives. Raw arguments, and contracts of fluxionlaw03: typed. Contracts of shape: Read; Zero's beginning; closed texts. What every right program knows of a type and a value: fluxionlaw03.alive returns true. -/
import Derived.Test.YtcbaipnphepbeaaGreatDoorNq
import Derived.Deep.QuietTactic
import Derived.BigQuiet
import Derived.Test.YtcbaipnphepbeaaGreatDoorNo
import Derived.Test.YtcbaipnphepbeaaGreatDoorNg
import Derived.Test.YtcbaipnphepbeaaGreatDoorNk
namespace Go.Proofs.YtcbaipnphepbeaaGreatDoor
open Go.RowKit
attribute [local go_sem ↓] Go.wp_at_zero Go.wp_at_succ

theorem zero_fill (k : Int) (ds : List Int) : fillQ k ds q0 ⟨0, false⟩ = zeroQ k ds := rfl
theorem ratio_01 : ratio (decide ((0 : Int) < 0) != decide ((1 : Int) < 0)) (0 : Int).natAbs (1 : Int).natAbs = q0 := by
  show ratio false 0 1 = q0
  unfold ratio
  rw [if_neg (by decide), show Nat.gcd 0 1 = 1 from rfl, show 0 / 1 = 0 from rfl, show 1 / 1 = 1 from rfl, isLong_small (by decide), isLong_small (by decide), dig_zero, dig_one]; rfl
theorem of01 {w : World} : Calls Tryz.prog 54 #[.int .i64 0, .int .i64 1] w fun e w' => ∃ A c B d, e = .returned (.agg #[.int .i64 0, .bool false, .slice A 0 c, .slice B 1 d]) ∧ RR w' (.agg #[.int .i64 0, .bool false, .slice A 0 c, .slice B 1 d]) q0 ∧ Ext w w' := by
  refine (rOf_calls (by decide) (by decide) (by decide) (by decide) ratio_01).mono ?_
  rintro e w' ⟨r, rfl, hr, he⟩
  obtain ⟨A, c, B, d, rfl⟩ := hr.form
  exact ⟨A, c, B, d, rfl, hr.rr, he⟩
theorem KZ.put {w w1 : World} {x0 x1 : Value} (h : KZ w x0 x1 w1) (j : Nat) (v : Value) : KZ w x0 x1 (w1.setCell ⟨w.heap.size + 1, j, none⟩ v) := by
  obtain ⟨h0, ⟨h1, h2⟩, ⟨h5, h6, h7, h8⟩⟩ := h
  exact ⟨⟨h0.out.set (by show w.heap.size ≤ w.heap.size + 1; omega) v⟩, ⟨cell_other h1 (by omega), cell_other h2 (by omega)⟩, ⟨h5.set _ _, h6.set _ _, h7.set _ _, h8.set _ _⟩⟩
theorem KZ.set4' {w w1 : World} {x0 x1 : Value} (h : KZ w x0 x1 w1) (v0 v1 v2 v3 : Value) :
    KZ w x0 x1 ((((w1.setCell ⟨w.heap.size + 1, 0, none⟩ v0).setCell ⟨w.heap.size + 1, 1, none⟩ v1).setCell ⟨w.heap.size + 1, 2, none⟩ v2).setCell ⟨w.heap.size + 1, 3, none⟩ v3) := (((h.put 0 v0).put 1 v1).put 2 v2).put 3 v3
set_option maxRecDepth 10000 in
set_option maxHeartbeats 4000000 in
theorem rZero_calls {w : World} {x : Value} {k : Int} {ds : List Int} (h : TV w x k ds) (hd : Dims ds) :
    Calls Tryz.prog 41 #[x] w fun e w' => ∃ r, e = .returned r ∧ VO w.heap.size w' r (zeroQ k ds) ∧ Ext w w' := by
  have HTV := Aside.mk h
  obtain ⟨x, rfl, hi⟩ := h
  obtain ⟨D, cd, rfl, _⟩ := hi.form
  obtain ⟨nd, hnd⟩ : ∃ n, ds.length = n := ⟨_, rfl⟩
  rw [hnd] at HTV ⊢
  have HDD := Aside.mk hd
  rw [← zero_fill]
  obtain ⟨z, hz⟩ : ∃ z, fillQ k ds q0 ⟨0, false⟩ = z := ⟨_, rfl⟩
  have HZ := Aside.mk hz
  rw [hz]
  clear hi hnd hd hz
  have hk0 := KZ.ext ((Ext.refl _).drew) (KZ.init w (.int .i64 k) (.slice D nd cd) (.int .i64 0) (.slice none 0 0) (.slice none 0 0) (.slice none 0 0) 25 29)
  go_enter Tryz.func41, Tryz.ntmps41
  go_wp2
  go_region_held3 (fun w' => KZ w (.int .i64 k) (.slice D nd cd) w') (first | assumption | exact KZ.ext (by assumption) (by assumption) | exact KZ.set4' (by assumption) _ _ _ _) (first | (go_at_call 54; (with_reducible refine of01.mono ?_); rintro e w1 ⟨A1, c1, B1, d1, rfl, hr, he⟩; have HRR := Aside.mk hr; have HK1 := Aside.mk (KZ.ext he (show KZ w (.int .i64 k) (.slice D nd cd) _ from by assumption)); clear hr) | (go_at_call 90; (with_reducible refine (rFill_calls (HTV.out.ext HK1.out.1.out) HDD.out HRR.out).mono ?_); rintro e w2 ⟨r, rfl, hr, he2⟩; obtain ⟨D2, e2, A2, a2, B2, b2, rfl⟩ := hr.vv.form; have hk2 := KZ.ext he2 HK1.out; have HR := Aside.mk hr; clear hr))
  have HK2 := Aside.mk hk2
  have HZ1 := Aside.mk HK1.out.lt
  go_wp2_with fail
  refine bodyPost_ret (v := .agg #[.int .i64 (fillQ k ds q0 ⟨0, false⟩).k, .slice D2 (fillQ k ds q0 ⟨0, false⟩).ds.length e2, .slice A2 (fillQ k ds q0 ⟨0, false⟩).nums.length a2, .slice B2 (fillQ k ds q0 ⟨0, false⟩).bits.length b2]) (by simp [results, Tryz.results41, go_sem, hk2]) rfl ?_
  rw [← HZ.out]
  exact ⟨_, rfl, (HR.out.set4 HZ1.out _ _ _ _).mono (Nat.le_trans (Nat.le_succ_of_le (Nat.le_succ _)) HZ1.out), ext_set4 HK2.out.1.out (Nat.le_succ _) _ _ _ _⟩
/-- law03.zero of the zero value. -/
theorem lzero_true {w : World} {D A B : Option Addr} {d a b : Nat} : Calls Tryz.prog 18 #[.agg #[.int .i64 0, .slice D 0 d, .slice A 0 a, .slice B 0 b]] w fun e w' => e = .returned (.bool true) ∧ Ext w w' := by
  have hk0 := KeepB.init w (.int .i64 0) (.slice D 0 d) (.slice A 0 a) (.slice B 0 b) 29
  go_enter Tryz.func18, Tryz.ntmps18
  go_wp2
  go_ret
  exact ⟨rfl, hk0.1.out⟩
end Go.Proofs.YtcbaipnphepbeaaGreatDoor

namespace Go.Proofs.YtcbaipnphepbeaaGreatDoor
open Go.RowKit
attribute [local go_sem ↓] Go.wp_at_zero Go.wp_at_succ

/-- Four cells at a place. -/
abbrev C4 (w : World) (b o : Nat) (c0 c1 c2 c3 : Value) : Prop := w.cell? ⟨b, o, none⟩ = some c0 ∧ w.cell? ⟨b, o + 1, none⟩ = some c1 ∧ w.cell? ⟨b, o + 2, none⟩ = some c2 ∧ w.cell? ⟨b, o + 3, none⟩ = some c3
theorem C4.ext {w w' : World} {b o : Nat} {c0 c1 c2 c3 : Value} (e : Ext w w') (h : C4 w b o c0 c1 c2 c3) : C4 w' b o c0 c1 c2 c3 := ⟨e.cell h.1, e.cell h.2.1, e.cell h.2.2.1, e.cell h.2.2.2⟩
set_option maxRecDepth 10000 in
set_option maxHeartbeats 8000000 in
theorem rEqual_same {w : World} {x y : Value} {v : Vq} (hx : VV w x v) (hy : VV w y v) :
    Calls Tryz.prog 30 #[x, y] w fun e w' => e = .returned (.bool true) ∧ Ext w w' := by
  obtain ⟨D, cd, A, ca, B, cb, rfl⟩ := hx.form
  obtain ⟨D', cd', A', ca', B', cb', rfl⟩ := hy.form
  obtain ⟨-, hT1, hN1, hB1⟩ := hx.ty
  obtain ⟨-, hT2, hN2, hB2⟩ := hy.ty
  have HT1 := Aside.mk hT1
  have HT2 := Aside.mk hT2
  have HN1 := Aside.mk hN1
  have HN2 := Aside.mk hN2
  have HB1 := Aside.mk hB1
  have HB2 := Aside.mk hB2
  have HS : Aside (tySame v.k v.ds v.k v.ds = true) := ⟨by unfold tySame; simp⟩
  have hcc : v.nums.length ≤ 1073741824 ∧ v.bits.length ≤ 1073741824 := by
    obtain ⟨_, _, _, h1⟩ := hN1.form
    obtain ⟨_, _, _, h2⟩ := hB1.form
    omega
  obtain ⟨k, hk⟩ : ∃ k, v.k = k := ⟨_, rfl⟩
  obtain ⟨nd, hnd⟩ : ∃ n, v.ds.length = n := ⟨_, rfl⟩
  obtain ⟨ln, hln⟩ : ∃ n, v.nums.length = n := ⟨_, rfl⟩
  obtain ⟨lb, hlb⟩ : ∃ n, v.bits.length = n := ⟨_, rfl⟩
  rw [hk, hnd] at HT1 HT2
  rw [hk] at HS
  rw [hln] at HN1 HN2 hcc
  rw [hlb] at HB1 HB2 hcc
  rw [hk, hnd, hln, hlb]
  have HLN := Aside.mk hln
  have HLB := Aside.mk hlb
  clear hx hy hT1 hT2 hN1 hN2 hB1 hB2 hk hnd hln hlb
  have hk0 := KeepE.init w (.int .i64 k) (.slice D nd cd) (.slice A ln ca) (.slice B lb cb) (.int .i64 k) (.slice D' nd cd') (.slice A' ln ca') (.slice B' lb cb') 29 29
  go_enter Tryz.func30, Tryz.ntmps30
  go_wp2_with (go_at_call 28; (with_reducible refine (rSame_calls (HT1.out.ext hk0.1.out) (HT2.out.ext hk0.1.out) HS.out).mono ?_); rintro e w1 ⟨rfl, he⟩; have hk1 := KeepE.ext he hk0; clear he)
  go_loopw [5] (fun i wr => ∃ j : Nat, j ≤ ln ∧ i = .int .i64 (j : Int) ∧ KeepE w (.int .i64 k) (.slice D nd cd) (.slice A ln ca) (.slice B lb cb) (.int .i64 k) (.slice D' nd cd') (.slice A' ln ca') (.slice B' lb cb') wr) (fun i _ => ln - (intOf i).toNat)
  case atStart => exact ⟨0, by omega, rfl, hk1⟩
  case round =>
    clear hk0 hk1
    obtain ⟨j, hj, rfl, hk0⟩ := hrel
    by_cases hlt : j < ln
    · obtain ⟨q, hq⟩ : ∃ q, v.nums[j]? = some q := ⟨v.nums[j]'(by rw [HLN.out]; exact hlt), List.getElem?_eq_getElem _⟩
      obtain ⟨b0, o0, x0, y0, rfl, ha0, ha1, ha2, ha3, hr1⟩ := QV.at' (SV.ext RatC.ext HN1.out hk0.1.out.drew) j hq
      obtain ⟨b1, o1, x1, y1, rfl, hb0, hb1, hb2, hb3, hr2⟩ := QV.at' (SV.ext RatC.ext HN2.out hk0.1.out.drew) j hq
      have hc1 : C4 wr.drew b0 (o0 + j * 4) (.int .i64 q.f) (.bool q.neg) x0 y0 := ⟨ha0, ha1, ha2, ha3⟩
      have hc2 : C4 wr.drew b1 (o1 + j * 4) (.int .i64 q.f) (.bool q.neg) x1 y1 := ⟨hb0, hb1, hb2, hb3⟩
      have HR1 := Aside.mk hr1
      have HR2 := Aside.mk hr2
      have hkd := KeepE.ext ((Ext.refl wr).drew) hk0
      have hp0 : (0 : Int) ≤ (j : Int) := Int.natCast_nonneg _
      have hp1 : (j : Int) < (ln : Int) := by omega
      clear ha0 ha1 ha2 ha3 hb0 hb1 hb2 hb3 hr1 hr2 hq
      go_wp2_with fail
      go_region_held3 (fun w' => KeepE w (.int .i64 k) (.slice D nd cd) (.slice (some ⟨b0, o0, none⟩) ln ca) (.slice B lb cb) (.int .i64 k) (.slice D' nd cd') (.slice (some ⟨b1, o1, none⟩) ln ca') (.slice B' lb cb') w' ∧ C4 w' b0 (o0 + j * 4) (.int .i64 q.f) (.bool q.neg) x0 y0 ∧ C4 w' b1 (o1 + j * 4) (.int .i64 q.f) (.bool q.neg) x1 y1) (first | (exact ⟨by assumption, by assumption, by assumption⟩) | exact ⟨hk2, C4.ext he hc1, C4.ext he hc2⟩) ((go_at_call 82; (with_reducible refine (requal_same HR1.out HR2.out).mono ?_); rintro e w2 ⟨rfl, he⟩; have hk2 := KeepE.ext (((Ext.refl wr).drew).trans he) hk0))
      clear hk0 hkd
      have HK2 := Aside.mk hk2
      go_wp2_with fail
      go_roundw
      case rel => exact ⟨j + 1, by omega, by go_num, HK2.out⟩
      case measure => simp [intOf]; omega
    · go_wp2_with fail
      go_loopw [6] (fun i wr => ∃ j : Nat, j ≤ lb ∧ i = .int .i64 (j : Int) ∧ KeepE w (.int .i64 k) (.slice D nd cd) (.slice A ln ca) (.slice B lb cb) (.int .i64 k) (.slice D' nd cd') (.slice A' ln ca') (.slice B' lb cb') wr) (fun i _ => lb - (intOf i).toNat)
      case atStart => exact ⟨0, by omega, rfl, hk0⟩
      case round =>
        clear hk0
        obtain ⟨j, hj, rfl, hk0⟩ := hrel
        by_cases hlt : j < lb
        · obtain ⟨q, hq⟩ : ∃ q, v.bits[j]? = some q := ⟨v.bits[j]'(by rw [HLB.out]; exact hlt), List.getElem?_eq_getElem _⟩
          obtain ⟨b0, o0, rfl, ha0, ha1⟩ := BV.at' (SV.ext BitC.ext HB1.out hk0.1.out) j hq
          obtain ⟨b1, o1, rfl, hb0, hb1⟩ := BV.at' (SV.ext BitC.ext HB2.out hk0.1.out) j hq
          have HK := Aside.mk hk0
          have hp0 : (0 : Int) ≤ (j : Int) := Int.natCast_nonneg _
          have hp1 : (j : Int) < (lb : Int) := by omega
          clear hq
          go_wp2_with fail
          go_quiet (fail)
          go_wp2_with fail
          go_roundw
          case rel => exact ⟨j + 1, by omega, by go_num, KeepE.ext (Ext.of_drewN ⟨_, rfl⟩) HK.out⟩
          case measure => simp [intOf]; omega
        · have HK := Aside.mk hk0
          go_wp2_with fail
          go_ret
          exact ⟨rfl, HK.out.1.out⟩
/-- law03.gives. -/
theorem gives3_same {w : World} {x y : Value} {v : Vq} (hx : VV w x v) (hy : VV w y v) :
    Calls Tryz.prog 21 #[x, .int .i64 0, y] w fun e w' => e = .returned (.bool true) ∧ Ext w w' := by
  have HX := Aside.mk hx
  have HY := Aside.mk hy
  obtain ⟨D, cd, A, ca, B, cb, rfl⟩ := hx.form
  obtain ⟨D', cd', A', ca', B', cb', rfl⟩ := hy.form
  have hk0 := KeepE.init w (.int .i64 v.k) (.slice D v.ds.length cd) (.slice A v.nums.length ca) (.slice B v.bits.length cb) (.int .i64 v.k) (.slice D' v.ds.length cd') (.slice A' v.nums.length ca') (.slice B' v.bits.length cb') 29 29
  clear hx hy
  go_enter Tryz.func21, Tryz.ntmps21
  go_wp2_with (go_at_call 30; (with_reducible refine (rEqual_same (HX.out.ext hk0.1.out) (HY.out.ext hk0.1.out)).mono ?_); rintro e w1 ⟨rfl, he⟩; have hk1 := KeepE.ext he hk0; clear he)
  go_ret
  exact ⟨rfl, hk1.1.out⟩
end Go.Proofs.YtcbaipnphepbeaaGreatDoor

namespace Go.Proofs.YtcbaipnphepbeaaGreatDoor
open Go.RowKit
attribute [local go_sem ↓] Go.wp_at_zero Go.wp_at_succ

/-- A slice that reads as a list, however long. -/
def RawL {α : Type} (k : Nat) (R : World → List Value → α → Prop) (w : World) (v : Value) (l : List α) : Prop :=
  ∃ A c xs, v = .slice A l.length c ∧ l.length ≤ c ∧ l.length ≤ maxLen ∧ Rd w A xs ∧ Rows k (R w) xs l
theorem RawL.ext {α : Type} {k : Nat} {R : World → List Value → α → Prop} (hR : Grows R) {w w' : World} {v : Value} {l : List α} (h : RawL k R w v l) (e : Ext w w') : RawL k R w' v l := by
  obtain ⟨A, c, xs, h1, h2, h3, h4, h5⟩ := h
  exact ⟨A, c, xs, h1, h2, h3, h4.ext e, h5.mono fun c a => hR _ _ c a e⟩
theorem RawL.take {α : Type} {k : Nat} {R : World → List Value → α → Prop} {w : World} {A : Option Addr} {n c : Nat} {l : List α} (h : RawL k R w (.slice A n c) l) (m : Nat) (hm : m ≤ l.length) (hm2 : m ≤ 1073741824) : SW k R w (.slice A m c) (l.take m) := by
  obtain ⟨A', c', xs, e, hc, _, h4, h5⟩ := h
  injection e with e1 e2 e3
  subst e1 e3
  have hl : (l.take m).length = m := by simp; omega
  refine ⟨A, c, xs.take (m * k), by rw [hl], by rw [hl]; exact hm2, fun j v hj => h4 j v ?_, h5.take m⟩
  rw [List.getElem?_take] at hj
  split at hj
  · exact hj
  · cases hj
/-- A type, its list of sizes however long. -/
def TL (w : World) (x : Value) (k : Int) (ds : List Int) : Prop := ∃ v, x = .agg #[.int .i64 k, v] ∧ RawL 1 IntC w v ds
theorem TL.ext {w w' : World} {x : Value} {k : Int} {ds : List Int} (h : TL w x k ds) (e : Ext w w') : TL w' x k ds := let ⟨v, h1, h2⟩ := h; ⟨v, h1, h2.ext IntC.ext e⟩
set_option maxRecDepth 10000 in
set_option maxHeartbeats 4000000 in
theorem typed_calls {w : World} {x : Value} {k : Int} {ds es : List Int} (h : TL w x k ds) (he : ds.take 8 = es) :
    Calls Tryz.prog 35 #[x] w fun e w' => ∃ r, e = .returned (.agg #[.int .i64 k, r]) ∧ SO w.heap.size 3 1 IntC w' r es ∧ Ext w w' := by
  obtain ⟨x, rfl, hi⟩ := h
  subst he
  obtain ⟨m, hm⟩ : ∃ m, min ds.length 8 = m := ⟨_, rfl⟩
  have hmin : min (ds.length : Int) 8 = (m : Int) := by omega
  have e : ds.take 8 = ds.take m := by rw [← hm, Nat.min_comm]; exact List.take_eq_take_min
  rw [e]
  obtain ⟨A, c, xs, rfl, hc, hl, _⟩ := id hi
  have hml : m ≤ ds.length := by omega
  have hm8 : m ≤ 8 := by omega
  have hmc : m ≤ c := by omega
  have HI := Aside.mk hi
  obtain ⟨es, hes⟩ : ∃ es, ds.take m = es := ⟨_, rfl⟩
  have HS : Aside (∀ {W : World}, Aside (Ext w W) → SW 1 IntC W (.slice A m c) es) := ⟨fun e => by rw [← hes]; exact (HI.out.ext IntC.ext e.out).take m hml (by omega)⟩
  have HN : Aside (es.length = m) := ⟨by rw [← hes]; simp; omega⟩
  rw [hes]
  obtain ⟨n, hn⟩ : ∃ n, ds.length = n := ⟨_, rfl⟩
  rw [hn] at hmin hml hl hc ⊢
  unfold maxLen at hl
  have hk0 := Keep2.init w (.int .i64 k) (.slice A n c) (.int .i64 0) (.slice none 0 0) 25 25
  have HE0 : Aside (Ext w w) := ⟨Ext.refl w⟩
  have i1 : (0 : Int) ≤ (m : Int) := by omega
  have i2 : (m : Int) ≤ (n : Int) := by omega
  have i3 : (m : Int) ≤ (c : Int) := by omega
  clear hi HI hm e hes hn
  go_enter Tryz.func35, Tryz.ntmps35
  go_wp2
  go_region_held3 (fun w' => Keep2 w (.int .i64 k) (.slice A n c) w') (first | assumption | exact Keep2.ext (by assumption) (by assumption) | exact Keep2.ext ((Ext.refl _).alloc _) (by assumption) | exact ((by assumption : Keep2 w (.int .i64 k) (.slice A n c) _).set _ _).set _ _) ((refine step_lit (base := w.heap.size + 2) elemInt IntC.ext rfl (.tmp 5) (.tmp 12) rfl (.slice A m c) es (by rfl) (by rfl) (lit_at (by (repeat (first | with_reducible refine lit_ext HE0 ?_ | with_reducible refine lit_drew ?_ | ((with_reducible refine lit_new ?_); simp; done) | with_reducible refine lit_old ?_))) (by simp)) (HS.out (And.left (show Keep2 w (.int .i64 k) (.slice A n c) _ from by assumption))) (by simp) ?_; rintro v1 w3 h1 he1; have hk3 := Keep2.ext he1 (show Keep2 w (.int .i64 k) (.slice A n c) _ from by assumption); obtain ⟨A1, c1, rfl, _⟩ := h1.sv.form; rw [HN.out] at h1 ⊢; have HR := Aside.mk h1; clear h1 he1))
  all_goals
    have HK := Aside.mk hk3
    go_wp2
    refine bodyPost_ret (v := .agg #[.int .i64 k, .slice A1 m c1]) (by simp [results, Tryz.results35, go_sem, hk3]) rfl ⟨_, rfl, ?_, (HK.out.1.out.set (Nat.le_succ _) _).set (Nat.le_succ _) _⟩
    exact ((HR.out.set (Nat.lt_succ_self _) _ (fun _ _ h => h)).set (Nat.lt_succ_self _) _ (fun _ _ h => h)).mono (Nat.le_succ_of_le (Nat.le_succ _))
end Go.Proofs.YtcbaipnphepbeaaGreatDoor

namespace Go.Proofs.YtcbaipnphepbeaaGreatDoor
open Go.RowKit

theorem read_calls {P : List UInt8 → Prop} (hI : IA P) {w : World} {l : List UInt8} {m : Vq × Int} (hg : Glob w) (hP : P l) (hm : readF l = m) :
    Calls Tryz.prog 25 #[.string (bs l)] w fun e w' => ∃ r, e = .returned (.tuple #[r, .int .i64 m.2]) ∧ VO w.heap.size w' r m.1 ∧ Ext w w' := by
  subst hm
  unfold readF
  by_cases h : 20000 < l.length
  · rw [if_pos h]
    exact read_long h
  · rw [if_neg h]
    have h := Nat.le_of_not_lt h
    cases hn : takeF 3 l with
    | none => exact read_none hI hP h hn
    | some x =>
      obtain ⟨dims, r, ws⟩ := x
      by_cases hr : r = []
      · subst hr
        simp only [if_pos]
        exact read_words hI hg hP h hn rfl
      · simp only [if_neg hr]
        exact read_more hI hP h hn hr
/-! Closed texts -/
def ty6 : List UInt8 := [123, 123, 49, 44, 32, 50, 44, 32, 51, 125, 44, 32, 123, 52, 44, 32, 53, 44, 32, 49, 47, 50, 125, 125]
def tyf : List UInt8 := [123, 121, 101, 115, 44, 32, 33, 122, 101, 114, 111, 125]
def tyb : List UInt8 := [123, 49, 44, 32, 121, 101, 115, 125]
def ty3 : List UInt8 := [123, 52, 44, 32, 53, 44, 32, 49, 47, 50, 125]
def nq (n : Nat) : Rq := ⟨0, false, dig n, dig 1⟩
def hq : Rq := ⟨0, false, dig 1, dig 2⟩
def v6 : Vq := ⟨1, [2, 3], [nq 1, nq 2, nq 3, nq 4, nq 5, hq], []⟩
def v3 : Vq := ⟨1, [3], [nq 4, nq 5, hq], []⟩
def vf : Vq := ⟨2, [2], [], [⟨0, true⟩, ⟨11, false⟩]⟩
theorem take6 : takeF 3 ty6 = some ([2, 3], [], [[49], [50], [51], [52], [53], [49, 47, 50]]) := by decide +kernel
theorem takef : takeF 3 tyf = some ([2], [], [[121, 101, 115], [33, 122, 101, 114, 111]]) := by decide +kernel
theorem takeb : takeF 3 tyb = some ([2], [], [[49], [121, 101, 115]]) := by decide +kernel
theorem okn {n : Nat} (h0 : 0 < n) (h : n < 10) : okq (nq n) = true := okq_small (by omega) (by decide) h0 (by decide) (Nat.gcd_one_right n)
theorem okh : okq hq = true := okq_small (by decide) (by decide) (by decide) (by decide) rfl
theorem fp1 {c : UInt8} {n : Nat} (h0 : 0 < n) (h : n < 10) (hd : dval [c] = n) (hp : perr [c] = 0) (h1 : [c] ≠ rangeB.data.toList) (h2 : [c] ≠ zeroB.data.toList) (h3 : Lib.hasPrefix [c] [45] = false) (h4 : Lib.cut [c] [47] = ([c], [], false)) : fparse [c] = (nq n, 0) := by
  unfold fparse
  rw [if_neg (by simp), if_neg h1, if_neg h2]
  have h5 : Lib.trimPrefix [c] [45] = [c] := by unfold Lib.trimPrefix; rw [h3, if_neg (by decide)]
  rw [h3, h5, h4]
  show fparts false [c] false [49] = _
  unfold fparts
  rw [if_neg (by rw [hp, show perr [49] = 0 from rfl, show dval [49] = 1 from rfl]; simp), hd, show dval [49] = 1 from rfl]
  show (if okq (nq n) = true then (nq n, 0) else (fq 0, 5)) = _
  rw [if_pos (okn h0 h)]
theorem fph : fparse [49, 47, 50] = (hq, 0) := by
  show fparts false [49] true [50] = _
  unfold fparts
  rw [if_neg (by decide), show dval [49] = 1 from rfl, show dval [50] = 2 from rfl, okq_small (by decide) (by decide) (by decide) (by decide) rfl]; rfl
theorem fpz : fparse [33, 122, 101, 114, 111] = (fq 11, 0) := by
  unfold fparse
  rw [if_neg (by decide), if_neg (by decide), if_pos (by rfl)]
theorem st1 {c : UInt8} {n : Nat} (h : fparse [c] = (nq n, 0)) : stepW 1 [c] = some ([nq n], []) := by
  unfold stepW
  rw [if_neg (by simp), h, if_neg (by simp), if_neg (by decide)]
theorem read6 : readF ty6 = (v6, 0) := by
  unfold readF
  rw [if_neg (by decide), take6]
  have e1 := st1 (fp1 (c := 49) (n := 1) (by decide) (by decide) rfl rfl (by decide) (by decide) rfl rfl)
  have e2 := st1 (fp1 (c := 50) (n := 2) (by decide) (by decide) rfl rfl (by decide) (by decide) rfl rfl)
  have e3 := st1 (fp1 (c := 51) (n := 3) (by decide) (by decide) rfl rfl (by decide) (by decide) rfl rfl)
  have e4 := st1 (fp1 (c := 52) (n := 4) (by decide) (by decide) rfl rfl (by decide) (by decide) rfl rfl)
  have e5 := st1 (fp1 (c := 53) (n := 5) (by decide) (by decide) rfl rfl (by decide) (by decide) rfl rfl)
  have e6 : stepW 1 [49, 47, 50] = some ([hq], []) := by
    unfold stepW
    rw [if_neg (by decide), fph, if_neg (by decide), if_neg (by decide)]
  have hk : kindW [[49], [50], [51], [52], [53], [49, 47, 50]] = 1 := by decide
  simp only [if_pos, hk, readW, e1, e2, e3, e4, e5, e6]
  rfl
theorem readf : readF tyf = (vf, 0) := by
  unfold readF
  rw [if_neg (by decide), takef]
  have hk : kindW [[121, 101, 115], [33, 122, 101, 114, 111]] = 2 := by decide
  have e1 : stepW 2 [121, 101, 115] = some ([], [⟨0, true⟩]) := by
    unfold stepW; rw [if_pos (by decide)]; rfl
  have e2 : stepW 2 [33, 122, 101, 114, 111] = some ([], [⟨11, false⟩]) := by
    unfold stepW; rw [if_neg (by decide), fpz, if_neg (by decide), if_pos rfl]; rfl
  simp only [if_pos, hk, readW, e1, e2]
  rfl
theorem readb : readF tyb = (zeroV, 5) := by
  unfold readF
  rw [if_neg (by decide), takeb]
  have hk : kindW [[49], [121, 101, 115]] = 2 := by decide
  have e1 : stepW 2 [49] = none := by
    unfold stepW; rw [if_neg (by decide), fp1 (c := 49) (n := 1) (by decide) (by decide) rfl rfl (by decide) (by decide) rfl rfl, if_pos (by decide)]
  simp only [if_pos, hk, readW, e1]
theorem ok6 : valOk v6 = true := by
  have e1 := okn (n := 1) (by decide) (by decide)
  have e2 := okn (n := 2) (by decide) (by decide)
  have e3 := okn (n := 3) (by decide) (by decide)
  have e4 := okn (n := 4) (by decide) (by decide)
  have e5 := okn (n := 5) (by decide) (by decide)
  unfold valOk v6
  simp only [List.any_cons, List.any_nil, e1, e2, e3, e4, e5, okh]
  rfl
theorem ok3 : valOk v3 = true := by
  have e4 := okn (n := 4) (by decide) (by decide)
  have e5 := okn (n := 5) (by decide) (by decide)
  unfold valOk v3
  simp only [List.any_cons, List.any_nil, e4, e5, okh]
  rfl
theorem rtn {n : Nat} (h : n < 10) (h0 : n ≠ 0) : rtext (nq n) = [chr n] := by
  unfold rtext nq
  rw [if_pos rfl, val_dig, val_dig]
  unfold ntext
  rw [d10_one h h0]; rfl
theorem rth : rtext hq = [49, 47, 50] := by
  unfold rtext hq
  rw [if_pos rfl, val_dig, val_dig]
  unfold ntext
  rw [d10_one (by decide) (by decide), d10_one (by decide) (by decide)]; rfl
theorem sc {d : List Int} {q : Rq} {t : List Rq} {b : List Bq} : scalT ⟨1, d, q :: t, b⟩ = rtext q := rfl
theorem show3 : showV v3 = ty3 := by
  show 123 :: (Lib.join [scalT ⟨1, [], [nq 4], []⟩, scalT ⟨1, [], [nq 5], []⟩, scalT ⟨1, [], [hq], []⟩] [44, 32] ++ [125]) = _
  rw [sc, sc, sc, rtn (by decide) (by decide), rtn (by decide) (by decide), rth]; rfl
theorem show6 : showV v6 = ty6 := by
  show 123 :: (Lib.join [123 :: (Lib.join [scalT ⟨1, [], [nq 1], []⟩, scalT ⟨1, [], [nq 2], []⟩, scalT ⟨1, [], [nq 3], []⟩] [44, 32] ++ [125]), 123 :: (Lib.join [scalT ⟨1, [], [nq 4], []⟩, scalT ⟨1, [], [nq 5], []⟩, scalT ⟨1, [], [hq], []⟩] [44, 32] ++ [125])] [44, 32] ++ [125]) = _
  rw [sc, sc, sc, sc, sc, sc, rtn (by decide) (by decide), rtn (by decide) (by decide), rtn (by decide) (by decide), rtn (by decide) (by decide), rtn (by decide) (by decide), rth]; rfl
theorem tyB23 : tyB 1 [2, 3] = ⟨#[114, 101, 97, 108, 91, 50, 93, 91, 51, 93]⟩ := by
  unfold tyB tyText dimsT
  simp only [List.flatMap_cons, List.flatMap_nil, dimT]
  rw [show (2 : Int).toNat = 2 from rfl, show (3 : Int).toNat = 3 from rfl, d10_one (by decide) (by decide), d10_one (by decide) (by decide)]; rfl
theorem size23 : sizeR 1 [2, 3] = (6, 0) := by decide
theorem ty23 : tyOk 1 [2, 3] = true := by decide
end Go.Proofs.YtcbaipnphepbeaaGreatDoor

namespace Go.Proofs.YtcbaipnphepbeaaGreatDoor
open Go.RowKit

/-- A box of two cells at a place. -/
abbrev KTg (w : World) (g : Nat) (x0 x1 : Value) (w' : World) : Prop := Aside (Ext w w') ∧ w'.cell? ⟨g, 0, none⟩ = some x0 ∧ w'.cell? ⟨g, 1, none⟩ = some x1
theorem KTg.ext {w w1 w2 : World} {g : Nat} {x0 x1 : Value} (e : Ext w1 w2) (h : KTg w g x0 x1 w1) : KTg w g x0 x1 w2 := ⟨⟨h.1.out.trans e⟩, e.cell h.2.1, e.cell h.2.2⟩
theorem KTg.init (w : World) {g : Nat} (hg : w.heap.size = g) (x0 x1 : Value) (t : TypeId) : KTg w g x0 x1 (w.alloc (.cells #[x0, x1] t)) := by subst hg; exact ⟨⟨(Ext.refl w).alloc _⟩, cell_new rfl rfl, cell_new rfl rfl⟩
/-- A Value in a result, and its box. -/
theorem box_val {F : FuncId} {args : Array Value} {w : World} {m : Vq × Int} {v : Vq} {e0 : Int} (h : Calls Tryz.prog F args w fun e w' => ∃ r, e = .returned (.tuple #[r, .int .i64 m.2]) ∧ VO w.heap.size w' r m.1 ∧ Ext w w') (hm : m = (v, e0)) :
    Calls Tryz.prog F args w fun e w' => ∃ D cd A ca B cb, e = .returned (.tuple #[.agg #[.int .i64 v.k, .slice D v.ds.length cd, .slice A v.nums.length ca, .slice B v.bits.length cb], .int .i64 e0]) ∧ Aside (VV w' (.agg #[.int .i64 v.k, .slice D v.ds.length cd, .slice A v.nums.length ca, .slice B v.bits.length cb]) v) ∧ Ext w w' := by
  subst hm
  refine h.mono ?_
  rintro e w' ⟨r, rfl, hr, he⟩
  obtain ⟨D, cd, A, ca, B, cb, rfl⟩ := hr.vv.form
  exact ⟨D, cd, A, ca, B, cb, rfl, ⟨hr.vv⟩, he⟩
theorem ar6 {w : World} (hg : Glob w) : Calls Tryz.prog 25 #[.string ⟨#[123, 123, 49, 44, 32, 50, 44, 32, 51, 125, 44, 32, 123, 52, 44, 32, 53, 44, 32, 49, 47, 50, 125, 125]⟩] w fun e w' => ∃ D cd A ca B cb, e = .returned (.tuple #[.agg #[.int .i64 1, .slice D 2 cd, .slice A 6 ca, .slice B 0 cb], .int .i64 0]) ∧ Aside (VV w' (.agg #[.int .i64 1, .slice D 2 cd, .slice A 6 ca, .slice B 0 cb]) v6) ∧ Ext w w' :=
  box_val (read_calls (l := ty6) ia_ascii hg (by intro b hb; revert b; decide) rfl) read6
theorem arf {w : World} (hg : Glob w) : Calls Tryz.prog 25 #[.string ⟨#[123, 121, 101, 115, 44, 32, 33, 122, 101, 114, 111, 125]⟩] w fun e w' => ∃ D cd A ca B cb, e = .returned (.tuple #[.agg #[.int .i64 2, .slice D 1 cd, .slice A 0 ca, .slice B 2 cb], .int .i64 0]) ∧ Aside (VV w' (.agg #[.int .i64 2, .slice D 1 cd, .slice A 0 ca, .slice B 2 cb]) vf) ∧ Ext w w' :=
  box_val (read_calls (l := tyf) ia_ascii hg (by intro b hb; revert b; decide) rfl) readf
theorem arb {w : World} (hg : Glob w) : Calls Tryz.prog 25 #[.string ⟨#[123, 49, 44, 32, 121, 101, 115, 125]⟩] w fun e w' => ∃ D cd A ca B cb, e = .returned (.tuple #[.agg #[.int .i64 0, .slice D 0 cd, .slice A 0 ca, .slice B 0 cb], .int .i64 5]) ∧ Aside (VV w' (.agg #[.int .i64 0, .slice D 0 cd, .slice A 0 ca, .slice B 0 cb]) zeroV) ∧ Ext w w' :=
  box_val (read_calls (l := tyb) ia_ascii hg (by intro b hb; revert b; decide) rfl) readb
theorem ael {w : World} {x : Value} (h : VV w x v6) : Calls Tryz.prog 16 #[x, .int .i64 1] w fun e w' => ∃ D cd A ca B cb, e = .returned (.tuple #[.agg #[.int .i64 1, .slice D 1 cd, .slice A 3 ca, .slice B 0 cb], .int .i64 0]) ∧ Aside (VV w' (.agg #[.int .i64 1, .slice D 1 cd, .slice A 3 ca, .slice B 0 cb]) v3) ∧ Ext w w' :=
  box_val (m := (elemV v6 1, 0)) (element_ok (i := 1) (d := 2) (ds := [3]) h ok6 rfl (by decide)) rfl
theorem ash6 {w : World} {x : Value} (hg : Glob w) (h : VV w x v6) : Calls Tryz.prog 17 #[x] w fun e w' => e = .returned (.tuple #[.string ⟨#[123, 123, 49, 44, 32, 50, 44, 32, 51, 125, 44, 32, 123, 52, 44, 32, 53, 44, 32, 49, 47, 50, 125, 125]⟩, .int .i64 0]) ∧ Ext w w' :=
  show_ok hg h ok6 (by rw [show6]; rfl)
theorem ash3 {w : World} {x : Value} (hg : Glob w) (h : VV w x v3) : Calls Tryz.prog 17 #[x] w fun e w' => e = .returned (.tuple #[.string ⟨#[123, 52, 44, 32, 53, 44, 32, 49, 47, 50, 125]⟩, .int .i64 0]) ∧ Ext w w' :=
  show_ok hg h ok3 (by rw [show3]; rfl)
set_option maxRecDepth 10000 in
set_option maxHeartbeats 4000000 in
theorem alive3_calls {w : World} (hg : Glob3 w) : Calls Tryz.prog 19 #[] w fun e w' => e = .returned (.bool true) ∧ Ext w w' := by
  have HG := Aside.mk (hg.ext ((Ext.refl w).alloc (.cells #[.int .i64 2, .int .i64 3] 3)))
  have HTY : Aside (TV (w.alloc (.cells #[.int .i64 2, .int .i64 3] 3)) (.agg #[.int .i64 1, .slice (some ⟨w.heap.size, 0, none⟩) 2 2]) 1 [2, 3]) := ⟨_, rfl, (SO.lit (e := 3) (R := IntC) w [.int .i64 2, .int .i64 3] [2, 3] (by decide) (rows_ints [2, 3] _)).sv.iv⟩
  have k0 := KTg.init (w.alloc (.cells #[.int .i64 2, .int .i64 3] 3)) (g := w.heap.size + 1) (by simp) (.int .i64 1) (.slice (some ⟨w.heap.size, 0, none⟩) 2 2) 25
  have HE1 := Aside.mk ((Ext.refl w).alloc (.cells #[.int .i64 2, .int .i64 3] 3))
  clear hg
  go_enter Tryz.func19, Tryz.ntmps19
  go_wp2_with (first | (go_at_call 32; (with_reducible refine (shText_calls (HG.out.ext k0.1.out) (HTY.out.ext k0.1.out) ty23 tyB23).mono ?_); rintro e w1 ⟨rfl, f1⟩; have k1 := KTg.ext f1 k0; clear f1 k0) | (go_at_call 37; (with_reducible refine (sizeOf_calls (HTY.out.ext k1.1.out) size23).mono ?_); rintro e w2 ⟨rfl, f2⟩; have k2 := KTg.ext f2 k1; have F2 := Aside.mk k2.1.out; clear f2 k1) | (go_at_call 25; (with_reducible refine (ar6 (HG.out.ext F2.out).base).mono ?_); rintro e w3 ⟨D3, e3, A3, a3, B3, b3, rfl, R3, f3⟩; have k3 := KeepB.init w3 (.int .i64 1) (.slice D3 2 e3) (.slice A3 6 a3) (.slice B3 0 b3) 29; have F3 := Aside.mk ((F2.out.trans f3).trans k3.1.out); clear f3) | (go_at_call 17; (with_reducible refine (ash6 (HG.out.ext F3.out).base (R3.out.ext k3.1.out)).mono ?_); rintro e w4 ⟨rfl, f4⟩; have k4 := KeepB.ext f4 k3; have F4 := Aside.mk (F3.out.trans f4); clear f4 k3) | (go_at_call 25; (with_reducible refine (arf (HG.out.ext F4.out).base).mono ?_); rintro e w5 ⟨D5, e5, A5, a5, B5, b5, rfl, R5, f5⟩; have p5 := KeepB.init w5 (.int .i64 2) (.slice D5 1 e5) (.slice A5 0 a5) (.slice B5 2 b5) 29; have k5 := KeepB.ext (f5.trans p5.1.out) k4; have F5 := Aside.mk ((F4.out.trans f5).trans p5.1.out); clear f5 k4) | (go_at_call 25; (with_reducible refine (arb (HG.out.ext F5.out).base).mono ?_); rintro e w6 ⟨D6, e6, A6, a6, B6, b6, rfl, R6, f6⟩; have q6 := KeepB.init w6 (.int .i64 0) (.slice D6 0 e6) (.slice A6 0 a6) (.slice B6 0 b6) 29; have k6 := KeepB.ext (f6.trans q6.1.out) k5; have p6 := KeepB.ext (f6.trans q6.1.out) p5; have F6 := Aside.mk ((F5.out.trans f6).trans q6.1.out); clear f6 k5 p5 q6) | (go_at_call 16; (with_reducible refine (ael (R3.out.ext k6.1.out)).mono ?_); rintro e w7 ⟨D7, e7, A7, a7, B7, b7, rfl, R7, f7⟩; have q7 := KeepB.init w7 (.int .i64 1) (.slice D7 1 e7) (.slice A7 3 a7) (.slice B7 0 b7) 29; have p7 := KeepB.ext (f7.trans q7.1.out) p6; have F7 := Aside.mk ((F6.out.trans f7).trans q7.1.out); clear f7 p6 k6) | (go_at_call 17; (with_reducible refine (ash3 (HG.out.ext F7.out).base (R7.out.ext q7.1.out)).mono ?_); rintro e w8 ⟨rfl, f8⟩; have p8 := KeepB.ext f8 p7; have F8 := Aside.mk (F7.out.trans f8); clear f8 p7 q7))
  go_ret
  exact ⟨rfl, HE1.out.trans F8.out⟩
end Go.Proofs.YtcbaipnphepbeaaGreatDoor
