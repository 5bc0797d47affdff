/- The law ShapeShown: it returns true. ShapeShown: of every input the call returns true, and each argument reads behind it as it read before. ShapeShown: the tied card holds: Read of Show is the value, as the specification says, and Show of Read is the text. Conditions: the package-level variables that the row lists start as the program's text lays them (the tie is given). -/
import Derived.Test.YtcbaipnphepbeaaGreatDoorN7
import Derived.Test.YtcbaipnphepbeaaGreatDoorNr
import Derived.Test.YtcbaipnphepbeaaGreatDoorN9
import Derived.Test.YtcbaipnphepbeaaGreatDoorN2
import Derived.Test.YtcbaipnphepbeaaGreatDoorNv
import Derived.Test.YtcbaipnphepbeaaGreatDoorNx
import Derived.Test.YtcbaipnphepbeaaGreatDoorNw
import Derived.Test.YtcbaipnphepbeaaGreatDoorNu
import Derived.ChangeMaps5
import Derived.Test.YtcbaipnphepbeaaGreatDoorCards
import Derived.Test.YtcbaipnphepbeaaGreatDoorTie
import Derived.SevenTiedAt
namespace Go.Proofs.YtcbaipnphepbeaaGreatDoor
open Go.RowKit
attribute [local go_sem ↓] Go.wp_at_zero Go.wp_at_succ

theorem cut_take2 (s : ByteArray) (k : Int) : (s.extract 0 (min (s.size : Int) k).toNat).data.toList = s.data.toList.take (min (s.size : Int) k).toNat := by
  rw [ByteArray.data_extract]
  simp
theorem read_to2 {w : World} {l : List UInt8} {s : ByteArray} {v : Vq} {e0 : Int} {l1 l2 l3 : Nat} (hg : Glob w) (hs : bs l = s) (hm : readF l = (v, e0)) (h1 : v.ds.length = l1) (h2 : v.nums.length = l2) (h3 : v.bits.length = l3) :
    Calls Tryz.prog 25 #[.string s] w fun e w' => ∃ D d A a B b, e = .returned (.tuple #[.agg #[.int .i64 v.k, .slice D l1 d, .slice A l2 a, .slice B l3 b], .int .i64 e0]) ∧ VV w' (.agg #[.int .i64 v.k, .slice D l1 d, .slice A l2 a, .slice B l3 b]) v ∧ Ext w w' := by
  subst hs h1 h2 h3
  refine (read_calls ia_all hg trivial hm).mono ?_
  rintro e w' ⟨r, rfl, hr, he⟩
  obtain ⟨D, d, A, a, B, b, rfl⟩ := hr.vv.form
  exact ⟨D, d, A, a, B, b, rfl, hr.vv, he⟩
/-- What fit returns lies in a box. -/
def Fitted (w : World) (s : Value) (W : World) : Prop := ∃ (g : Nat) (v : Vq) (D : Option Addr) (d : Nat) (A : Option Addr) (a : Nat) (B : Option Addr) (b : Nat), s = .pointer (some ⟨g, 0, none⟩) ∧ B4 W g (.int .i64 v.k) (.slice D v.ds.length d) (.slice A v.nums.length a) (.slice B v.bits.length b) ∧
  VV W (.agg #[.int .i64 v.k, .slice D v.ds.length d, .slice A v.nums.length a, .slice B v.bits.length b]) v ∧ valOk v = true ∧ Ext w W
theorem fit_to {w : World} {xv yv : Value} {D5 : Option Addr} {c5 : Nat} {k : Int} {ds : List Int} {ns : List Rq} {bts : List Bq} {b5 : Nat} (ht : SO b5 3 1 IntC w (.slice D5 ds.length c5) ds) (hd : Dims ds) (hn : QV w xv ns) (hb : BV w yv bts) :
    Calls Tryz.prog 23 #[.agg #[.int .i64 k, .slice D5 ds.length c5], xv, yv] w fun e w' => ∃ D d A a B b, e = .returned (.agg #[.int .i64 k, .slice D ds.length d, .slice A (fitV k ds ns bts).nums.length a, .slice B (fitV k ds ns bts).bits.length b]) ∧ VO w.heap.size w' (.agg #[.int .i64 k, .slice D ds.length d, .slice A (fitV k ds ns bts).nums.length a, .slice B (fitV k ds ns bts).bits.length b]) (fitV k ds ns bts) ∧ Ext w w' := by
  refine (fit_calls ⟨_, rfl, ht.sv.iv⟩ hd hn hb).mono ?_
  rintro e w' ⟨r, rfl, hr, he⟩
  obtain ⟨D, d, A, a, B, b, rfl⟩ := hr.vv.form
  exact ⟨D, d, A, a, B, b, rfl, hr, he⟩
/-- What the loop over the Bits has found. -/
def faultsTo (v : Vq) (j : Nat) : Bool := decide (0 < v.bits.length) && (v.bits.take j).all fun b => b.f != 0
theorem faults_step {v : Vq} {j : Nat} {x : Bq} {f : Bool} (h : faultsTo v j = f) (hx : v.bits[j]? = some x) : faultsTo v (j + 1) = (f && (x.f != 0)) := by
  subst h
  unfold faultsTo
  rw [List.take_add_one, hx]
  simp [List.all_append, Bool.and_assoc]
theorem faults_end {v : Vq} {j : Nat} (h : v.bits.length ≤ j) : faultsTo v j = allF v := by
  unfold faultsTo allF
  rw [List.take_of_length_le h]
set_option maxRecDepth 10000 in
set_option maxHeartbeats 8000000 in
theorem lwShown_calls {w : World} {x : Value} {u0 : Vq} {s0 : ByteArray} (hg : Glob3 w) (h : VL w x u0) :
    Calls Tryz.prog 4 #[x, .string s0] w fun e w' => e = .returned (.bool true) ∧ Ext w w' := by
  have HG := Aside.mk hg
  have hvl := h
  obtain ⟨dx, nx, bx, rfl, hd, hn, hb⟩ := h
  obtain ⟨DX, cdx, xs, rfl, _⟩ := hd
  obtain ⟨AX, cax, ys, rfl, _⟩ := hn
  obtain ⟨BX, cbx, zs, rfl, _⟩ := hb
  have HVL := Aside.mk (hvl.ext ((Ext.refl w).alloc (.cells #[.int .i64 u0.k, .slice DX u0.ds.length cdx, .slice AX u0.nums.length cax, .slice BX u0.bits.length cbx] 29)))
  have HE0 := Aside.mk ((Ext.refl w).alloc (.cells #[.int .i64 u0.k, .slice DX u0.ds.length cdx, .slice AX u0.nums.length cax, .slice BX u0.bits.length cbx] 29))
  have k0 := KeepB.init w (.int .i64 u0.k) (.slice DX u0.ds.length cdx) (.slice AX u0.nums.length cax) (.slice BX u0.bits.length cbx) 29
  obtain ⟨u, hu⟩ : ∃ u, cutv u0 = u := ⟨_, rfl⟩
  have HU := Aside.mk hu
  obtain ⟨u1, hu1⟩ : ∃ n, u.ds.length = n := ⟨_, rfl⟩
  obtain ⟨u2, hu2⟩ : ∃ n, u.nums.length = n := ⟨_, rfl⟩
  obtain ⟨u3, hu3⟩ : ∃ n, u.bits.length = n := ⟨_, rfl⟩
  have HU1 := Aside.mk hu1
  have HU2 := Aside.mk hu2
  have HU3 := Aside.mk hu3
  generalize u0.ds.length = n1 at *
  generalize u0.nums.length = n2 at *
  generalize u0.bits.length = n3 at *
  clear hg hu hu1 hu2 hu3 hvl
  go_enter Tryz.func4, Tryz.ntmps4
  go_upto_region 2 with (first | (go_at_call 13; (with_reducible refine (value_vo HVL.out HU.out).mono ?_); rw [HU1.out, HU2.out, HU3.out]; rintro e w1 ⟨D1, d1, A1, a1, B1, b1, rfl, hr, he⟩; have E1 := Aside.mk (HE0.out.trans he); have HV1 := Aside.mk hr.vv; have k1 := KeepB.init w1 (.int .i64 u.k) (.slice D1 u1 d1) (.slice A1 u2 a1) (.slice B1 u3 b1) 29; clear hr he))
  clear k0
  go_cut [6] from 20 to 27 (fun s6 wx => Fitted w s6 wx)
  case first =>
    obtain ⟨dv, nv, bv, hev, hiv, hqv, hbv⟩ := HV1.out
    simp only [Value.agg.injEq, Array.mk.injEq, List.cons.injEq, true_and, and_true] at hev
    obtain ⟨rfl, rfl, rfl⟩ := hev
    have HTL : Aside (TL w1 (.agg #[.int .i64 u.k, .slice D1 u1 d1]) u.k u.ds) := ⟨TL.of hiv⟩
    have HQV := Aside.mk hqv
    have HBV := Aside.mk hbv
    have hkd : KeepB w1 (.int .i64 u.k) (.slice D1 u1 d1) (.slice A1 u2 a1) (.slice B1 u3 b1) ((w1.alloc (.cells #[.int .i64 u.k, .slice D1 u1 d1, .slice A1 u2 a1, .slice B1 u3 b1] 29)).drew) := KeepB.ext ((Ext.refl _).drew) k1
    clear hiv hqv hbv k1
    go_region_held3 (fun w' => KeepB w1 (.int .i64 u.k) (.slice D1 u1 d1) (.slice A1 u2 a1) (.slice B1 u3 b1) w') (first | assumption | exact KeepB.ext (by assumption) (by assumption) | exact KeepB.ext ((Ext.refl _).alloc _) (by assumption) | exact KeepB.set4 (by assumption) (by first | assumption | exact Nat.lt_succ_self _) _ _ _ _) (first | (go_at_call 24; (with_reducible refine (tame_calls (m := 3) (HTL.out.ext (Aside.out (And.left (show KeepB w1 (.int .i64 u.k) (.slice D1 u1 d1) (.slice A1 u2 a1) (.slice B1 u3 b1) _ from by assumption)))) (by decide) (by decide)).mono ?_); rintro e wt ⟨⟨k, es, D5, c5, rfl, hk, hl, hs, hro⟩, het⟩; have hlt := KeepB.lt (KeepB.ext het (show KeepB w1 (.int .i64 u.k) (.slice D1 u1 d1) (.slice A1 u2 a1) (.slice B1 u3 b1) _ from by assumption)); try have hbt := (B4.new (w := ((w1.alloc (.cells #[.int .i64 u.k, .slice D1 u1 d1, .slice A1 u2 a1, .slice B1 u3 b1] 29)).drew)) (g := w1.heap.size + 1) (by simp) (.int .i64 0) (.slice none 0 0) (.slice none 0 0) (.slice none 0 0) 29).ext het) | (go_at_call 23; (with_reducible refine (fit_to (hro.ext IntC.ext (by first | exact Ext.refl _ | exact (Ext.refl _).alloc _)) (dims_of hl hs) (HQV.out.ext RatC.ext (Aside.out (And.left (show KeepB w1 (.int .i64 u.k) (.slice D1 u1 d1) (.slice A1 u2 a1) (.slice B1 u3 b1) _ from by assumption)))) (HBV.out.ext BitC.ext (Aside.out (And.left (show KeepB w1 (.int .i64 u.k) (.slice D1 u1 d1) (.slice A1 u2 a1) (.slice B1 u3 b1) _ from by assumption))))).mono ?_); rintro e wf ⟨D, d, A, a, B, b, rfl, hvo, hef⟩; have hkf := KeepB.ext hef (show KeepB w1 (.int .i64 u.k) (.slice D1 u1 d1) (.slice A1 u2 a1) (.slice B1 u3 b1) _ from by assumption); have hlf := KeepB.lt hkf; first | have hbf := hbt.ext hef | have hbf := (B4.new (w := wt) (g := wt.heap.size) rfl (.int .i64 0) (.slice none 0 0) (.slice none 0 0) (.slice none 0 0) 29).ext hef | skip))
    · have HEW : Ext w wf := ((E1.out.trans (((Ext.refl w1).alloc _).drew)).trans het).trans hef
      go_wp2_with fail
      go_meet
      exact ⟨_, fitV k es u.nums u.bits, D, d, A, a, B, b, rfl, B4.new rfl _ _ _ _ _, hvo.vv.ext ((Ext.refl wf).alloc _), fitV_ok hk (dims_of hl hs), HEW.alloc _⟩
    · have HEW : Ext w wf := ((E1.out.trans (((Ext.refl w1).alloc _).drew)).trans het).trans (((Ext.refl wt).alloc _).trans hef)
      have HSZ := E1.out.size
      have hg1 : wt.heap.size < (wt.alloc (.cells #[.int .i64 0, .slice none 0 0, .slice none 0 0, .slice none 0 0] 29)).heap.size := by simp
      have hg2 : w.heap.size ≤ wt.heap.size := by omega
      clear hg1 HSZ
      go_wp2_with fail
      go_meet
      exact ⟨_, fitV k es u.nums u.bits, D, d, A, a, B, b, rfl, (((hbf.put 0 _).put 1 _).put 2 _).put 3 _, (hvo.set4 (by simp) _ _ _ _).vv, fitV_ok hk (dims_of hl hs), ext_set4 HEW hg2 _ _ _ _⟩
    · have HEW : Ext w wf := (E1.out.trans ((((Ext.refl w1).alloc _).drew).trans (((Ext.refl _).alloc _).trans het))).trans hef
      have HSZ := E1.out.size
      have hg2 : w.heap.size ≤ w1.heap.size + 1 := by omega
      have hg1 := B4.lt hbt
      clear HSZ
      go_wp2_with fail
      go_meet
      exact ⟨_, fitV k es u.nums u.bits, D, d, A, a, B, b, rfl, (((hbf.put 0 _).put 1 _).put 2 _).put 3 _, (hvo.set4 hg1 _ _ _ _).vv, fitV_ok hk (dims_of hl hs), ext_set4 HEW hg2 _ _ _ _⟩
  case rest =>
    clear HV1 HVL HU HU1 HU2 HU3 k1 HE0 E1
    obtain ⟨g, v, D, d, A, a, B, b, rfl, hb6, hv, ho, he⟩ := hcut
    have HV := Aside.mk hv
    have HO := Aside.mk ho
    have E2 := Aside.mk he
    have HGD := Aside.mk hv.good
    obtain ⟨e0, z, hrd⟩ : ∃ e z, readF (showV v) = (z, e) := ⟨_, _, rfl⟩
    have HRD := Aside.mk hrd
    obtain ⟨s, hs⟩ : ∃ s, (⟨(showV v).toArray⟩ : ByteArray) = s := ⟨_, rfl⟩
    have HS := Aside.mk hs
    have HS2 : Aside (bs (showV v) = s) := ⟨hs⟩
    obtain ⟨l1, hl1⟩ : ∃ n, v.ds.length = n := ⟨_, rfl⟩
    obtain ⟨l2, hl2⟩ : ∃ n, v.nums.length = n := ⟨_, rfl⟩
    obtain ⟨l3, hl3⟩ : ∃ n, v.bits.length = n := ⟨_, rfl⟩
    have HL3 := Aside.mk hl3
    obtain ⟨zk, hzk⟩ : ∃ k, z.k = k := ⟨_, rfl⟩
    have HZK := Aside.mk hzk
    obtain ⟨z1, hz1⟩ : ∃ n, z.ds.length = n := ⟨_, rfl⟩
    obtain ⟨z2, hz2⟩ : ∃ n, z.nums.length = n := ⟨_, rfl⟩
    obtain ⟨z3, hz3⟩ : ∃ n, z.bits.length = n := ⟨_, rfl⟩
    have HZ1 := Aside.mk hz1
    have HZ2 := Aside.mk hz2
    have HZ3 := Aside.mk hz3
    rw [hl1, hl2, hl3] at hb6 HV
    have hl35 : l3 ≤ 512 := by rw [← hl3]; exact (valOk_len ho).2
    clear hv ho he hrd hs hl1 hl2 hl3 hz1 hz2 hz3 hzk
    go_wp2_with (first | (go_at_call 17; (with_reducible refine (show_ok (HG.out.base.ext E2.out) HV.out HO.out HS.out).mono ?_); rintro e w3 ⟨rfl, he⟩; have E3 := Aside.mk (E2.out.trans he); have HV3 := Aside.mk (HV.out.ext he); have hb3 := hb6.ext he; clear he) | (go_at_call 25; (with_reducible refine (read_to2 (HG.out.base.ext E3.out) HS2.out HRD.out HZ1.out HZ2.out HZ3.out).mono ?_); rw [HZK.out]; rintro e w4 ⟨D4, d4, A4, a4, B4', b4, rfl, hr, he⟩; have HR4 := Aside.mk (hr.ext ((Ext.refl w4).alloc (.cells #[.int .i64 zk, .slice D4 z1 d4, .slice A4 z2 a4, .slice B4' z3 b4] 29))); have E4 := Aside.mk (E3.out.trans (he.alloc (.cells #[.int .i64 zk, .slice D4 z1 d4, .slice A4 z2 a4, .slice B4' z3 b4] 29))); have HV4 := Aside.mk (HV3.out.ext (he.alloc (.cells #[.int .i64 zk, .slice D4 z1 d4, .slice A4 z2 a4, .slice B4' z3 b4] 29))); have hb4 := B4.new (w := w4) rfl (.int .i64 zk) (.slice D4 z1 d4) (.slice A4 z2 a4) (.slice B4' z3 b4) 29; have hb5 := hb3.ext (he.alloc (.cells #[.int .i64 zk, .slice D4 z1 d4, .slice A4 z2 a4, .slice B4' z3 b4] 29)); clear hr he))
    have HF0 : Aside (faultsTo v 0 = decide ((l3 : Int) > 0)) := ⟨by unfold faultsTo; rw [HL3.out]; simp⟩
    obtain ⟨f0, hf0⟩ : ∃ f, decide ((l3 : Int) > 0) = f := ⟨_, rfl⟩
    have HF1 : Aside (faultsTo v 0 = f0) := ⟨HF0.out.trans hf0⟩
    clear HF0
    obtain ⟨g9, hg9⟩ : ∃ g, w4.heap.size = g := ⟨_, rfl⟩
    rw [hg9] at hb4
    try rw [hg9]
    have HG9 := Aside.mk hg9
    clear hg9
    go_loopw [11, 12] (fun t i wr => ∃ (j : Nat) (f : Bool), j ≤ l3 ∧ t = .bool f ∧ i = .int .i64 (j : Int) ∧ B4 wr g (.int .i64 v.k) (.slice D l1 d) (.slice A l2 a) (.slice B l3 b) ∧ B4 wr g9 (.int .i64 zk) (.slice D4 z1 d4) (.slice A4 z2 a4) (.slice B4' z3 b4) ∧ Aside (faultsTo v j = f) ∧ wr = w4.alloc (.cells #[.int .i64 zk, .slice D4 z1 d4, .slice A4 z2 a4, .slice B4' z3 b4] 29)) (fun _ i _ => l3 - (intOf i).toNat)
    case atStart => exact ⟨0, f0, by omega, by rw [← hf0]; simp, rfl, hb5, hb4, HF1, rfl⟩
    case round =>
      clear hb5 hb4 HF1 hf0
      obtain ⟨j, f, hj, rfl, rfl, hbx, hbz, HFJ, rfl⟩ := hrel
      by_cases hlt : j < l3
      · obtain ⟨x, hx⟩ : ∃ x, v.bits[j]? = some x := ⟨v.bits[j]'(by rw [HL3.out]; exact hlt), List.getElem?_eq_getElem _⟩
        obtain ⟨dv, nv, bv, hev, -, -, hbv⟩ := HV4.out
        simp only [Value.agg.injEq, Array.mk.injEq, List.cons.injEq, true_and, and_true] at hev
        obtain ⟨rfl, rfl, rfl⟩ := hev
        obtain ⟨bx, ox, hB, hx0, hx1⟩ := BV.at' hbv j hx
        subst hB
        have HST := Aside.mk (faults_step HFJ.out hx)
        have hp0 : (0 : Int) ≤ (j : Int) := Int.natCast_nonneg _
        have hp1 : (j : Int) < (l3 : Int) := by omega
        clear hbv hx HFJ
        cases f
        · go_wp2_with fail
          go_roundw
          case rel => exact ⟨j + 1, false, by omega, rfl, by go_num, hbx, hbz, HST, (by first | rfl | exact True.intro)⟩
          case measure => simp [intOf]; omega
        · cases hxf : (x.f != 0)
          · have HST2 : Aside (faultsTo v (j + 1) = false) := ⟨by rw [HST.out, hxf]; rfl⟩
            go_wp2_with fail
            go_roundw
            case rel => exact ⟨j + 1, false, by omega, rfl, by go_num, hbx, hbz, HST2, (by first | rfl | exact True.intro)⟩
            case measure => simp [intOf]; omega
          · have HST2 : Aside (faultsTo v (j + 1) = true) := ⟨by rw [HST.out, hxf]; rfl⟩
            go_wp2_with fail
            go_roundw
            case rel => exact ⟨j + 1, true, by omega, rfl, by go_num, hbx, hbz, HST2, (by first | rfl | exact True.intro)⟩
            case measure => simp [intOf]; omega
      · have HAF : Aside (allF v = f) := ⟨by rw [← faults_end (v := v) (j := j) (by rw [HL3.out]; omega)]; exact HFJ.out⟩
        have hp1 : ¬ (j : Int) < (l3 : Int) := by omega
        have HSZ : Aside ((s.size : Int) = ((showV v).length : Int)) := ⟨by rw [← HS.out]; rfl⟩
        clear HFJ
        go_upto_block 2 with fail
        go_cut [] from 61 to 86 (fun wx => Aside (Ext w wx))
        case first =>
          by_cases hL : 20000 < (showV v).length
          · have hz := (read_long_show hL).symm.trans HRD.out
            injection hz with hz he
            subst hz he
            obtain rfl : (0 : Int) = zk := HZK.out
            obtain rfl : 0 = z1 := HZ1.out
            obtain rfl : 0 = z2 := HZ2.out
            obtain rfl : 0 = z3 := HZ3.out
            have hq : (s.size : Int) > 20000 := by rw [HSZ.out]; omega
            clear hL
            go_wp2_with (first | (go_at_call 18; (with_reducible refine lzero_true.mono ?_); rintro e w5 ⟨rfl, he⟩; have E5 := Aside.mk (E4.out.trans he); clear he))
            go_meet
            exact E5
          · have hq : ¬ (s.size : Int) > 20000 := by rw [HSZ.out]; omega
            cases f
            · have hz := (read_show HO.out HGD.out (kind_not HO.out HAF.out) (by omega)).symm.trans HRD.out
              injection hz with hz he
              subst hz he
              obtain rfl : v.k = zk := HZK.out
              obtain rfl : l3 = z3 := HL3.out.symm.trans HZ3.out
              clear hL
              go_wp2_with (first | (go_at_call 21; (with_reducible refine (gives3_same HR4.out HV4.out).mono ?_); rintro e w5 ⟨rfl, he⟩; have E5 := Aside.mk (E4.out.trans he); clear he))
              go_meet
              exact E5
            · have hz := (read_faults HO.out HAF.out (by omega)).symm.trans HRD.out
              injection hz with hz he
              subst hz he
              obtain rfl : (1 : Int) = zk := HZK.out
              clear hL
              go_wp2_with fail
              go_meet
              exact E4
        case rest =>
          clear hbx hbz HV HV3 HV4 HR4 HRD HSZ HAF
          have E6 := hcut
          clear hcut
          obtain ⟨l, hl⟩ : ∃ l, (s0.extract 0 (min (s0.size : Int) 2000).toNat).data.toList = l := ⟨_, rfl⟩
          obtain ⟨t2, ht2⟩ : ∃ t, s0.extract 0 (min (s0.size : Int) 2000).toNat = t := ⟨_, rfl⟩
          have HT2 : Aside (bs l = t2) := ⟨by rw [← hl, ht2]; rfl⟩
          have HTL : Aside (l.length ≤ 2000) := ⟨by rw [← hl, cut_take2, List.length_take]; omega⟩
          obtain ⟨y, ey, hrd⟩ : ∃ v e, readF l = (v, e) := ⟨_, _, rfl⟩
          have HRD2 := Aside.mk hrd
          obtain ⟨yk, hyk⟩ : ∃ k, y.k = k := ⟨_, rfl⟩
          have HYK := Aside.mk hyk
          obtain ⟨y1, hy1⟩ : ∃ n, y.ds.length = n := ⟨_, rfl⟩
          obtain ⟨y2, hy2⟩ : ∃ n, y.nums.length = n := ⟨_, rfl⟩
          obtain ⟨y3, hy3⟩ : ∃ n, y.bits.length = n := ⟨_, rfl⟩
          have HY1 := Aside.mk hy1
          have HY2 := Aside.mk hy2
          have HY3 := Aside.mk hy3
          clear hl hrd hyk hy1 hy2 hy3
          go_upto_if 98 with (first | (go_at_call 25; (with_reducible refine (read_to2 (HG.out.base.ext E6.out) HT2.out HRD2.out HY1.out HY2.out HY3.out).mono ?_); rw [HYK.out]; rintro e w7 ⟨D7, d7, A7, a7, B7, b7, rfl, hr, he⟩; have HR7 := Aside.mk (hr.ext ((Ext.refl w7).alloc (.cells #[.int .i64 yk, .slice D7 y1 d7, .slice A7 y2 a7, .slice B7 y3 b7] 29))); have E7 := Aside.mk (E6.out.trans (he.alloc (.cells #[.int .i64 yk, .slice D7 y1 d7, .slice A7 y2 a7, .slice B7 y3 b7] 29))); have hb7 := B4.new (w := w7) rfl (.int .i64 yk) (.slice D7 y1 d7) (.slice A7 y2 a7) (.slice B7 y3 b7) 29; clear hr he))
          clear ht2
          rcases read_cases l with ⟨y', hy'⟩ | hy'
          · rw [HRD2.out] at hy'
            injection hy' with hy' he
            subst he
            obtain ⟨o1, -, o3, -⟩ := show_read HRD2.out
            have HOY := Aside.mk o1
            have HSY : Aside ((⟨(showV y).toArray⟩ : ByteArray) = t2) := ⟨by rw [o3]; exact HT2.out⟩
            clear hy' o1 o3
            go_wp2_with (first | (go_at_call 17; (with_reducible refine (show_ok (HG.out.base.ext E7.out) HR7.out HOY.out HSY.out).mono ?_); rintro e w9 ⟨rfl, he⟩; have E9 := Aside.mk (E7.out.trans he); have HR9 := Aside.mk (HR7.out.ext he); have hb9 := hb7.ext he; clear he) | (go_at_call 15; (with_reducible refine (isValue_calls HR9.out HOY.out).mono ?_); rintro e w8 ⟨rfl, he⟩; have E8 := Aside.mk (E9.out.trans he); clear he) | (go_at_call 19; (with_reducible refine (alive3_calls (HG.out.ext E8.out)).mono ?_); rintro e w10 ⟨rfl, he⟩; have HEND := Aside.mk (E8.out.trans he); clear he))
            go_ret
            exact ⟨rfl, HEND.out⟩
          · have hy2 := hy'.symm.trans HRD2.out
            clear hy'
            rw [if_neg (by have := HTL.out; omega)] at hy2
            injection hy2 with hz he
            subst he
            obtain rfl : (0 : Int) = yk := by rw [← HYK.out, ← hz]; rfl
            obtain rfl : 0 = y1 := by rw [← HY1.out, ← hz]; rfl
            obtain rfl : 0 = y2 := by rw [← HY2.out, ← hz]; rfl
            obtain rfl : 0 = y3 := by rw [← HY3.out, ← hz]; rfl
            clear hz
            go_wp2_with (first | (go_at_call 18; (with_reducible refine lzero_true.mono ?_); rintro e w8 ⟨rfl, he⟩; have E8 := Aside.mk (E7.out.trans he); clear he) | (go_at_call 19; (with_reducible refine (alive3_calls (HG.out.ext E8.out)).mono ?_); rintro e w10 ⟨rfl, he⟩; have HEND := Aside.mk (E8.out.trans he); clear he))
            go_ret
            exact ⟨rfl, HEND.out⟩
end Go.Proofs.YtcbaipnphepbeaaGreatDoor

namespace Go.Proofs.YtcbaipnphepbeaaGreatDoor
open Go.RowKit Go.ChangeShapes Go.WideShapes Go.ChangeAt

set_option maxRecDepth 100000 in
theorem lwShown_lifted (os : Os) (started : os.Started) (H : Type) (enc : TypeId × Value → H) :
    ReturnsInHanded {} Tryz.checked os 4 .any (fun w args => (Rows.shapeShownSpec.pre enc Tryz.prog Tryz.f4 [] false w args ∧ laidMetH Tryz.prog Rows.shapeShownRow.laid w) ∧ sizedMet enc Tryz.prog Tryz.f4 (OpenSpec.ofChange Rows.shapeShownSpec) false w args)
      (Rows.shapeShownSpec.post enc Tryz.prog Tryz.f4 false true false false) := by
  refine returns_law (C := Tryz.checked) (X := fun w _ => laidMetH Tryz.prog Rows.shapeShownRow.laid w) (fun _ _ _ hh h => h.of_heap hh) Tryz.own started (by kernel_rfl) Tryz.func4
    (ChangeSpec.witness_shaped (enc := enc) (C := Tryz.checked) (os := os) (X := fun w _ => laidMetH Tryz.prog Rows.shapeShownRow.laid w) false (World.laidAll Tryz.prog os Rows.shapeShownRow.laid) #[.agg #[.int .i64 0, .slice none 0 0, .slice none 0 0, .slice none 0 0], .string ⟨#[]⟩] 8 (World.laidAll_os _ _ _)
      (World.shaped_of_ZipB (by kernel_rfl) (by kernel_rfl)) (by kernel_rfl) (by kernel_rfl) (by kernel_rfl)
      (by rw [MakeChecks.laidMetH_plain _ _ _ (by kernel_rfl)]; exact laidMet_laidAll _ (by kernel_rfl) (by kernel_rfl))) ?_
  intro W base args ds gs before hval0 hW hL hsh
  have hval : ∀ (j : Nat) t v, Tryz.f4.params[j]? = some t → args[j]? = some v → Value.okWide Tryz.prog W .any base t v := hval0
  have hW' := hW
  obtain ⟨p, q, hA0, hV, rfl, hfz, hnd⟩ := hW
  have hA : DataW.TrodAll enc Tryz.prog W 0 (fun _ => true) true Tryz.f4.params.toList args.toList ds p := hA0
  have hA' := hA
  rw [Tryz.params4] at hA hval
  obtain ⟨v0, v1, d0, d1, p0, p1, rfl, rfl, rfl, ⟨k0, h0⟩, h1⟩ := trodAll_two hA
  obtain ⟨rfl, rfl⟩ := trodVars_none hV
  have hG := glob3_of (by kernel_rfl) rfl hL hsh
  obtain ⟨u, hu⟩ := val_of (hval 0 29 v0 rfl rfl) h0
  obtain ⟨s0, rfl, rfl, rfl, _⟩ := Go.ChangeMaps.open_string Tryz.underlying9 (hval 1 9 v1 rfl rfl) h1
  refine (lwShown_calls hG hu).mono fun e W' ⟨he, hw⟩ => ?_
  subst he
  refine ⟨_, rfl, law_post (ts := Tryz.f4.params.toList) rfl rfl rfl ?_ ⟨rfl, rfl, rfl⟩ hW' (by simpa using hA') hw⟩
  rw [Tryz.params4]
  exact read_all (by kernel_rfl)

theorem shapeShown_holds : Rows.ShapeShownSaid :=
  OpenClaim.holds_of_wide 4 Tryz.f4 rfl rfl rfl rfl rfl rfl rfl ⟨rfl, rfl, rfl, rfl, rfl⟩ rfl rfl rfl rfl rfl (by kernel_rfl) Tryz.func4 (by kernel_rfl)
    (of_decide_eq_true (by kernel_rfl)) (by unfold Func.isWrapper; first | (rw [if_neg (by decide +kernel)]; exact ⟨rfl, rfl⟩) | (rw [if_pos (by decide +kernel)]; kernel_rfl))
    (fun os started H enc _ => lwShown_lifted os started H enc)
end Go.Proofs.YtcbaipnphepbeaaGreatDoor

namespace Go.Proofs.YtcbaipnphepbeaaGreatDoor
open Go

set_option maxRecDepth 100000 in
theorem shapeShown_card : Rows.ShapeShownCardSaid :=
  Claim7.holds_tied_plain_at .later [] [.data, .data, .data, .data, .data] true (true, "74a4f590cf19fe5091db46413e7db25a7b9d51dc5c5273584579c29297515e2e") false
    shapeShown_holds (fun _ h => by cases h) (by kernel_rfl) (fun _ h => by cases h) shapeShown_row_tie rfl ⟨rfl, rfl⟩ (by kernel_rfl) rfl
    (fun f fn hf hfn => by
      obtain rfl : f = 4 := Option.some.inj ((show Tryz.prog.funcNamed "fluxion/fluxionlaw03.ShapeShown" = some 4 by kernel_rfl).symm.trans hf) |>.symm
      obtain rfl : fn = Tryz.f4 := (Option.some.inj (Tryz.func4.symm.trans hfn)).symm
      exact ⟨by kernel_rfl, fun j t ht => by
        rw [Tryz.params4] at ht
        have hm : t ∈ Tryz.f4.params.toList := by rw [Tryz.params4]; exact Array.mem_toList_iff.2 (Array.mem_of_getElem? ht)
        have hall : (Tryz.f4.params.toList.all fun u => !Tryz.prog.wantsStandIn u) = true := by kernel_rfl
        exact (show Tryz.prog.wantsStandIn t = false by simpa using List.all_eq_true.1 hall t hm)⟩)
    (by kernel_rfl)
#print axioms shapeShown_card
end Go.Proofs.YtcbaipnphepbeaaGreatDoor
