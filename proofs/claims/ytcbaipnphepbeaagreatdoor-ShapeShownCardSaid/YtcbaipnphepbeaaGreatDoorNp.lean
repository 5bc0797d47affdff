/- Contracts of shape: zero, Zero. Contracts of fluxionref03: Copy, Inner. Contracts of fluxionref03: Inner. -/
import Derived.Test.YtcbaipnphepbeaaGreatDoorNn
import Derived.Test.YtcbaipnphepbeaaGreatDoorNo
import Derived.Deep.DrawnRows
import Derived.Deep.RegionHeld3
namespace Go.Proofs.YtcbaipnphepbeaaGreatDoor
open Go.RowKit
attribute [local go_sem ↓] Go.wp_at_zero Go.wp_at_succ
theorem KZ.set4 {w w1 : World} {x0 x1 : Value} (h : KZ w x0 x1 w1) {g : Nat} (hg : w.heap.size + 2 ≤ g) (v0 v1 v2 v3 : Value) :
    KZ w x0 x1 ((((w1.setCell ⟨g, 0, none⟩ v0).setCell ⟨g, 1, none⟩ v1).setCell ⟨g, 2, none⟩ v2).setCell ⟨g, 3, none⟩ v3) :=
  h.below (Below.setCell (Below.setCell (Below.setCell (Below.setCell (Below.refl _ _) hg v0) hg v1) hg v2) hg v3)
/-- The new value behind its making. -/
def ZCut (w : World) (k : Int) (D : Option Addr) (nd cd : Nat) (ds : List Int) (s3 : Value) (wx : World) : Prop :=
  ∃ g A1 c1, s3 = .pointer (some ⟨g, 0, none⟩) ∧ KZ w (.int .i64 k) (.slice D nd cd) wx ∧ B4 wx g (.int .i64 k) (.slice A1 nd c1) (.slice none 0 0) (.slice none 0 0) ∧ w.heap.size + 2 ≤ g ∧ (Value.slice A1 nd c1).ownBlock ≠ some g ∧ SO (w.heap.size + 2) 3 1 IntC wx (.slice A1 nd c1) ds
theorem ZCut.new {w w1 : World} {k : Int} {D A1 : Option Addr} {nd cd c1 b : Nat} {ds : List Int} (hk : KZ w (.int .i64 k) (.slice D nd cd) w1) (hr : SO b 3 1 IntC w1 (.slice A1 nd c1) ds) (hb : w.heap.size + 2 ≤ b) :
    ZCut w k D nd cd ds (.pointer (some ⟨w1.heap.size, 0, none⟩)) (w1.alloc (.cells #[.int .i64 k, .slice A1 nd c1, .slice none 0 0, .slice none 0 0] 29)) :=
  ⟨_, A1, c1, rfl, KZ.ext ((Ext.refl w1).alloc _) hk, B4.new rfl _ _ _ _ _, hk.lt, fun e => by
    obtain ⟨xs, ho⟩ := hr.row
    have := (ho.lt _ e).2; omega, (hr.mono hb).ext IntC.ext ((Ext.refl w1).alloc _)⟩
theorem ZCut.old {w w1 : World} {k : Int} {D A1 : Option Addr} {nd cd c1 b : Nat} {ds : List Int} {z0 z1 z2 z3 : Value} (hk : KZ w (.int .i64 k) (.slice D nd cd) w1) (hb4 : B4 w1 (w.heap.size + 1 + 1) z0 z1 z2 z3) (hr : SO b 3 1 IntC w1 (.slice A1 nd c1) ds) (hb : w.heap.size + 1 + 1 < b) :
    ZCut w k D nd cd ds (.pointer (some ⟨w.heap.size + 1 + 1, 0, none⟩)) ((((w1.setCell ⟨w.heap.size + 1 + 1, 0, none⟩ (.int .i64 k)).setCell ⟨w.heap.size + 1 + 1, 1, none⟩ (.slice A1 nd c1)).setCell ⟨w.heap.size + 1 + 1, 2, none⟩ (.slice none 0 0)).setCell ⟨w.heap.size + 1 + 1, 3, none⟩ (.slice none 0 0)) :=
  ⟨_, A1, c1, rfl, hk.set4 (Nat.le_refl _) _ _ _ _, (((hb4.put 0 _).put 1 _).put 2 _).put 3 _, Nat.le_refl _, fun e => by
    obtain ⟨xs, ho⟩ := hr.row
    have := (ho.lt _ e).1; omega, (SO.set4 hr hb _ _ _ _ (fun _ _ _ _ _ _ h => h)).mono (by omega)⟩
theorem none_box {w : World} : Calls Tryz.prog 126 #[] w fun e w' => ∃ A c B d, e = .returned (.agg #[.int .i64 0, .bool false, .slice A 0 c, .slice B 1 d]) ∧ RO w.heap.size w' (.agg #[.int .i64 0, .bool false, .slice A 0 c, .slice B 1 d]) q0 ∧ Ext w w' := by
  refine none_calls.mono ?_
  rintro e w' ⟨r, rfl, hr, he⟩
  obtain ⟨A, c, B, d, rfl⟩ := hr.rr.form
  exact ⟨A, c, B, d, rfl, hr, he⟩
set_option maxRecDepth 10000 in
set_option maxHeartbeats 4000000 in
theorem zero_calls {w : World} {x : Value} {k : Int} {ds : List Int} (h : TV w x k ds) (hd : Dims ds) :
    Calls Tryz.prog 87 #[x] w fun e w' => ∃ r, e = .returned r ∧ VO w.heap.size w' r (zeroQ k ds) ∧ Ext w w' := by
  obtain ⟨x, rfl, hi⟩ := h
  have HI := Aside.mk hi
  have HD := Aside.mk hi.sv
  have HDD := Aside.mk hd
  obtain ⟨D, cd, rfl, _⟩ := hi.form
  obtain ⟨nd, hnd⟩ : ∃ n, ds.length = n := ⟨_, rfl⟩
  have HND := Aside.mk hnd
  obtain ⟨m, hm⟩ : ∃ m : Nat, prodI ds = (m : Int) := ⟨(prodI ds).toNat, by have := hd.prod; omega⟩
  have HM := Aside.mk hm
  have hm5 : m ≤ 512 := by have := hd.prod; omega
  rw [hnd] at HD HI ⊢
  have HZQ : Aside (zeroQ k ds = ⟨k, ds, if k = 1 then List.replicate m q0 else [], if k = 1 then [] else List.replicate m ⟨0, false⟩⟩) := ⟨by unfold zeroQ; rw [hm, Int.toNat_natCast]⟩
  obtain ⟨z, hz⟩ : ∃ z, zeroQ k ds = z := ⟨_, rfl⟩
  rw [hz] at HZQ ⊢
  clear hi hd hnd hm hz
  have hk0 := (KZ.init w (.int .i64 k) (.slice D nd cd) (.int .i64 0) (.slice none 0 0) (.slice none 0 0) (.slice none 0 0) 25 29).ext ((Ext.refl _).drew)
  have hk0b := KZ.ext (((Ext.refl ((w.alloc (.cells #[.int .i64 k, .slice D nd cd] 25)).alloc (.cells #[.int .i64 0, .slice none 0 0, .slice none 0 0, .slice none 0 0] 29))).alloc (.cells #[.int .i64 0, .slice none 0 0, .slice none 0 0, .slice none 0 0] 29)).drew) (KZ.init w (.int .i64 k) (.slice D nd cd) (.int .i64 0) (.slice none 0 0) (.slice none 0 0) (.slice none 0 0) 25 29)
  have hb0 := (B4.new (w := (w.alloc (.cells #[.int .i64 k, .slice D nd cd] 25)).alloc (.cells #[.int .i64 0, .slice none 0 0, .slice none 0 0, .slice none 0 0] 29)) (g := w.heap.size + 1 + 1) (by simp) (.int .i64 0) (.slice none 0 0) (.slice none 0 0) (.slice none 0 0) 29).ext ((Ext.refl _).drew)
  go_enter Tryz.func87, Tryz.ntmps87
  go_upto_region 1 with fail
  go_cut [3] from 4 to 11 (fun s3 wx => ZCut w k D nd cd ds s3 wx)
  case first =>
    go_wp2
    go_region_with (first | (go_at_call 108; with_reducible refine (cloneInt_calls (HD.out.ext IntC.ext hk0.1.out)).mono ?_; rintro e w1 ⟨r, rfl, hr, he1⟩; obtain ⟨A1, c1, rfl, _⟩ := hr.sv.form; rw [HND.out] at hr ⊢; have HR1 := Aside.mk hr; have hk1 := KZ.ext he1 hk0; have hk1a := KZ.ext ((Ext.refl w1).alloc (.cells #[.int .i64 0, .slice none 0 0, .slice none 0 0, .slice none 0 0] 29)) hk1; have hb1 := B4.new (w := w1) rfl (.int .i64 0) (.slice none 0 0) (.slice none 0 0) (.slice none 0 0) 29; clear hr) | (go_at_call 108; with_reducible refine (cloneInt_calls (HD.out.ext IntC.ext hk0b.1.out)).mono ?_; rintro e w1 ⟨r, rfl, hr, he1⟩; obtain ⟨A1, c1, rfl, _⟩ := hr.sv.form; rw [HND.out] at hr ⊢; have HR1 := Aside.mk hr; have hk1 := KZ.ext he1 hk0b; have hb1 := hb0.ext he1; clear hr))
    all_goals
      go_wp2
      go_meet
      first
        | (with_reducible refine ZCut.new hk1 HR1.out ?_; simp; done)
        | (with_reducible refine ZCut.old hk1 hb1 HR1.out ?_; simp; done)
  case rest =>
    clear hk0 hk0b hb0
    obtain ⟨g, A1, c1, rfl, hk0, hb0, hg2, hne, hso⟩ := hcut
    have HROW0 : Aside (RdRows w.heap.size g ds [] (.slice A1 nd c1) (.slice none 0 0) (.slice none 0 0) (.slice none 0 0) [] [] wc) := ⟨hg2, hb0.lt, hso, hne, SO.nil, (fun h => by cases h), SO.nil, SO.nil⟩
    have HTV : Aside (TV w (.agg #[.int .i64 k, .slice D nd cd]) k ds) := ⟨_, rfl, HI.out⟩
    clear hne hso
    go_wp2_with (go_at_call 58; (with_reducible refine (shSize_calls (HTV.out.ext hk0.1.out) HDD.out).mono ?_); rw [HM.out]; rintro e w2 ⟨rfl, he⟩; have hk1 := KZ.ext he hk0; have hb1 := hb0.ext he; have HROW1 := Aside.mk (HROW0.out.ext he); clear he)
    go_loopw [13] (fun i wr => ∃ (j : Nat) (NA : Option Addr) (nn nc : Nat) (BA : Option Addr) (bn bc : Nat), j ≤ m ∧ nn ≤ j ∧ bn ≤ j ∧ i = .int .i64 (j : Int) ∧ KZ w (.int .i64 k) (.slice D nd cd) wr ∧ B4 wr g (.int .i64 k) (.slice A1 nd c1) (.slice NA nn nc) (.slice BA bn bc) ∧
      Aside (∃ ns bts, (ns = if k = 1 then List.replicate j q0 else []) ∧ (bts = if k = 1 then [] else List.replicate j ⟨0, false⟩) ∧ ns.length = nn ∧ bts.length = bn ∧ RdRows w.heap.size g ds [] (.slice A1 nd c1) (.slice none 0 0) (.slice NA nn nc) (.slice BA bn bc) ns bts wr)) (fun i _ => m - (intOf i).toNat)
    case atStart => exact ⟨0, none, 0, 0, none, 0, 0, by omega, by omega, by omega, rfl, hk1, hb1, ⟨[], [], by simp, by simp, rfl, rfl, HROW1.out⟩⟩
    case round =>
      clear hk0 hk1 hb0 hb1 HROW0 HROW1
      obtain ⟨j, NA, nn, nc, BA, bn, bc, hj, hnj, hbj, rfl, hk0, hb0, HS⟩ := hrel
      obtain ⟨ns, bts, hns, hbs, hnn, hbn, hrow⟩ := HS.out
      have HNS := Aside.mk hns
      have HBS := Aside.mk hbs
      have HNN := Aside.mk hnn
      have HBN := Aside.mk hbn
      have HROW := Aside.mk hrow
      clear HS hns hbs hnn hbn hrow
      by_cases hlt : j < m
      · by_cases hk : k = 1
        · have hk1 : (k == 1) = true := by simp [hk]
          have HK := Aside.mk hk
          clear hk
          have HLB : Aside (ns.length + [q0].length ≤ 1073741824) := ⟨by have := HNN.out; simp; omega⟩
          have HLB2 : Aside ((ns ++ [q0]).length = nn + 1) := ⟨by simp [HNN.out]⟩
          have HNS2 : Aside (ns ++ [q0] = if k = 1 then List.replicate (j + 1) q0 else []) := ⟨by rw [HNS.out, if_pos HK.out, if_pos HK.out, List.replicate_succ']⟩
          have HBS2 : Aside (bts = if k = 1 then [] else List.replicate (j + 1) ⟨0, false⟩) := ⟨by rw [HBS.out, if_pos HK.out, if_pos HK.out]⟩
          have HCC : Aside (∀ args w, Sem.run Tryz.prog (callFunc 126 args) w = .ok (.enter 126 args) w) := ⟨by intro args w; simp [go_sem]⟩
          go_wp2_with fail
          have hb1 := hb0.ext ((Ext.refl wr).drew)
          have HROW1 := Aside.mk (HROW.out.ext ((Ext.refl wr).drew))
          go_region_law (first | (refine step_call (F := 126) (args := #[]) (types := #[]) HCC.out rfl rfl #[] (by simp) none_box ?_; rintro e w3 ⟨A4, c4, B4', d4, rfl, hr, he⟩; have hb3w := hb1.ext he; have hb3 := hb1.ext (he.alloc (.cells #[.int .i64 0, .bool false, .slice A4 0 c4, .slice B4' 1 d4] 83)); have hk3 := KZ.ext (((Ext.refl wr).drew.trans he).alloc (.cells #[.int .i64 0, .bool false, .slice A4 0 c4, .slice B4' 1 d4] 83)) hk0; have HROW3 := Aside.mk (HROW1.out.ext (he.alloc (.cells #[.int .i64 0, .bool false, .slice A4 0 c4, .slice B4' 1 d4] 83))); have HRO := Aside.mk hr; have HLR := Aside.mk HROW1.out.lt; refine ⟨_, rfl, ?_⟩; clear hr he) | (refine step_append_so (R := RatO (g + 1)) (W := w3.alloc (.cells #[.int .i64 0, .bool false, .slice A4 0 c4, .slice B4' 1 d4] 83)) (g + 1) elemRat rfl (.tmp 19) (.tmp 21) rfl (.slice NA nn nc) (.slice (some ⟨w3.heap.size, 0, none⟩) 1 1) ns [q0] HROW3.out.nums (one_rat2 (g := w3.heap.size) rfl HRO.out HLR.out) RatO.one (fun _ hg => RatO.grown HROW3.out.nums (by decide) hg) (by simp [Act.eval]) (by simp [Act.eval]) HROW3.out.lt HLB.out ?_; rintro v1 w5 ho hg; obtain ⟨A5, c5, rfl, _⟩ := ho.sv.form; rw [HLB2.out] at ho ⊢; have hbel := Below.grown (Below.refl (g + 1) _) hg HROW3.out.lt HROW3.out.nums.low; have hb5 := hb3.below (Nat.lt_succ_self _) hbel; have hk5 := hk3.below (Below.mono hbel (Nat.le_succ_of_le HROW3.out.lo)); have HROW5 := Aside.mk (HROW3.out.num hg ho); clear ho hg hbel))
          all_goals
            have HB5 := Aside.mk hb5
            have HK5 := Aside.mk hk5
            clear hb0 hb1 hb3 hb3w hk0 hk3
            go_wp2_with fail
            go_roundw
            case rel => exact ⟨j + 1, A5, nn + 1, c5, BA, bn, bc, by omega, by omega, by omega, by go_num, HK5.out.below (Below.setCell (Below.refl _ _) HROW5.out.lo _), HB5.out.put 2 _, ⟨_, bts, HNS2.out, HBS2.out, HLB2.out, HBN.out, HROW5.out.set 2 _⟩⟩
            case measure => simp [intOf]; omega
        · have hk1 : (k == 1) = false := beq_eq_false_iff_ne.2 hk
          have HK := Aside.mk hk
          clear hk
          have HLB : Aside (bts.length + [(⟨0, false⟩ : Bq)].length ≤ 1073741824) := ⟨by have := HBN.out; simp; omega⟩
          have HLB2 : Aside ((bts ++ [(⟨0, false⟩ : Bq)]).length = bn + 1) := ⟨by simp [HBN.out]⟩
          have HNS2 : Aside (ns = if k = 1 then List.replicate (j + 1) q0 else []) := ⟨by rw [HNS.out, if_neg HK.out, if_neg HK.out]⟩
          have HBS2 : Aside (bts ++ [(⟨0, false⟩ : Bq)] = if k = 1 then [] else List.replicate (j + 1) ⟨0, false⟩) := ⟨by rw [HBS.out, if_neg HK.out, if_neg HK.out, List.replicate_succ']⟩
          go_wp2_with (at_builtin; refine append_so (R := BitC) (g + 1) elemBit rfl _ _ rfl _ _ bts [⟨0, false⟩] (HROW.out.ext ((Ext.refl _).alloc (.cells #[.int .i64 0, .bool false] 46))).bits (one_bit (g := wr.heap.size) rfl) BitC.one (fun _ _ _ _ h => h) rfl rfl (HROW.out.ext ((Ext.refl _).alloc (.cells #[.int .i64 0, .bool false] 46))).lt HLB.out ?_; intro v1 w5 ho hg; obtain ⟨A5, c5, rfl, _⟩ := ho.sv.form; rw [HLB2.out] at ho ⊢; have hrow3 := HROW.out.ext ((Ext.refl _).alloc (.cells #[.int .i64 0, .bool false] 46)); have hbel := Below.grown (Below.refl (g + 1) _) hg hrow3.lt hrow3.bits.low; have hb5 := (hb0.ext ((Ext.refl _).alloc (.cells #[.int .i64 0, .bool false] 46))).below (Nat.lt_succ_self _) hbel; have hk5 := (KZ.ext ((Ext.refl _).alloc (.cells #[.int .i64 0, .bool false] 46)) hk0).below (Below.mono hbel (Nat.le_succ_of_le hrow3.lo)); have HROW5 := Aside.mk (hrow3.bit hg ho); clear ho hg hbel hrow3)
          have HB5 := Aside.mk hb5
          have HK5 := Aside.mk hk5
          go_roundw
          case rel => exact ⟨j + 1, NA, nn, nc, A5, bn + 1, c5, by omega, by omega, by omega, by go_num, HK5.out.below (Below.setCell (Below.refl _ _) HROW5.out.lo _), HB5.out.put 3 _, ⟨ns, _, HNS2.out, HBS2.out, HNN.out, HLB2.out, HROW5.out.set 3 _⟩⟩
          case measure => simp [intOf]; omega
      · have hjm : j = m := by omega
        have HZZ : Aside (z = ⟨k, ds, ns, bts⟩) := ⟨by rw [HZQ.out, HNS.out, HBS.out, hjm]⟩
        have HK := Aside.mk hk0
        go_wp2_with fail
        refine bodyPost_ret (v := .agg #[.int .i64 k, .slice A1 nd c1, .slice NA nn nc, .slice BA bn bc]) (by simp [results, Tryz.results87, go_sem, hk0]) rfl ?_
        rw [HZZ.out]
        have hlo := HROW.out.lo
        refine ⟨_, rfl, ⟨_, _, _, rfl, ?_, ?_, ?_⟩, ext_set4 HK.out.1.out (Nat.le_succ _) _ _ _ _⟩
        · exact ((HROW.out.dims.set4 (Nat.lt_succ_self _) _ _ _ _ (fun _ _ _ _ _ _ h => h)).mono (Nat.le_succ_of_le (Nat.le_succ _)))
        · exact ((HROW.out.nums.set4 (by omega) _ _ _ _ (fun w p hp u c a h => RatO.set hp u c a h)).mono (by omega)).monoR (fun _ _ h => h.mono (by omega))
        · exact ((HROW.out.bits.set4 (by omega) _ _ _ _ (fun _ _ _ _ _ _ h => h)).mono (by omega))
theorem sizeR_ok {k : Int} {ds : List Int} {a : Int} (h : sizeR k ds = (a, 0)) : tyOk k ds = true ∧ k ≠ 3 ∧ a = prodI ds := by
  unfold sizeR at h
  split at h
  · rename_i ht
    split at h
    · injection h with _ h; cases h
    · rename_i hk
      injection h with h _
      exact ⟨ht, hk, h.symm⟩
  · injection h with _ h; cases h
end Go.Proofs.YtcbaipnphepbeaaGreatDoor

namespace Go.Proofs.YtcbaipnphepbeaaGreatDoor
open Go.RowKit
attribute [local go_sem ↓] Go.wp_at_zero Go.wp_at_succ

set_option maxRecDepth 10000 in
set_option maxHeartbeats 4000000 in
theorem rCopy_calls {w : World} {v : Value} {q : Rq} (h : RR w v q) :
    Calls Tryz.prog 74 #[v] w fun e w' => ∃ r, e = .returned r ∧ RO w.heap.size w' r q ∧ Ext w w' := by
  obtain ⟨x, y, rfl, hx, hy⟩ := h
  obtain ⟨f, neg, xs, ys⟩ := q
  dsimp only at *
  have HX := Aside.mk hx
  have HY := Aside.mk hy
  obtain ⟨A, ca, rfl, _, hdx, _⟩ := hx
  obtain ⟨B, cb, rfl, _, hdy, _⟩ := hy
  obtain ⟨lx, hx'⟩ : ∃ n, xs.length = n := ⟨_, rfl⟩
  obtain ⟨ly, hy'⟩ : ∃ n, ys.length = n := ⟨_, rfl⟩
  rw [hx'] at HX ⊢
  rw [hy'] at HY ⊢
  have HLX := Aside.mk hx'
  have HLY := Aside.mk hy'
  have HDX := Aside.mk hdx.2
  have HDY := Aside.mk hdy.2
  clear hdx hdy hx' hy'
  have hk0 := (KeepO.init w (.int .i64 f) (.bool neg) (.slice A lx ca) (.slice B ly cb) (.int .i64 0) (.bool false) (.slice none 0 0) (.slice none 0 0) 83 83).ext ((Ext.refl _).drew)
  have tok1 : True := trivial
  have HE0 : Aside (Ext w w) := ⟨Ext.refl w⟩
  go_enter Tryz.func74, Tryz.ntmps74
  go_wp2
  go_region_held3 (fun w' => KeepO w (.int .i64 f) (.bool neg) (.slice A lx ca) (.slice B ly cb) w') (first | assumption | exact KeepO.ext (by assumption) (by assumption) | exact KeepO.ext ((Ext.refl _).alloc _) (by assumption) | exact ((((by assumption : KeepO w (.int .i64 f) (.bool neg) (.slice A lx ca) (.slice B ly cb) _).set _ _).set _ _).set _ _).set _ _) (first | (have _t := tok1; refine step_lit (base := w.heap.size + 2) elemU32 U32C.ext rfl (.tmp 7) (.tmp 9) rfl (.slice A lx ca) xs (by rfl) (by rfl) (lit_at (by (repeat (first | with_reducible refine lit_ext HE0 ?_ | with_reducible refine lit_drew ?_ | ((with_reducible refine lit_new ?_); simp; done) | with_reducible refine lit_old ?_))) (by simp)) (HX.out.ext (Aside.out (And.left (show KeepO w (.int .i64 f) (.bool neg) (.slice A lx ca) (.slice B ly cb) _ from by assumption)))).sw (by simp) ?_; rintro v1 w3 h1 he1; have hk3 := KeepO.ext he1 (show KeepO w (.int .i64 f) (.bool neg) (.slice A lx ca) (.slice B ly cb) _ from by assumption); obtain ⟨A1, c1, rfl, _⟩ := h1.sv.form; rw [HLX.out] at h1 ⊢; have HR1 := Aside.mk h1; have HE1 := Aside.mk he1; have HZ1 := Aside.mk he1.size; clear h1 he1 _t tok1) | (refine step_lit (base := w.heap.size + 2) elemU32 U32C.ext rfl (.tmp 11) (.tmp 13) rfl (.slice B ly cb) ys (by rfl) (by rfl) (lit_at (by (repeat (first | with_reducible refine lit_ext HE1 ?_ | with_reducible refine lit_drew ?_ | ((with_reducible refine lit_new ?_); simp; done) | with_reducible refine lit_old ?_))) (by have := HZ1.out; simp at this ⊢ <;> omega)) (HY.out.ext (Aside.out (And.left (show KeepO w (.int .i64 f) (.bool neg) (.slice A lx ca) (.slice B ly cb) _ from by assumption)))).sw (by have := HZ1.out; simp at this ⊢ <;> omega) ?_; rintro v2 w4 h2 he2; have hk4 := KeepO.ext he2 (show KeepO w (.int .i64 f) (.bool neg) (.slice A lx ca) (.slice B ly cb) _ from by assumption); obtain ⟨A2, c2, rfl, _⟩ := h2.sv.form; rw [HLY.out] at h2 ⊢; have HR2 := Aside.mk h2; have HR1b := Aside.mk (HR1.out.ext U32C.ext (Ext.trans (by (repeat (first | with_reducible exact Ext.refl _ | with_reducible refine Ext.drew ?_ | with_reducible refine Ext.alloc ?_ _))) he2)); clear h2 he2))
  all_goals
    have HK := Aside.mk hk4
    have hz : w.heap.size + 1 < w4.heap.size := World.block_lt_of_cell? _ _ hk4.2.2.1.1
    have HZ := Aside.mk hz
    clear hz
    go_wp2
    refine bodyPost_ret (v := .agg #[.int .i64 f, .bool neg, .slice A1 lx c1, .slice A2 ly c2]) (by simp [results, Tryz.results74, go_sem, hk4]) rfl ⟨_, rfl, ⟨_, _, rfl, ?_, ?_⟩, ext_set4 HK.out.1.out (Nat.le_succ _) _ _ _ _⟩
    · have h1 := HR1b.out.ov HDX.out
      exact (((h1.set4 (Nat.lt_succ_self _) _ _ _ _)).mono (by omega))
    · have h2 := HR2.out.ov HDY.out
      exact (((h2.set4 (Nat.lt_succ_self _) _ _ _ _)).mono (by omega))
end Go.Proofs.YtcbaipnphepbeaaGreatDoor

namespace Go.Proofs.YtcbaipnphepbeaaGreatDoor
open Go.RowKit
attribute [local go_sem ↓] Go.wp_at_zero Go.wp_at_succ

end Go.Proofs.YtcbaipnphepbeaaGreatDoor
