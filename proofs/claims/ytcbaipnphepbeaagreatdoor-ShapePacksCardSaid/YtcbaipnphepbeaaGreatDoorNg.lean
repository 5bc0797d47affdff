/- Contract of frac.Parse. Contracts of frac.digits and frac.Decimal. Contract of frac.Decimal. What every right program knows of a few numbers: fluxionlaw02.alive returns true. The law FracMakes: it returns true. Boxes of a law: what a region that draws, calls, makes variables and stores leaves. A region whose operations come in any order the edges allow: one invariant, each operation once. -/
import Derived.Test.YtcbaipnphepbeaaGreatDoorNf
import Derived.Test.YtcbaipnphepbeaaGreatDoorShelf
import Derived.Shelf.Strings.SlTrimAscii
import Derived.Test.YtcbaipnphepbeaaGreatDoorNe
import Derived.Deep.RegionHeld
import Derived.Deep.DeepCutAuto
namespace Go.Proofs.YtcbaipnphepbeaaGreatDoor
open Go.RowKit

/-- What Parse makes of the parts of a text. -/
def fparts (neg : Bool) (above : List UInt8) (two : Bool) (below : List UInt8) : Rq × Int :=
  if perr above ≠ 0 ∨ perr below ≠ 0 ∨ dval below = 0 ∨ (two = true ∧ below = [49]) then (fq 0, 5)
  else if okq ⟨0, neg, dig (dval above), dig (dval below)⟩ then (⟨0, neg, dig (dval above), dig (dval below)⟩, 0) else (fq 0, 5)
/-- What Parse returns. -/
def fparse (l : List UInt8) : Rq × Int :=
  if 4900 < l.length then (fq 0, 3)
  else if l = rangeB.data.toList then (fq 4, 0)
  else if l = zeroB.data.toList then (fq 11, 0)
  else fparts (Lib.hasPrefix l [45]) (Lib.cut (Lib.trimPrefix l [45]) [47]).1 (Lib.cut (Lib.trimPrefix l [45]) [47]).2.2 (if (Lib.cut (Lib.trimPrefix l [45]) [47]).2.2 then (Lib.cut (Lib.trimPrefix l [45]) [47]).2.1 else [49])

theorem RR.mk4 {w : World} {f : Int} {neg : Bool} {x y : Value} {xs ys : List Nat} (hx : RV w x xs) (hy : RV w y ys) : RR w (.agg #[.int .i64 f, .bool neg, x, y]) ⟨f, neg, xs, ys⟩ := ⟨x, y, rfl, hx, hy⟩
theorem toList_beq {s t : ByteArray} : (s.toList == t.toList) = decide (s.data.toList = t.data.toList) := by
  rw [Lib.toList_data, Lib.toList_data]
  by_cases h : s.data.toList = t.data.toList
  · rw [h]; simp
  · rw [decide_eq_false h]; exact beq_eq_false_iff_ne.2 h

set_option maxRecDepth 10000 in
set_option maxHeartbeats 4000000 in
theorem parse_early {w : World} {s : ByteArray} (hg : Glob w) (hs : s.size ≤ 1073741824) {m : Rq × Int} (hm : fparse s.data.toList = m)
    (hc : 4900 < s.size ∨ s.data.toList = rangeB.data.toList ∨ s.data.toList = zeroB.data.toList) :
    Calls Tryz.prog 77 #[.string s] w fun e w' => ∃ r, e = .returned (.tuple #[r, .int .i64 m.2]) ∧ RO w.heap.size w' r m.1 ∧ Ext w w' := by
  have hsz : s.data.toList.length = s.size := (Lib.size_eq s).symm
  have HG := Aside.mk hg
  have hk0 := Keep4.init (Ext.refl w) (.int .i64 0) (.bool false) (.slice none 0 0) (.slice none 0 0) 83
  have i0 := told0
  have i1 := told1
  clear hg
  by_cases h49 : 4900 < s.size
  · have HM : Aside (m = (fq 0, 3)) := ⟨by rw [← hm]; unfold fparse; rw [if_pos (by omega)]⟩
    rw [HM.out]
    have HK := Aside.mk hk0
    clear hsz hm hc hk0
    go_enter Tryz.func77, Tryz.ntmps77
    go_wp2
    refine bodyPost_ret (v := .tuple #[.agg #[.int .i64 0, .bool false, .slice none 0 0, .slice none 0 0], .int .i64 3]) (by simp [results, Tryz.results77, go_sem]) rfl ⟨_, rfl, RO.fq _ _ _, HK.out.1.out⟩
  · by_cases hr : s.data.toList = rangeB.data.toList
    · have HM : Aside (m = (fq 4, 0)) := ⟨by rw [← hm]; unfold fparse; rw [if_neg (by omega), if_pos hr]⟩
      have heq : (s.toList == rangeB.toList) = true := by rw [toList_beq]; simp [hr]
      rw [HM.out]
      clear hsz hm hc hr
      go_enter Tryz.func77, Tryz.ntmps77
      go_wp2_with (refine load_told rfl _ rfl rfl (HG.out.ext hk0.1.out) ?_)
      go_loopw [21] (fun i wr => i = .int .i64 0 ∧ Keep4 w w.heap.size wr) (fun i _ => 2 - (intOf i).toNat)
      case atStart => exact ⟨rfl, hk0⟩
      case round =>
        obtain ⟨rfl, hk1⟩ := hrel
        have hk2 := Keep4.ext ((Ext.refl wr).alloc (.cells #[.string rangeB, .int .i64 4] 142)) hk1
        clear hk0 hk1
        go_wp2_with (go_at_call 115; refine fault_calls.mono ?_; rintro e w4 ⟨rfl, he⟩; have hk4 := Keep4.ext he hk2; clear hk2 he)
        have HK := Aside.mk hk4
        refine bodyPost_ret (v := .tuple #[.agg #[.int .i64 4, .bool false, .slice none 0 0, .slice none 0 0], .int .i64 0]) (by simp [results, Tryz.results77, go_sem, hk4]) rfl ⟨_, rfl, RO.fq _ _ _, ext_set4 HK.out.1.out (Nat.le_refl _) _ _ _ _⟩
    · have hz : s.data.toList = zeroB.data.toList := by rcases hc with h | h | h <;> first | exact absurd h h49 | exact absurd h hr | exact h
      have HM : Aside (m = (fq 11, 0)) := ⟨by rw [← hm]; unfold fparse; rw [if_neg (by omega), if_neg hr, if_pos hz]⟩
      have heq : (s.toList == rangeB.toList) = false := by rw [toList_beq]; simp [hr]
      have heq2 : (s.toList == zeroB.toList) = true := by rw [toList_beq]; simp [hz]
      rw [HM.out]
      clear hsz hm hc hr hz
      go_enter Tryz.func77, Tryz.ntmps77
      go_wp2_with (refine load_told rfl _ rfl rfl (HG.out.ext hk0.1.out) ?_)
      go_loopw [21] (fun i wr => ∃ (k : Nat), k ≤ 1 ∧ i = .int .i64 (k : Int) ∧ Keep4 w w.heap.size wr) (fun i _ => 2 - (intOf i).toNat)
      case atStart => exact ⟨0, by omega, rfl, hk0⟩
      case round =>
        obtain ⟨k, hk, rfl, hk1⟩ := hrel
        obtain rfl | rfl : k = 0 ∨ k = 1 := by omega
        · have hk2 := Keep4.ext ((Ext.refl wr).alloc (.cells #[.string rangeB, .int .i64 4] 142)) hk1
          clear hk0 hk1
          go_wp2
          go_roundw
          case rel => exact ⟨1, by omega, rfl, hk2⟩
          case measure => simp [intOf]
        · have hk2 := Keep4.ext ((Ext.refl wr).alloc (.cells #[.string zeroB, .int .i64 11] 142)) hk1
          clear hk0 hk1
          go_wp2_with (go_at_call 115; refine fault_calls.mono ?_; rintro e w4 ⟨rfl, he⟩; have hk4 := Keep4.ext he hk2; clear hk2 he)
          have HK := Aside.mk hk4
          refine bodyPost_ret (v := .tuple #[.agg #[.int .i64 11, .bool false, .slice none 0 0, .slice none 0 0], .int .i64 0]) (by simp [results, Tryz.results77, go_sem, hk4]) rfl ⟨_, rfl, RO.fq _ _ _, ext_set4 HK.out.1.out (Nat.le_refl _) _ _ _ _⟩

theorem mk_toList {l : List UInt8} : (⟨l.toArray⟩ : ByteArray).data.toList = l := rfl
theorem mk_size {l : List UInt8} : (⟨l.toArray⟩ : ByteArray).size = l.length := by rw [Lib.size_eq]
theorem cut_len (l sep : List UInt8) : (Lib.cut l sep).1.length ≤ l.length ∧ (Lib.cut l sep).2.1.length ≤ l.length := by
  unfold Lib.cut
  split
  · simp only [List.length_take, List.length_drop]; omega
  · simp
theorem trimPrefix_len (l p : List UInt8) : (Lib.trimPrefix l p).length ≤ l.length := Lib.trimPrefix_le l p
set_option maxRecDepth 10000 in
set_option maxHeartbeats 4000000 in
theorem parse_main {w : World} {s : ByteArray} (hg : Glob w) {m : Rq × Int} (hm : fparse s.data.toList = m)
    (h49 : ¬ 4900 < s.size) (hr : s.data.toList ≠ rangeB.data.toList) (hz : s.data.toList ≠ zeroB.data.toList) :
    Calls Tryz.prog 77 #[.string s] w fun e w' => ∃ r, e = .returned (.tuple #[r, .int .i64 m.2]) ∧ RO w.heap.size w' r m.1 ∧ Ext w w' := by
  have hsz : s.data.toList.length = s.size := (Lib.size_eq s).symm
  have HG := Aside.mk hg
  have hk0 := Keep4.init (Ext.refl w) (.int .i64 0) (.bool false) (.slice none 0 0) (.slice none 0 0) 83
  have i0 := told0
  have i1 := told1
  have heq : (s.toList == rangeB.toList) = false := by rw [toList_beq]; simp [hr]
  have heq2 : (s.toList == zeroB.toList) = false := by rw [toList_beq]; simp [hz]
  unfold fparse at hm
  rw [if_neg (by omega), if_neg hr, if_neg hz] at hm
  obtain ⟨s1, hs1⟩ : ∃ s1 : ByteArray, (⟨(Lib.trimPrefix s.data.toList (⟨#[45]⟩ : ByteArray).data.toList).toArray⟩ : ByteArray) = s1 := ⟨_, rfl⟩
  obtain ⟨nb, hnb⟩ : ∃ nb, Lib.hasPrefix s.data.toList (⟨#[45]⟩ : ByteArray).data.toList = nb := ⟨_, rfl⟩
  have hs1l : Lib.trimPrefix s.data.toList [45] = s1.data.toList := by rw [← hs1]
  have hl1 : s1.size ≤ 4900 := by
    rw [← hs1, mk_size]
    have := trimPrefix_len s.data.toList [45]
    show (Lib.trimPrefix s.data.toList [45]).length ≤ 4900
    omega
  rw [show Lib.hasPrefix s.data.toList [45] = nb from hnb, hs1l] at hm
  obtain ⟨s2, hs2⟩ : ∃ s2 : ByteArray, (⟨(Lib.cut s1.data.toList (⟨#[47]⟩ : ByteArray).data.toList).1.toArray⟩ : ByteArray) = s2 := ⟨_, rfl⟩
  obtain ⟨s3, hs3⟩ : ∃ s3 : ByteArray, (⟨(Lib.cut s1.data.toList (⟨#[47]⟩ : ByteArray).data.toList).2.1.toArray⟩ : ByteArray) = s3 := ⟨_, rfl⟩
  obtain ⟨tw, htw⟩ : ∃ tw, (Lib.cut s1.data.toList (⟨#[47]⟩ : ByteArray).data.toList).2.2 = tw := ⟨_, rfl⟩
  have hs2l : (Lib.cut s1.data.toList [47]).1 = s2.data.toList := by rw [← hs2]
  have hs3l : (Lib.cut s1.data.toList [47]).2.1 = s3.data.toList := by rw [← hs3]
  have hcl := cut_len s1.data.toList [47]
  rw [hs2l, hs3l, ← Lib.size_eq, ← Lib.size_eq, ← Lib.size_eq] at hcl
  rw [hs2l, hs3l, show (Lib.cut s1.data.toList [47]).2.2 = tw from htw] at hm
  have HS1 := Aside.mk hs1
  have HNB := Aside.mk hnb
  have HS2 := Aside.mk hs2
  have HS3 := Aside.mk hs3
  have HTW := Aside.mk htw
  have HL1 : Aside (s1.size < 4294967281) := ⟨by omega⟩
  have HL2 : Aside (s2.size ≤ 1073741824) := ⟨by omega⟩
  have HL3 : Aside (s3.size ≤ 1073741824) := ⟨by omega⟩
  clear hg hr hz hs1 hnb hs1l hs2 hs3 htw hs2l hs3l hsz hl1 hcl
  obtain ⟨e1, he1⟩ : ∃ e, perr s2.data.toList = e := ⟨_, rfl⟩
  obtain ⟨xs1, hx1⟩ : ∃ x, pdig s2.data.toList = x := ⟨_, rfl⟩
  have HE1 := Aside.mk he1
  have HP1 := Aside.mk hx1
  generalize hsb : (if tw = true then s3.data.toList else [49]) = lb at hm
  have HLB : Aside (tw = false → lb = [49]) := ⟨fun h => by rw [← hsb, h]; rfl⟩
  have HLT : Aside (tw = true → lb = s3.data.toList) := ⟨fun h => by rw [← hsb, h]; rfl⟩
  obtain ⟨e2, he2⟩ : ∃ e, perr lb = e := ⟨_, rfl⟩
  obtain ⟨xs2, hq2⟩ : ∃ x, pdig lb = x := ⟨_, rfl⟩
  clear hsb
  by_cases h1 : e1 = 0
  · subst h1
    by_cases h2 : e2 = 0
    · subst h2
      rw [pdig_ok he1] at hx1
      have hx2 := hq2
      rw [pdig_ok he2] at hx2
      by_cases h3 : dval lb = 0
      · have HM : Aside (m = (fq 0, 5)) := ⟨by rw [← hm]; unfold fparts; rw [if_pos (.inr (.inr (.inl h3)))]⟩
        have hx2' : xs2 = [] := by rw [← hx2, h3, dig_zero]
        subst hx2'
        rw [HM.out]
        clear hm he1 h3 hx1 hx2
        cases tw
        · have HE2 : Aside (perr (⟨#[49]⟩ : ByteArray).data.toList = _) := ⟨(congrArg perr (HLB.out rfl).symm).trans he2⟩
          have HP2 : Aside (pdig (⟨#[49]⟩ : ByteArray).data.toList = _) := ⟨(congrArg pdig (HLB.out rfl).symm).trans hq2⟩
          have HL4 : Aside ((⟨#[49]⟩ : ByteArray).size ≤ 1073741824) := ⟨by decide⟩
          clear he2 hq2
          go_enter Tryz.func77, Tryz.ntmps77
          go_wp2_with (refine load_told rfl _ rfl rfl (HG.out.ext hk0.1.out) ?_)
          go_loopw [21] (fun i wr => ∃ (j : Nat), j ≤ 2 ∧ i = .int .i64 (j : Int) ∧ Keep4 w w.heap.size wr) (fun i _ => 2 - (intOf i).toNat)
          case atStart => exact ⟨0, by omega, rfl, hk0⟩
          case round =>
            obtain ⟨j, hj, rfl, hk1⟩ := hrel
            obtain rfl | rfl | rfl : j = 0 ∨ j = 1 ∨ j = 2 := by omega
            · have hk2 := Keep4.ext ((Ext.refl wr).alloc (.cells #[.string rangeB, .int .i64 4] 142)) hk1
              clear hk0 hk1
              go_wp2
              go_roundw
              case rel => exact ⟨1, by omega, rfl, hk2⟩
              case measure => simp [intOf]
            · have hk2 := Keep4.ext ((Ext.refl wr).alloc (.cells #[.string zeroB, .int .i64 11] 142)) hk1
              clear hk0 hk1
              go_wp2
              go_roundw
              case rel => exact ⟨2, by omega, rfl, hk2⟩
              case measure => simp [intOf]
            · clear hk0
              go_wp2_with (first | (go_at_call 78; refine (Tryz.strings_CutPrefix s ⟨#[45]⟩ _).mono ?_; rintro e w2 ⟨rfl, hw⟩; rw [hw, HS1.out, HNB.out]; clear hw) | (go_at_call 116; refine (Tryz.strings_Cut s1 ⟨#[47]⟩ _ _ HL1.out (Classical.choose_spec (HG.out.ext hk1.1.out).c4)).mono ?_; rintro e w3 ⟨rfl, hw⟩; rw [HS2.out, HS3.out, HTW.out]; have hk2 := Keep4.ext (Ext.of_drewN hw) hk1; clear hk1 hw) | (go_at_call 117; with_reducible refine (Parse_calls HL2.out).mono ?_; rintro e w4 ⟨r1, rfl, hr, he⟩; have hk3 := Keep4.ext he hk2; have HW2 := Aside.mk (World.block_lt_of_cell? _ _ hk2.2.1.1); rw [HP1.out] at hr; rw [HE1.out]; have HR1 := Aside.mk hr; obtain ⟨A1, c1, rfl, _⟩ := hr.form; clear hk2 hr he) | (go_at_call 117; with_reducible refine (Parse_calls HL4.out).mono ?_; rintro e w5 ⟨r2, rfl, hr, he⟩; have hk4 := Keep4.ext he hk3; have HW4 := Aside.mk he; have HW3 := Aside.mk (World.block_lt_of_cell? _ _ hk3.2.1.1); rw [HP2.out] at hr; rw [HE2.out]; have HR2 := Aside.mk hr; obtain ⟨A2, c2, rfl, _⟩ := hr.form; clear hk3 hr he) | (go_at_call 61; with_reducible refine (israt_b (q := ⟨0, nb, xs1, xs2⟩) ?h HOK.out).mono ?_; (case h => exact RR.mk4 (HR1.out.rv.ext (HW4.out.trans ((Ext.refl _).alloc _))) (HR2.out.rv.ext ((Ext.refl _).alloc _))); rintro e w6 ⟨rfl, he⟩; have hk5 := Keep4.ext he (Keep4.ext ((Ext.refl w5).alloc (.cells #[.int .i64 0, .bool nb, .slice A1 xs1.length c1, .slice A2 xs2.length c2] 83)) hk4); have hb5 := KeepB.ext he (KeepB.init w5 (.int .i64 0) (.bool nb) (.slice A1 xs1.length c1) (.slice A2 xs2.length c2) 83); clear hk4 he))
              have HK := Aside.mk hk4
              refine bodyPost_ret (v := .tuple #[.agg #[.int .i64 0, .bool false, .slice none 0 0, .slice none 0 0], .int .i64 5]) (by simp [results, Tryz.results77, go_sem, hk4]) rfl ⟨_, rfl, RO.fq _ _ _, ext_set4 HK.out.1.out (Nat.le_refl _) _ _ _ _⟩
        · have HE2 : Aside (perr s3.data.toList = _) := ⟨(congrArg perr (HLT.out rfl).symm).trans he2⟩
          have HP2 : Aside (pdig s3.data.toList = _) := ⟨(congrArg pdig (HLT.out rfl).symm).trans hq2⟩
          have HL4 := HL3
          clear he2 hq2
          go_enter Tryz.func77, Tryz.ntmps77
          go_wp2_with (refine load_told rfl _ rfl rfl (HG.out.ext hk0.1.out) ?_)
          go_loopw [21] (fun i wr => ∃ (j : Nat), j ≤ 2 ∧ i = .int .i64 (j : Int) ∧ Keep4 w w.heap.size wr) (fun i _ => 2 - (intOf i).toNat)
          case atStart => exact ⟨0, by omega, rfl, hk0⟩
          case round =>
            obtain ⟨j, hj, rfl, hk1⟩ := hrel
            obtain rfl | rfl | rfl : j = 0 ∨ j = 1 ∨ j = 2 := by omega
            · have hk2 := Keep4.ext ((Ext.refl wr).alloc (.cells #[.string rangeB, .int .i64 4] 142)) hk1
              clear hk0 hk1
              go_wp2
              go_roundw
              case rel => exact ⟨1, by omega, rfl, hk2⟩
              case measure => simp [intOf]
            · have hk2 := Keep4.ext ((Ext.refl wr).alloc (.cells #[.string zeroB, .int .i64 11] 142)) hk1
              clear hk0 hk1
              go_wp2
              go_roundw
              case rel => exact ⟨2, by omega, rfl, hk2⟩
              case measure => simp [intOf]
            · clear hk0
              go_wp2_with (first | (go_at_call 78; refine (Tryz.strings_CutPrefix s ⟨#[45]⟩ _).mono ?_; rintro e w2 ⟨rfl, hw⟩; rw [hw, HS1.out, HNB.out]; clear hw) | (go_at_call 116; refine (Tryz.strings_Cut s1 ⟨#[47]⟩ _ _ HL1.out (Classical.choose_spec (HG.out.ext hk1.1.out).c4)).mono ?_; rintro e w3 ⟨rfl, hw⟩; rw [HS2.out, HS3.out, HTW.out]; have hk2 := Keep4.ext (Ext.of_drewN hw) hk1; clear hk1 hw) | (go_at_call 117; with_reducible refine (Parse_calls HL2.out).mono ?_; rintro e w4 ⟨r1, rfl, hr, he⟩; have hk3 := Keep4.ext he hk2; have HW2 := Aside.mk (World.block_lt_of_cell? _ _ hk2.2.1.1); rw [HP1.out] at hr; rw [HE1.out]; have HR1 := Aside.mk hr; obtain ⟨A1, c1, rfl, _⟩ := hr.form; clear hk2 hr he) | (go_at_call 117; with_reducible refine (Parse_calls HL4.out).mono ?_; rintro e w5 ⟨r2, rfl, hr, he⟩; have hk4 := Keep4.ext he hk3; have HW4 := Aside.mk he; have HW3 := Aside.mk (World.block_lt_of_cell? _ _ hk3.2.1.1); rw [HP2.out] at hr; rw [HE2.out]; have HR2 := Aside.mk hr; obtain ⟨A2, c2, rfl, _⟩ := hr.form; clear hk3 hr he) | (go_at_call 61; with_reducible refine (israt_b (q := ⟨0, nb, xs1, xs2⟩) ?h HOK.out).mono ?_; (case h => exact RR.mk4 (HR1.out.rv.ext (HW4.out.trans ((Ext.refl _).alloc _))) (HR2.out.rv.ext ((Ext.refl _).alloc _))); rintro e w6 ⟨rfl, he⟩; have hk5 := Keep4.ext he (Keep4.ext ((Ext.refl w5).alloc (.cells #[.int .i64 0, .bool nb, .slice A1 xs1.length c1, .slice A2 xs2.length c2] 83)) hk4); have hb5 := KeepB.ext he (KeepB.init w5 (.int .i64 0) (.bool nb) (.slice A1 xs1.length c1) (.slice A2 xs2.length c2) 83); clear hk4 he))
              have HK := Aside.mk hk4
              refine bodyPost_ret (v := .tuple #[.agg #[.int .i64 0, .bool false, .slice none 0 0, .slice none 0 0], .int .i64 5]) (by simp [results, Tryz.results77, go_sem, hk4]) rfl ⟨_, rfl, RO.fq _ _ _, ext_set4 HK.out.1.out (Nat.le_refl _) _ _ _ _⟩
      · have hd3 : (((xs2.length : Nat) : Int) == 0) = false := beq_eq_false_iff_ne.2 (by
          intro h
          apply h3
          exact dig_nil_iff.1 (by rw [hx2]; exact List.eq_nil_of_length_eq_zero (by omega)))
        by_cases h4 : tw = true ∧ lb = [49]
        · have HM : Aside (m = (fq 0, 5)) := ⟨by rw [← hm]; unfold fparts; rw [if_pos (.inr (.inr (.inr h4)))]⟩
          obtain ⟨h4a, h4b⟩ := h4
          subst h4a
          have HE2 : Aside (perr s3.data.toList = _) := ⟨(congrArg perr (HLT.out rfl).symm).trans he2⟩
          have HP2 : Aside (pdig s3.data.toList = _) := ⟨(congrArg pdig (HLT.out rfl).symm).trans hq2⟩
          have HL4 := HL3
          have hs3 : (s3.toList == [49]) = true := by rw [Lib.toList_data, ← HLT.out rfl, h4b]; rfl
          rw [HM.out]
          clear hm he1 h3 h4b hx1 he2 hx2
          go_enter Tryz.func77, Tryz.ntmps77
          go_wp2_with (refine load_told rfl _ rfl rfl (HG.out.ext hk0.1.out) ?_)
          go_loopw [21] (fun i wr => ∃ (j : Nat), j ≤ 2 ∧ i = .int .i64 (j : Int) ∧ Keep4 w w.heap.size wr) (fun i _ => 2 - (intOf i).toNat)
          case atStart => exact ⟨0, by omega, rfl, hk0⟩
          case round =>
            obtain ⟨j, hj, rfl, hk1⟩ := hrel
            obtain rfl | rfl | rfl : j = 0 ∨ j = 1 ∨ j = 2 := by omega
            · have hk2 := Keep4.ext ((Ext.refl wr).alloc (.cells #[.string rangeB, .int .i64 4] 142)) hk1
              clear hk0 hk1
              go_wp2
              go_roundw
              case rel => exact ⟨1, by omega, rfl, hk2⟩
              case measure => simp [intOf]
            · have hk2 := Keep4.ext ((Ext.refl wr).alloc (.cells #[.string zeroB, .int .i64 11] 142)) hk1
              clear hk0 hk1
              go_wp2
              go_roundw
              case rel => exact ⟨2, by omega, rfl, hk2⟩
              case measure => simp [intOf]
            · clear hk0
              go_wp2_with (first | (go_at_call 78; refine (Tryz.strings_CutPrefix s ⟨#[45]⟩ _).mono ?_; rintro e w2 ⟨rfl, hw⟩; rw [hw, HS1.out, HNB.out]; clear hw) | (go_at_call 116; refine (Tryz.strings_Cut s1 ⟨#[47]⟩ _ _ HL1.out (Classical.choose_spec (HG.out.ext hk1.1.out).c4)).mono ?_; rintro e w3 ⟨rfl, hw⟩; rw [HS2.out, HS3.out, HTW.out]; have hk2 := Keep4.ext (Ext.of_drewN hw) hk1; clear hk1 hw) | (go_at_call 117; with_reducible refine (Parse_calls HL2.out).mono ?_; rintro e w4 ⟨r1, rfl, hr, he⟩; have hk3 := Keep4.ext he hk2; have HW2 := Aside.mk (World.block_lt_of_cell? _ _ hk2.2.1.1); rw [HP1.out] at hr; rw [HE1.out]; have HR1 := Aside.mk hr; obtain ⟨A1, c1, rfl, _⟩ := hr.form; clear hk2 hr he) | (go_at_call 117; with_reducible refine (Parse_calls HL4.out).mono ?_; rintro e w5 ⟨r2, rfl, hr, he⟩; have hk4 := Keep4.ext he hk3; have HW4 := Aside.mk he; have HW3 := Aside.mk (World.block_lt_of_cell? _ _ hk3.2.1.1); rw [HP2.out] at hr; rw [HE2.out]; have HR2 := Aside.mk hr; obtain ⟨A2, c2, rfl, _⟩ := hr.form; clear hk3 hr he) | (go_at_call 61; with_reducible refine (israt_b (q := ⟨0, nb, xs1, xs2⟩) ?h HOK.out).mono ?_; (case h => exact RR.mk4 (HR1.out.rv.ext (HW4.out.trans ((Ext.refl _).alloc _))) (HR2.out.rv.ext ((Ext.refl _).alloc _))); rintro e w6 ⟨rfl, he⟩; have hk5 := Keep4.ext he (Keep4.ext ((Ext.refl w5).alloc (.cells #[.int .i64 0, .bool nb, .slice A1 xs1.length c1, .slice A2 xs2.length c2] 83)) hk4); have hb5 := KeepB.ext he (KeepB.init w5 (.int .i64 0) (.bool nb) (.slice A1 xs1.length c1) (.slice A2 xs2.length c2) 83); clear hk4 he))
              have HK := Aside.mk hk4
              refine bodyPost_ret (v := .tuple #[.agg #[.int .i64 0, .bool false, .slice none 0 0, .slice none 0 0], .int .i64 5]) (by simp [results, Tryz.results77, go_sem, hk4]) rfl ⟨_, rfl, RO.fq _ _ _, ext_set4 HK.out.1.out (Nat.le_refl _) _ _ _ _⟩
        · rw [fparts, if_neg (by rw [he1, he2]; rintro (h | h | h | h) <;> first | exact absurd rfl h | exact h3 h | exact h4 h), hx1, hx2] at hm
          cases hok : okq ⟨0, nb, xs1, xs2⟩
          · have HOK := Aside.mk hok
            have HM : Aside (m = (fq 0, 5)) := ⟨by rw [← hm, hok]; rfl⟩
            rw [HM.out]
            clear hm he1 h3 hx1 hx2 hok
            cases tw
            · have HE2 : Aside (perr (⟨#[49]⟩ : ByteArray).data.toList = _) := ⟨(congrArg perr (HLB.out rfl).symm).trans he2⟩
              have HP2 : Aside (pdig (⟨#[49]⟩ : ByteArray).data.toList = _) := ⟨(congrArg pdig (HLB.out rfl).symm).trans hq2⟩
              have HL4 : Aside ((⟨#[49]⟩ : ByteArray).size ≤ 1073741824) := ⟨by decide⟩
              clear he2 hq2 h4
              go_enter Tryz.func77, Tryz.ntmps77
              go_wp2_with (refine load_told rfl _ rfl rfl (HG.out.ext hk0.1.out) ?_)
              go_loopw [21] (fun i wr => ∃ (j : Nat), j ≤ 2 ∧ i = .int .i64 (j : Int) ∧ Keep4 w w.heap.size wr) (fun i _ => 2 - (intOf i).toNat)
              case atStart => exact ⟨0, by omega, rfl, hk0⟩
              case round =>
                obtain ⟨j, hj, rfl, hk1⟩ := hrel
                obtain rfl | rfl | rfl : j = 0 ∨ j = 1 ∨ j = 2 := by omega
                · have hk2 := Keep4.ext ((Ext.refl wr).alloc (.cells #[.string rangeB, .int .i64 4] 142)) hk1
                  clear hk0 hk1
                  go_wp2
                  go_roundw
                  case rel => exact ⟨1, by omega, rfl, hk2⟩
                  case measure => simp [intOf]
                · have hk2 := Keep4.ext ((Ext.refl wr).alloc (.cells #[.string zeroB, .int .i64 11] 142)) hk1
                  clear hk0 hk1
                  go_wp2
                  go_roundw
                  case rel => exact ⟨2, by omega, rfl, hk2⟩
                  case measure => simp [intOf]
                · clear hk0
                  go_wp2_with (first | (go_at_call 78; refine (Tryz.strings_CutPrefix s ⟨#[45]⟩ _).mono ?_; rintro e w2 ⟨rfl, hw⟩; rw [hw, HS1.out, HNB.out]; clear hw) | (go_at_call 116; refine (Tryz.strings_Cut s1 ⟨#[47]⟩ _ _ HL1.out (Classical.choose_spec (HG.out.ext hk1.1.out).c4)).mono ?_; rintro e w3 ⟨rfl, hw⟩; rw [HS2.out, HS3.out, HTW.out]; have hk2 := Keep4.ext (Ext.of_drewN hw) hk1; clear hk1 hw) | (go_at_call 117; with_reducible refine (Parse_calls HL2.out).mono ?_; rintro e w4 ⟨r1, rfl, hr, he⟩; have hk3 := Keep4.ext he hk2; have HW2 := Aside.mk (World.block_lt_of_cell? _ _ hk2.2.1.1); rw [HP1.out] at hr; rw [HE1.out]; have HR1 := Aside.mk hr; obtain ⟨A1, c1, rfl, _⟩ := hr.form; clear hk2 hr he) | (go_at_call 117; with_reducible refine (Parse_calls HL4.out).mono ?_; rintro e w5 ⟨r2, rfl, hr, he⟩; have hk4 := Keep4.ext he hk3; have HW4 := Aside.mk he; have HW3 := Aside.mk (World.block_lt_of_cell? _ _ hk3.2.1.1); rw [HP2.out] at hr; rw [HE2.out]; have HR2 := Aside.mk hr; obtain ⟨A2, c2, rfl, _⟩ := hr.form; clear hk3 hr he) | (go_at_call 61; with_reducible refine (israt_b (q := ⟨0, nb, xs1, xs2⟩) ?h HOK.out).mono ?_; (case h => exact RR.mk4 (HR1.out.rv.ext (HW4.out.trans ((Ext.refl _).alloc _))) (HR2.out.rv.ext ((Ext.refl _).alloc _))); rintro e w6 ⟨rfl, he⟩; have hk5 := Keep4.ext he (Keep4.ext ((Ext.refl w5).alloc (.cells #[.int .i64 0, .bool nb, .slice A1 xs1.length c1, .slice A2 xs2.length c2] 83)) hk4); have hb5 := KeepB.ext he (KeepB.init w5 (.int .i64 0) (.bool nb) (.slice A1 xs1.length c1) (.slice A2 xs2.length c2) 83); clear hk4 he))
                  have HK := Aside.mk hk5
                  refine bodyPost_ret (v := .tuple #[.agg #[.int .i64 0, .bool false, .slice none 0 0, .slice none 0 0], .int .i64 5]) (by simp [results, Tryz.results77, go_sem, hk5]) rfl ⟨_, rfl, RO.fq _ _ _, ext_set4 HK.out.1.out (Nat.le_refl _) _ _ _ _⟩
            · have HE2 : Aside (perr s3.data.toList = _) := ⟨(congrArg perr (HLT.out rfl).symm).trans he2⟩
              have HP2 : Aside (pdig s3.data.toList = _) := ⟨(congrArg pdig (HLT.out rfl).symm).trans hq2⟩
              have HL4 := HL3
              have hs3 : (s3.toList == [49]) = false := by
                rw [Lib.toList_data, ← HLT.out rfl]; exact beq_eq_false_iff_ne.2 (fun h => h4 ⟨rfl, h⟩)
              clear he2 hq2 h4
              go_enter Tryz.func77, Tryz.ntmps77
              go_wp2_with (refine load_told rfl _ rfl rfl (HG.out.ext hk0.1.out) ?_)
              go_loopw [21] (fun i wr => ∃ (j : Nat), j ≤ 2 ∧ i = .int .i64 (j : Int) ∧ Keep4 w w.heap.size wr) (fun i _ => 2 - (intOf i).toNat)
              case atStart => exact ⟨0, by omega, rfl, hk0⟩
              case round =>
                obtain ⟨j, hj, rfl, hk1⟩ := hrel
                obtain rfl | rfl | rfl : j = 0 ∨ j = 1 ∨ j = 2 := by omega
                · have hk2 := Keep4.ext ((Ext.refl wr).alloc (.cells #[.string rangeB, .int .i64 4] 142)) hk1
                  clear hk0 hk1
                  go_wp2
                  go_roundw
                  case rel => exact ⟨1, by omega, rfl, hk2⟩
                  case measure => simp [intOf]
                · have hk2 := Keep4.ext ((Ext.refl wr).alloc (.cells #[.string zeroB, .int .i64 11] 142)) hk1
                  clear hk0 hk1
                  go_wp2
                  go_roundw
                  case rel => exact ⟨2, by omega, rfl, hk2⟩
                  case measure => simp [intOf]
                · clear hk0
                  go_wp2_with (first | (go_at_call 78; refine (Tryz.strings_CutPrefix s ⟨#[45]⟩ _).mono ?_; rintro e w2 ⟨rfl, hw⟩; rw [hw, HS1.out, HNB.out]; clear hw) | (go_at_call 116; refine (Tryz.strings_Cut s1 ⟨#[47]⟩ _ _ HL1.out (Classical.choose_spec (HG.out.ext hk1.1.out).c4)).mono ?_; rintro e w3 ⟨rfl, hw⟩; rw [HS2.out, HS3.out, HTW.out]; have hk2 := Keep4.ext (Ext.of_drewN hw) hk1; clear hk1 hw) | (go_at_call 117; with_reducible refine (Parse_calls HL2.out).mono ?_; rintro e w4 ⟨r1, rfl, hr, he⟩; have hk3 := Keep4.ext he hk2; have HW2 := Aside.mk (World.block_lt_of_cell? _ _ hk2.2.1.1); rw [HP1.out] at hr; rw [HE1.out]; have HR1 := Aside.mk hr; obtain ⟨A1, c1, rfl, _⟩ := hr.form; clear hk2 hr he) | (go_at_call 117; with_reducible refine (Parse_calls HL4.out).mono ?_; rintro e w5 ⟨r2, rfl, hr, he⟩; have hk4 := Keep4.ext he hk3; have HW4 := Aside.mk he; have HW3 := Aside.mk (World.block_lt_of_cell? _ _ hk3.2.1.1); rw [HP2.out] at hr; rw [HE2.out]; have HR2 := Aside.mk hr; obtain ⟨A2, c2, rfl, _⟩ := hr.form; clear hk3 hr he) | (go_at_call 61; with_reducible refine (israt_b (q := ⟨0, nb, xs1, xs2⟩) ?h HOK.out).mono ?_; (case h => exact RR.mk4 (HR1.out.rv.ext (HW4.out.trans ((Ext.refl _).alloc _))) (HR2.out.rv.ext ((Ext.refl _).alloc _))); rintro e w6 ⟨rfl, he⟩; have hk5 := Keep4.ext he (Keep4.ext ((Ext.refl w5).alloc (.cells #[.int .i64 0, .bool nb, .slice A1 xs1.length c1, .slice A2 xs2.length c2] 83)) hk4); have hb5 := KeepB.ext he (KeepB.init w5 (.int .i64 0) (.bool nb) (.slice A1 xs1.length c1) (.slice A2 xs2.length c2) 83); clear hk4 he))
                  have HK := Aside.mk hk5
                  refine bodyPost_ret (v := .tuple #[.agg #[.int .i64 0, .bool false, .slice none 0 0, .slice none 0 0], .int .i64 5]) (by simp [results, Tryz.results77, go_sem, hk5]) rfl ⟨_, rfl, RO.fq _ _ _, ext_set4 HK.out.1.out (Nat.le_refl _) _ _ _ _⟩
          · have HOK := Aside.mk hok
            have HM : Aside (m = (⟨0, nb, xs1, xs2⟩, 0)) := ⟨by rw [← hm, hok]; rfl⟩
            rw [HM.out]
            clear hm he1 h3 hx1 hx2 hok
            cases tw
            · have HE2 : Aside (perr (⟨#[49]⟩ : ByteArray).data.toList = _) := ⟨(congrArg perr (HLB.out rfl).symm).trans he2⟩
              have HP2 : Aside (pdig (⟨#[49]⟩ : ByteArray).data.toList = _) := ⟨(congrArg pdig (HLB.out rfl).symm).trans hq2⟩
              have HL4 : Aside ((⟨#[49]⟩ : ByteArray).size ≤ 1073741824) := ⟨by decide⟩
              clear he2 hq2 h4
              go_enter Tryz.func77, Tryz.ntmps77
              go_wp2_with (refine load_told rfl _ rfl rfl (HG.out.ext hk0.1.out) ?_)
              go_loopw [21] (fun i wr => ∃ (j : Nat), j ≤ 2 ∧ i = .int .i64 (j : Int) ∧ Keep4 w w.heap.size wr) (fun i _ => 2 - (intOf i).toNat)
              case atStart => exact ⟨0, by omega, rfl, hk0⟩
              case round =>
                obtain ⟨j, hj, rfl, hk1⟩ := hrel
                obtain rfl | rfl | rfl : j = 0 ∨ j = 1 ∨ j = 2 := by omega
                · have hk2 := Keep4.ext ((Ext.refl wr).alloc (.cells #[.string rangeB, .int .i64 4] 142)) hk1
                  clear hk0 hk1
                  go_wp2
                  go_roundw
                  case rel => exact ⟨1, by omega, rfl, hk2⟩
                  case measure => simp [intOf]
                · have hk2 := Keep4.ext ((Ext.refl wr).alloc (.cells #[.string zeroB, .int .i64 11] 142)) hk1
                  clear hk0 hk1
                  go_wp2
                  go_roundw
                  case rel => exact ⟨2, by omega, rfl, hk2⟩
                  case measure => simp [intOf]
                · clear hk0
                  go_wp2_with (first | (go_at_call 78; refine (Tryz.strings_CutPrefix s ⟨#[45]⟩ _).mono ?_; rintro e w2 ⟨rfl, hw⟩; rw [hw, HS1.out, HNB.out]; clear hw) | (go_at_call 116; refine (Tryz.strings_Cut s1 ⟨#[47]⟩ _ _ HL1.out (Classical.choose_spec (HG.out.ext hk1.1.out).c4)).mono ?_; rintro e w3 ⟨rfl, hw⟩; rw [HS2.out, HS3.out, HTW.out]; have hk2 := Keep4.ext (Ext.of_drewN hw) hk1; clear hk1 hw) | (go_at_call 117; with_reducible refine (Parse_calls HL2.out).mono ?_; rintro e w4 ⟨r1, rfl, hr, he⟩; have hk3 := Keep4.ext he hk2; have HW2 := Aside.mk (World.block_lt_of_cell? _ _ hk2.2.1.1); rw [HP1.out] at hr; rw [HE1.out]; have HR1 := Aside.mk hr; obtain ⟨A1, c1, rfl, _⟩ := hr.form; clear hk2 hr he) | (go_at_call 117; with_reducible refine (Parse_calls HL4.out).mono ?_; rintro e w5 ⟨r2, rfl, hr, he⟩; have hk4 := Keep4.ext he hk3; have HW4 := Aside.mk he; have HW3 := Aside.mk (World.block_lt_of_cell? _ _ hk3.2.1.1); rw [HP2.out] at hr; rw [HE2.out]; have HR2 := Aside.mk hr; obtain ⟨A2, c2, rfl, _⟩ := hr.form; clear hk3 hr he) | (go_at_call 61; with_reducible refine (israt_b (q := ⟨0, nb, xs1, xs2⟩) ?h HOK.out).mono ?_; (case h => exact RR.mk4 (HR1.out.rv.ext (HW4.out.trans ((Ext.refl _).alloc _))) (HR2.out.rv.ext ((Ext.refl _).alloc _))); rintro e w6 ⟨rfl, he⟩; have hk5 := Keep4.ext he (Keep4.ext ((Ext.refl w5).alloc (.cells #[.int .i64 0, .bool nb, .slice A1 xs1.length c1, .slice A2 xs2.length c2] 83)) hk4); have hb5 := KeepB.ext he (KeepB.init w5 (.int .i64 0) (.bool nb) (.slice A1 xs1.length c1) (.slice A2 xs2.length c2) 83); clear hk4 he))
                  have HK := Aside.mk hk5
                  have HB := Aside.mk hb5
                  refine bodyPost_ret (v := .tuple #[.agg #[.int .i64 0, .bool nb, .slice A1 xs1.length c1, .slice A2 xs2.length c2], .int .i64 0]) (by simp [results, Tryz.results77, go_sem, hk5]) rfl ⟨_, rfl, ⟨_, _, rfl, ?_, ?_⟩, ext_set4 HK.out.1.out (Nat.le_refl _) _ _ _ _⟩
                  · exact ((HR1.out.ext (HW4.out.trans HB.out.1.out)).set4 HW2.out _ _ _ _).mono (Nat.le_of_lt HW2.out)
                  · exact ((HR2.out.ext HB.out.1.out).set4 HW3.out _ _ _ _).mono (Nat.le_of_lt HW3.out)
            · have HE2 : Aside (perr s3.data.toList = _) := ⟨(congrArg perr (HLT.out rfl).symm).trans he2⟩
              have HP2 : Aside (pdig s3.data.toList = _) := ⟨(congrArg pdig (HLT.out rfl).symm).trans hq2⟩
              have HL4 := HL3
              have hs3 : (s3.toList == [49]) = false := by
                rw [Lib.toList_data, ← HLT.out rfl]; exact beq_eq_false_iff_ne.2 (fun h => h4 ⟨rfl, h⟩)
              clear he2 hq2 h4
              go_enter Tryz.func77, Tryz.ntmps77
              go_wp2_with (refine load_told rfl _ rfl rfl (HG.out.ext hk0.1.out) ?_)
              go_loopw [21] (fun i wr => ∃ (j : Nat), j ≤ 2 ∧ i = .int .i64 (j : Int) ∧ Keep4 w w.heap.size wr) (fun i _ => 2 - (intOf i).toNat)
              case atStart => exact ⟨0, by omega, rfl, hk0⟩
              case round =>
                obtain ⟨j, hj, rfl, hk1⟩ := hrel
                obtain rfl | rfl | rfl : j = 0 ∨ j = 1 ∨ j = 2 := by omega
                · have hk2 := Keep4.ext ((Ext.refl wr).alloc (.cells #[.string rangeB, .int .i64 4] 142)) hk1
                  clear hk0 hk1
                  go_wp2
                  go_roundw
                  case rel => exact ⟨1, by omega, rfl, hk2⟩
                  case measure => simp [intOf]
                · have hk2 := Keep4.ext ((Ext.refl wr).alloc (.cells #[.string zeroB, .int .i64 11] 142)) hk1
                  clear hk0 hk1
                  go_wp2
                  go_roundw
                  case rel => exact ⟨2, by omega, rfl, hk2⟩
                  case measure => simp [intOf]
                · clear hk0
                  go_wp2_with (first | (go_at_call 78; refine (Tryz.strings_CutPrefix s ⟨#[45]⟩ _).mono ?_; rintro e w2 ⟨rfl, hw⟩; rw [hw, HS1.out, HNB.out]; clear hw) | (go_at_call 116; refine (Tryz.strings_Cut s1 ⟨#[47]⟩ _ _ HL1.out (Classical.choose_spec (HG.out.ext hk1.1.out).c4)).mono ?_; rintro e w3 ⟨rfl, hw⟩; rw [HS2.out, HS3.out, HTW.out]; have hk2 := Keep4.ext (Ext.of_drewN hw) hk1; clear hk1 hw) | (go_at_call 117; with_reducible refine (Parse_calls HL2.out).mono ?_; rintro e w4 ⟨r1, rfl, hr, he⟩; have hk3 := Keep4.ext he hk2; have HW2 := Aside.mk (World.block_lt_of_cell? _ _ hk2.2.1.1); rw [HP1.out] at hr; rw [HE1.out]; have HR1 := Aside.mk hr; obtain ⟨A1, c1, rfl, _⟩ := hr.form; clear hk2 hr he) | (go_at_call 117; with_reducible refine (Parse_calls HL4.out).mono ?_; rintro e w5 ⟨r2, rfl, hr, he⟩; have hk4 := Keep4.ext he hk3; have HW4 := Aside.mk he; have HW3 := Aside.mk (World.block_lt_of_cell? _ _ hk3.2.1.1); rw [HP2.out] at hr; rw [HE2.out]; have HR2 := Aside.mk hr; obtain ⟨A2, c2, rfl, _⟩ := hr.form; clear hk3 hr he) | (go_at_call 61; with_reducible refine (israt_b (q := ⟨0, nb, xs1, xs2⟩) ?h HOK.out).mono ?_; (case h => exact RR.mk4 (HR1.out.rv.ext (HW4.out.trans ((Ext.refl _).alloc _))) (HR2.out.rv.ext ((Ext.refl _).alloc _))); rintro e w6 ⟨rfl, he⟩; have hk5 := Keep4.ext he (Keep4.ext ((Ext.refl w5).alloc (.cells #[.int .i64 0, .bool nb, .slice A1 xs1.length c1, .slice A2 xs2.length c2] 83)) hk4); have hb5 := KeepB.ext he (KeepB.init w5 (.int .i64 0) (.bool nb) (.slice A1 xs1.length c1) (.slice A2 xs2.length c2) 83); clear hk4 he))
                  have HK := Aside.mk hk5
                  have HB := Aside.mk hb5
                  refine bodyPost_ret (v := .tuple #[.agg #[.int .i64 0, .bool nb, .slice A1 xs1.length c1, .slice A2 xs2.length c2], .int .i64 0]) (by simp [results, Tryz.results77, go_sem, hk5]) rfl ⟨_, rfl, ⟨_, _, rfl, ?_, ?_⟩, ext_set4 HK.out.1.out (Nat.le_refl _) _ _ _ _⟩
                  · exact ((HR1.out.ext (HW4.out.trans HB.out.1.out)).set4 HW2.out _ _ _ _).mono (Nat.le_of_lt HW2.out)
                  · exact ((HR2.out.ext HB.out.1.out).set4 HW3.out _ _ _ _).mono (Nat.le_of_lt HW3.out)
    · have HM : Aside (m = (fq 0, 5)) := ⟨by rw [← hm]; unfold fparts; rw [if_pos (.inr (.inl (by rw [he2]; exact h2)))]⟩
      have h20 : ((e2 : Int) == 0) = false := beq_eq_false_iff_ne.2 (by omega)
      have h21 : ((e2 : Int) != 0) = true := by simp [bne, h20]
      rw [HM.out]
      clear hm he1 h2 hx1
      cases tw
      · have HE2 : Aside (perr (⟨#[49]⟩ : ByteArray).data.toList = _) := ⟨(congrArg perr (HLB.out rfl).symm).trans he2⟩
        have HP2 : Aside (pdig (⟨#[49]⟩ : ByteArray).data.toList = _) := ⟨(congrArg pdig (HLB.out rfl).symm).trans hq2⟩
        have HL4 : Aside ((⟨#[49]⟩ : ByteArray).size ≤ 1073741824) := ⟨by decide⟩
        clear he2 hq2
        go_enter Tryz.func77, Tryz.ntmps77
        go_wp2_with (refine load_told rfl _ rfl rfl (HG.out.ext hk0.1.out) ?_)
        go_loopw [21] (fun i wr => ∃ (j : Nat), j ≤ 2 ∧ i = .int .i64 (j : Int) ∧ Keep4 w w.heap.size wr) (fun i _ => 2 - (intOf i).toNat)
        case atStart => exact ⟨0, by omega, rfl, hk0⟩
        case round =>
          obtain ⟨j, hj, rfl, hk1⟩ := hrel
          obtain rfl | rfl | rfl : j = 0 ∨ j = 1 ∨ j = 2 := by omega
          · have hk2 := Keep4.ext ((Ext.refl wr).alloc (.cells #[.string rangeB, .int .i64 4] 142)) hk1
            clear hk0 hk1
            go_wp2
            go_roundw
            case rel => exact ⟨1, by omega, rfl, hk2⟩
            case measure => simp [intOf]
          · have hk2 := Keep4.ext ((Ext.refl wr).alloc (.cells #[.string zeroB, .int .i64 11] 142)) hk1
            clear hk0 hk1
            go_wp2
            go_roundw
            case rel => exact ⟨2, by omega, rfl, hk2⟩
            case measure => simp [intOf]
          · clear hk0
            go_wp2_with (first | (go_at_call 78; refine (Tryz.strings_CutPrefix s ⟨#[45]⟩ _).mono ?_; rintro e w2 ⟨rfl, hw⟩; rw [hw, HS1.out, HNB.out]; clear hw) | (go_at_call 116; refine (Tryz.strings_Cut s1 ⟨#[47]⟩ _ _ HL1.out (Classical.choose_spec (HG.out.ext hk1.1.out).c4)).mono ?_; rintro e w3 ⟨rfl, hw⟩; rw [HS2.out, HS3.out, HTW.out]; have hk2 := Keep4.ext (Ext.of_drewN hw) hk1; clear hk1 hw) | (go_at_call 117; with_reducible refine (Parse_calls HL2.out).mono ?_; rintro e w4 ⟨r1, rfl, hr, he⟩; have hk3 := Keep4.ext he hk2; have HW2 := Aside.mk (World.block_lt_of_cell? _ _ hk2.2.1.1); rw [HP1.out] at hr; rw [HE1.out]; have HR1 := Aside.mk hr; obtain ⟨A1, c1, rfl, _⟩ := hr.form; clear hk2 hr he) | (go_at_call 117; with_reducible refine (Parse_calls HL4.out).mono ?_; rintro e w5 ⟨r2, rfl, hr, he⟩; have hk4 := Keep4.ext he hk3; have HW4 := Aside.mk he; have HW3 := Aside.mk (World.block_lt_of_cell? _ _ hk3.2.1.1); rw [HP2.out] at hr; rw [HE2.out]; have HR2 := Aside.mk hr; obtain ⟨A2, c2, rfl, _⟩ := hr.form; clear hk3 hr he) | (go_at_call 61; with_reducible refine (israt_b (q := ⟨0, nb, xs1, xs2⟩) ?h HOK.out).mono ?_; (case h => exact RR.mk4 (HR1.out.rv.ext (HW4.out.trans ((Ext.refl _).alloc _))) (HR2.out.rv.ext ((Ext.refl _).alloc _))); rintro e w6 ⟨rfl, he⟩; have hk5 := Keep4.ext he (Keep4.ext ((Ext.refl w5).alloc (.cells #[.int .i64 0, .bool nb, .slice A1 xs1.length c1, .slice A2 xs2.length c2] 83)) hk4); have hb5 := KeepB.ext he (KeepB.init w5 (.int .i64 0) (.bool nb) (.slice A1 xs1.length c1) (.slice A2 xs2.length c2) 83); clear hk4 he))
            have HK := Aside.mk hk4
            refine bodyPost_ret (v := .tuple #[.agg #[.int .i64 0, .bool false, .slice none 0 0, .slice none 0 0], .int .i64 5]) (by simp [results, Tryz.results77, go_sem, hk4]) rfl ⟨_, rfl, RO.fq _ _ _, ext_set4 HK.out.1.out (Nat.le_refl _) _ _ _ _⟩
      · have HE2 : Aside (perr s3.data.toList = _) := ⟨(congrArg perr (HLT.out rfl).symm).trans he2⟩
        have HP2 : Aside (pdig s3.data.toList = _) := ⟨(congrArg pdig (HLT.out rfl).symm).trans hq2⟩
        have HL4 := HL3
        clear he2 hq2
        go_enter Tryz.func77, Tryz.ntmps77
        go_wp2_with (refine load_told rfl _ rfl rfl (HG.out.ext hk0.1.out) ?_)
        go_loopw [21] (fun i wr => ∃ (j : Nat), j ≤ 2 ∧ i = .int .i64 (j : Int) ∧ Keep4 w w.heap.size wr) (fun i _ => 2 - (intOf i).toNat)
        case atStart => exact ⟨0, by omega, rfl, hk0⟩
        case round =>
          obtain ⟨j, hj, rfl, hk1⟩ := hrel
          obtain rfl | rfl | rfl : j = 0 ∨ j = 1 ∨ j = 2 := by omega
          · have hk2 := Keep4.ext ((Ext.refl wr).alloc (.cells #[.string rangeB, .int .i64 4] 142)) hk1
            clear hk0 hk1
            go_wp2
            go_roundw
            case rel => exact ⟨1, by omega, rfl, hk2⟩
            case measure => simp [intOf]
          · have hk2 := Keep4.ext ((Ext.refl wr).alloc (.cells #[.string zeroB, .int .i64 11] 142)) hk1
            clear hk0 hk1
            go_wp2
            go_roundw
            case rel => exact ⟨2, by omega, rfl, hk2⟩
            case measure => simp [intOf]
          · clear hk0
            go_wp2_with (first | (go_at_call 78; refine (Tryz.strings_CutPrefix s ⟨#[45]⟩ _).mono ?_; rintro e w2 ⟨rfl, hw⟩; rw [hw, HS1.out, HNB.out]; clear hw) | (go_at_call 116; refine (Tryz.strings_Cut s1 ⟨#[47]⟩ _ _ HL1.out (Classical.choose_spec (HG.out.ext hk1.1.out).c4)).mono ?_; rintro e w3 ⟨rfl, hw⟩; rw [HS2.out, HS3.out, HTW.out]; have hk2 := Keep4.ext (Ext.of_drewN hw) hk1; clear hk1 hw) | (go_at_call 117; with_reducible refine (Parse_calls HL2.out).mono ?_; rintro e w4 ⟨r1, rfl, hr, he⟩; have hk3 := Keep4.ext he hk2; have HW2 := Aside.mk (World.block_lt_of_cell? _ _ hk2.2.1.1); rw [HP1.out] at hr; rw [HE1.out]; have HR1 := Aside.mk hr; obtain ⟨A1, c1, rfl, _⟩ := hr.form; clear hk2 hr he) | (go_at_call 117; with_reducible refine (Parse_calls HL4.out).mono ?_; rintro e w5 ⟨r2, rfl, hr, he⟩; have hk4 := Keep4.ext he hk3; have HW4 := Aside.mk he; have HW3 := Aside.mk (World.block_lt_of_cell? _ _ hk3.2.1.1); rw [HP2.out] at hr; rw [HE2.out]; have HR2 := Aside.mk hr; obtain ⟨A2, c2, rfl, _⟩ := hr.form; clear hk3 hr he) | (go_at_call 61; with_reducible refine (israt_b (q := ⟨0, nb, xs1, xs2⟩) ?h HOK.out).mono ?_; (case h => exact RR.mk4 (HR1.out.rv.ext (HW4.out.trans ((Ext.refl _).alloc _))) (HR2.out.rv.ext ((Ext.refl _).alloc _))); rintro e w6 ⟨rfl, he⟩; have hk5 := Keep4.ext he (Keep4.ext ((Ext.refl w5).alloc (.cells #[.int .i64 0, .bool nb, .slice A1 xs1.length c1, .slice A2 xs2.length c2] 83)) hk4); have hb5 := KeepB.ext he (KeepB.init w5 (.int .i64 0) (.bool nb) (.slice A1 xs1.length c1) (.slice A2 xs2.length c2) 83); clear hk4 he))
            have HK := Aside.mk hk4
            refine bodyPost_ret (v := .tuple #[.agg #[.int .i64 0, .bool false, .slice none 0 0, .slice none 0 0], .int .i64 5]) (by simp [results, Tryz.results77, go_sem, hk4]) rfl ⟨_, rfl, RO.fq _ _ _, ext_set4 HK.out.1.out (Nat.le_refl _) _ _ _ _⟩
  · have HM : Aside (m = (fq 0, 5)) := ⟨by rw [← hm]; unfold fparts; rw [if_pos (.inl (by rw [he1]; exact h1))]⟩
    have h10 : ((e1 : Int) == 0) = false := beq_eq_false_iff_ne.2 (by omega)
    have h11 : ((e1 : Int) != 0) = true := by simp [bne, h10]
    rw [HM.out]
    clear hm he1 h1 hx1
    cases tw
    · have HE2 : Aside (perr (⟨#[49]⟩ : ByteArray).data.toList = _) := ⟨(congrArg perr (HLB.out rfl).symm).trans he2⟩
      have HP2 : Aside (pdig (⟨#[49]⟩ : ByteArray).data.toList = _) := ⟨(congrArg pdig (HLB.out rfl).symm).trans hq2⟩
      have HL4 : Aside ((⟨#[49]⟩ : ByteArray).size ≤ 1073741824) := ⟨by decide⟩
      clear he2 hq2
      go_enter Tryz.func77, Tryz.ntmps77
      go_wp2_with (refine load_told rfl _ rfl rfl (HG.out.ext hk0.1.out) ?_)
      go_loopw [21] (fun i wr => ∃ (j : Nat), j ≤ 2 ∧ i = .int .i64 (j : Int) ∧ Keep4 w w.heap.size wr) (fun i _ => 2 - (intOf i).toNat)
      case atStart => exact ⟨0, by omega, rfl, hk0⟩
      case round =>
        obtain ⟨j, hj, rfl, hk1⟩ := hrel
        obtain rfl | rfl | rfl : j = 0 ∨ j = 1 ∨ j = 2 := by omega
        · have hk2 := Keep4.ext ((Ext.refl wr).alloc (.cells #[.string rangeB, .int .i64 4] 142)) hk1
          clear hk0 hk1
          go_wp2
          go_roundw
          case rel => exact ⟨1, by omega, rfl, hk2⟩
          case measure => simp [intOf]
        · have hk2 := Keep4.ext ((Ext.refl wr).alloc (.cells #[.string zeroB, .int .i64 11] 142)) hk1
          clear hk0 hk1
          go_wp2
          go_roundw
          case rel => exact ⟨2, by omega, rfl, hk2⟩
          case measure => simp [intOf]
        · clear hk0
          go_wp2_with (first | (go_at_call 78; refine (Tryz.strings_CutPrefix s ⟨#[45]⟩ _).mono ?_; rintro e w2 ⟨rfl, hw⟩; rw [hw, HS1.out, HNB.out]; clear hw) | (go_at_call 116; refine (Tryz.strings_Cut s1 ⟨#[47]⟩ _ _ HL1.out (Classical.choose_spec (HG.out.ext hk1.1.out).c4)).mono ?_; rintro e w3 ⟨rfl, hw⟩; rw [HS2.out, HS3.out, HTW.out]; have hk2 := Keep4.ext (Ext.of_drewN hw) hk1; clear hk1 hw) | (go_at_call 117; with_reducible refine (Parse_calls HL2.out).mono ?_; rintro e w4 ⟨r1, rfl, hr, he⟩; have hk3 := Keep4.ext he hk2; have HW2 := Aside.mk (World.block_lt_of_cell? _ _ hk2.2.1.1); rw [HP1.out] at hr; rw [HE1.out]; have HR1 := Aside.mk hr; obtain ⟨A1, c1, rfl, _⟩ := hr.form; clear hk2 hr he) | (go_at_call 117; with_reducible refine (Parse_calls HL4.out).mono ?_; rintro e w5 ⟨r2, rfl, hr, he⟩; have hk4 := Keep4.ext he hk3; have HW4 := Aside.mk he; have HW3 := Aside.mk (World.block_lt_of_cell? _ _ hk3.2.1.1); rw [HP2.out] at hr; rw [HE2.out]; have HR2 := Aside.mk hr; obtain ⟨A2, c2, rfl, _⟩ := hr.form; clear hk3 hr he) | (go_at_call 61; with_reducible refine (israt_b (q := ⟨0, nb, xs1, xs2⟩) ?h HOK.out).mono ?_; (case h => exact RR.mk4 (HR1.out.rv.ext (HW4.out.trans ((Ext.refl _).alloc _))) (HR2.out.rv.ext ((Ext.refl _).alloc _))); rintro e w6 ⟨rfl, he⟩; have hk5 := Keep4.ext he (Keep4.ext ((Ext.refl w5).alloc (.cells #[.int .i64 0, .bool nb, .slice A1 xs1.length c1, .slice A2 xs2.length c2] 83)) hk4); have hb5 := KeepB.ext he (KeepB.init w5 (.int .i64 0) (.bool nb) (.slice A1 xs1.length c1) (.slice A2 xs2.length c2) 83); clear hk4 he))
          have HK := Aside.mk hk4
          refine bodyPost_ret (v := .tuple #[.agg #[.int .i64 0, .bool false, .slice none 0 0, .slice none 0 0], .int .i64 5]) (by simp [results, Tryz.results77, go_sem, hk4]) rfl ⟨_, rfl, RO.fq _ _ _, ext_set4 HK.out.1.out (Nat.le_refl _) _ _ _ _⟩
    · have HE2 : Aside (perr s3.data.toList = _) := ⟨(congrArg perr (HLT.out rfl).symm).trans he2⟩
      have HP2 : Aside (pdig s3.data.toList = _) := ⟨(congrArg pdig (HLT.out rfl).symm).trans hq2⟩
      have HL4 := HL3
      clear he2 hq2
      go_enter Tryz.func77, Tryz.ntmps77
      go_wp2_with (refine load_told rfl _ rfl rfl (HG.out.ext hk0.1.out) ?_)
      go_loopw [21] (fun i wr => ∃ (j : Nat), j ≤ 2 ∧ i = .int .i64 (j : Int) ∧ Keep4 w w.heap.size wr) (fun i _ => 2 - (intOf i).toNat)
      case atStart => exact ⟨0, by omega, rfl, hk0⟩
      case round =>
        obtain ⟨j, hj, rfl, hk1⟩ := hrel
        obtain rfl | rfl | rfl : j = 0 ∨ j = 1 ∨ j = 2 := by omega
        · have hk2 := Keep4.ext ((Ext.refl wr).alloc (.cells #[.string rangeB, .int .i64 4] 142)) hk1
          clear hk0 hk1
          go_wp2
          go_roundw
          case rel => exact ⟨1, by omega, rfl, hk2⟩
          case measure => simp [intOf]
        · have hk2 := Keep4.ext ((Ext.refl wr).alloc (.cells #[.string zeroB, .int .i64 11] 142)) hk1
          clear hk0 hk1
          go_wp2
          go_roundw
          case rel => exact ⟨2, by omega, rfl, hk2⟩
          case measure => simp [intOf]
        · clear hk0
          go_wp2_with (first | (go_at_call 78; refine (Tryz.strings_CutPrefix s ⟨#[45]⟩ _).mono ?_; rintro e w2 ⟨rfl, hw⟩; rw [hw, HS1.out, HNB.out]; clear hw) | (go_at_call 116; refine (Tryz.strings_Cut s1 ⟨#[47]⟩ _ _ HL1.out (Classical.choose_spec (HG.out.ext hk1.1.out).c4)).mono ?_; rintro e w3 ⟨rfl, hw⟩; rw [HS2.out, HS3.out, HTW.out]; have hk2 := Keep4.ext (Ext.of_drewN hw) hk1; clear hk1 hw) | (go_at_call 117; with_reducible refine (Parse_calls HL2.out).mono ?_; rintro e w4 ⟨r1, rfl, hr, he⟩; have hk3 := Keep4.ext he hk2; have HW2 := Aside.mk (World.block_lt_of_cell? _ _ hk2.2.1.1); rw [HP1.out] at hr; rw [HE1.out]; have HR1 := Aside.mk hr; obtain ⟨A1, c1, rfl, _⟩ := hr.form; clear hk2 hr he) | (go_at_call 117; with_reducible refine (Parse_calls HL4.out).mono ?_; rintro e w5 ⟨r2, rfl, hr, he⟩; have hk4 := Keep4.ext he hk3; have HW4 := Aside.mk he; have HW3 := Aside.mk (World.block_lt_of_cell? _ _ hk3.2.1.1); rw [HP2.out] at hr; rw [HE2.out]; have HR2 := Aside.mk hr; obtain ⟨A2, c2, rfl, _⟩ := hr.form; clear hk3 hr he) | (go_at_call 61; with_reducible refine (israt_b (q := ⟨0, nb, xs1, xs2⟩) ?h HOK.out).mono ?_; (case h => exact RR.mk4 (HR1.out.rv.ext (HW4.out.trans ((Ext.refl _).alloc _))) (HR2.out.rv.ext ((Ext.refl _).alloc _))); rintro e w6 ⟨rfl, he⟩; have hk5 := Keep4.ext he (Keep4.ext ((Ext.refl w5).alloc (.cells #[.int .i64 0, .bool nb, .slice A1 xs1.length c1, .slice A2 xs2.length c2] 83)) hk4); have hb5 := KeepB.ext he (KeepB.init w5 (.int .i64 0) (.bool nb) (.slice A1 xs1.length c1) (.slice A2 xs2.length c2) 83); clear hk4 he))
          have HK := Aside.mk hk4
          refine bodyPost_ret (v := .tuple #[.agg #[.int .i64 0, .bool false, .slice none 0 0, .slice none 0 0], .int .i64 5]) (by simp [results, Tryz.results77, go_sem, hk4]) rfl ⟨_, rfl, RO.fq _ _ _, ext_set4 HK.out.1.out (Nat.le_refl _) _ _ _ _⟩

/-- Parse returns the Rat with a text. -/
theorem parse_calls {w : World} {s : ByteArray} (hg : Glob w) (hs : s.size ≤ 1073741824) {m : Rq × Int} (hm : fparse s.data.toList = m) :
    Calls Tryz.prog 77 #[.string s] w fun e w' => ∃ r, e = .returned (.tuple #[r, .int .i64 m.2]) ∧ RO w.heap.size w' r m.1 ∧ Ext w w' := by
  by_cases h49 : 4900 < s.size
  · exact parse_early hg hs hm (.inl h49)
  · by_cases hr : s.data.toList = rangeB.data.toList
    · exact parse_early hg hs hm (.inr (.inl hr))
    · by_cases hz : s.data.toList = zeroB.data.toList
      · exact parse_early hg hs hm (.inr (.inr hz))
      · exact parse_main hg hm h49 hr hz
end Go.Proofs.YtcbaipnphepbeaaGreatDoor

namespace Go.Proofs.YtcbaipnphepbeaaGreatDoor
open Go.RowKit

/-- Decimal digits, at least one. -/
def isDs (l : List UInt8) : Bool := !l.isEmpty && l.all isd
def digB : ByteArray := ⟨#[48, 49, 50, 51, 52, 53, 54, 55, 56, 57]⟩
set_option maxRecDepth 100000 in
theorem contains_isd (c : UInt8) : digB.data.toList.contains c = isd c := by
  have h : ∀ n : Fin 256, digB.data.toList.contains (UInt8.ofNat n.val) = isd (UInt8.ofNat n.val) := by decide
  have := h ⟨c.toNat, c.toNat_lt⟩
  simpa using this
theorem dropWhile_nil {p : UInt8 → Bool} {l : List UInt8} : l.dropWhile p = [] ↔ l.all p = true := by
  induction l with
  | nil => simp
  | cons x xs ih =>
    rw [List.dropWhile_cons]
    cases hp : p x
    · simp [hp]
    · simp [hp, ih]
theorem dropWhile_all {p : UInt8 → Bool} {l : List UInt8} : (l.dropWhile p).all p = l.all p := by
  induction l with
  | nil => simp
  | cons x xs ih =>
    rw [List.dropWhile_cons]
    cases hp : p x
    · simp [hp]
    · simp [hp, ih]
theorem trimS_nil (l : List UInt8) : (Lib.trimS l digB.data.toList = []) ↔ l.all isd = true := by
  have e : (fun c => digB.data.toList.contains c) = isd := funext contains_isd
  unfold Lib.trimS Lib.trimLeftS Lib.trimRightS
  rw [e, dropWhile_nil, List.all_reverse, dropWhile_all, List.all_reverse]

theorem h127 : (Tryz.prog.info? 172).map (fun i => (i.zero, i.size)) = some (some (.agg (Array.replicate 256 (.bool false))), 256) := by kernel_rfl
theorem digB_ascii : digB.data.toList.all (fun b => decide (b.toNat < 128)) = true := by decide
theorem digB_size : digB.size < 4294967281 := by rw [show digB.size = 10 from rfl]; omega


theorem dval_cons_zero (l : List UInt8) : dval (48 :: l) = dval l := by simp [dval]
theorem dval_dropWhile (l : List UInt8) : dval (l.dropWhile (· == 48)) = dval l := by
  induction l with
  | nil => rfl
  | cons x xs ih =>
    rw [List.dropWhile_cons]
    split
    · rename_i h
      have : x = 48 := by simpa using h
      rw [ih, this, dval_cons_zero]
    · rfl
/-- A text of digits without zeros ahead: at least one digit. -/
def shown (l : List UInt8) : List UInt8 := if Lib.trimLeftB l 48 = [] then [48] else Lib.trimLeftB l 48
theorem dropWhile_sub (p : UInt8 → Bool) (l : List UInt8) : ∃ k, l.dropWhile p = l.drop k := by
  induction l with
  | nil => exact ⟨0, rfl⟩
  | cons x xs ih =>
    rw [List.dropWhile_cons]
    split
    · obtain ⟨k, hk⟩ := ih; exact ⟨k + 1, hk⟩
    · exact ⟨0, rfl⟩
theorem all_drop {l : List UInt8} (h : l.all isd = true) (k : Nat) : (l.drop k).all isd = true := by
  rw [List.all_eq_true] at h ⊢
  intro c hc; exact h c (List.mem_of_mem_drop hc)
theorem dropWhile_head {l t : List UInt8} {c : UInt8} (h : l.dropWhile (· == 48) = c :: t) : c ≠ 48 := by
  induction l with
  | nil => cases h
  | cons x xs ih =>
    rw [List.dropWhile_cons] at h
    split at h
    · exact ih h
    · rename_i hx
      injection h with h1 h2
      subst h1
      simpa using hx
theorem shown_ok {l : List UInt8} (h : l.all isd = true) (hl : l.length ≤ 4900) : perr (shown l) = 0 ∧ dval (shown l) = dval l := by
  unfold shown
  obtain ⟨k, hk⟩ := dropWhile_sub (· == 48) l
  split
  · rename_i h0
    have := dval_dropWhile l
    rw [show l.dropWhile (· == 48) = [] from h0] at this
    exact ⟨rfl, this⟩
  · rename_i h0
    have e : Lib.trimLeftB l 48 = l.dropWhile (· == 48) := rfl
    rw [e] at h0 ⊢
    refine ⟨?_, dval_dropWhile l⟩
    unfold perr
    rw [if_neg (by rw [hk, List.length_drop]; omega), if_neg, if_pos (by rw [hk]; exact all_drop h k)]
    rintro (h1 | ⟨h1, h2⟩)
    · exact h0 h1
    · cases hd : l.dropWhile (· == 48) with
      | nil => exact h0 hd
      | cons c t =>
        rw [hd] at h1
        exact dropWhile_head hd (by simpa using h1)
theorem dval_ones (n : Nat) : dval (49 :: List.replicate n 48) = 10 ^ n := by
  induction n with
  | zero => rfl
  | succ n ih =>
    rw [List.replicate_succ', ← List.cons_append, dval_snoc, ih, Nat.pow_succ]
    show 10 * 10 ^ n + (48 - 48) = _
    omega
theorem perr_ones {n : Nat} (h : n < 4900) : perr (49 :: List.replicate n 48) = 0 := by
  unfold perr
  rw [if_neg (by simp; omega), if_neg (by simp), if_pos]
  rw [List.all_eq_true]
  intro c hc
  rcases List.mem_cons.1 hc with rfl | hc
  · rfl
  · rw [(List.mem_replicate.1 hc).2]; rfl

/-- What Decimal makes of the digits ahead of the point and behind it. -/
def fdecParts (above below : List UInt8) : Rq × Int := if (ratio false (dval (above ++ below)) (10 ^ below.length)).f = 0 then (ratio false (dval (above ++ below)) (10 ^ below.length), 0) else (fq 0, 4)
/-- What Decimal returns. -/
def fdec (l : List UInt8) : Rq × Int :=
  if 4900 < l.length then (fq 0, 3)
  else if isDs (Lib.cut l [46]).1 && (!(Lib.cut l [46]).2.2 || isDs (Lib.cut l [46]).2.1) then fdecParts (Lib.cut l [46]).1 (Lib.trimRightB (Lib.cut l [46]).2.1 48)
  else (fq 0, 5)

end Go.Proofs.YtcbaipnphepbeaaGreatDoor

namespace Go.Proofs.YtcbaipnphepbeaaGreatDoor
open Go.RowKit

theorem mk_toList' (s : ByteArray) : (⟨s.data.toList.toArray⟩ : ByteArray) = s := Lib.mk_data s
theorem cut_sum (l sep : List UInt8) : (Lib.cut l sep).1.length + (Lib.cut l sep).2.1.length ≤ l.length ∧ ((Lib.cut l sep).2.2 = false → (Lib.cut l sep).2.1 = []) ∧ (l.all isd = true → True) := by
  unfold Lib.cut
  split
  · simp only [List.length_take, List.length_drop]; refine ⟨by omega, by simp, fun _ => trivial⟩
  · simp
theorem isDs_all {l : List UInt8} (h : isDs l = true) : l.all isd = true ∧ 0 < l.length := by
  unfold isDs at h
  simp only [Bool.and_eq_true, Bool.not_eq_true'] at h
  refine ⟨h.2, ?_⟩
  cases l with
  | nil => simp at h
  | cons => simp
theorem trimR_all {l : List UInt8} (h : l.all isd = true) : (Lib.trimRightB l 48).all isd = true ∧ (Lib.trimRightB l 48).length ≤ l.length := by
  unfold Lib.trimRightB
  obtain ⟨k, hk⟩ := dropWhile_sub (· == 48) l.reverse
  rw [hk]
  refine ⟨?_, by simp⟩
  rw [List.all_reverse]
  exact all_drop (by rw [List.all_reverse]; exact h) k

theorem append_toList (a b : ByteArray) : (a ++ b).data.toList = a.data.toList ++ b.data.toList := by rw [ByteArray.data_append]; simp
theorem append_sz (a b : ByteArray) : (a ++ b).size = a.size + b.size := ByteArray.size_append
theorem dec_any {n m k : Nat} (h : n ≤ 3 * m) (hk : 10 * m < 32 * k) : (dig (10 ^ n)).length ≤ k := by
  apply dig_length_le
  have h1 : (10 : Nat) ^ n ≤ 10 ^ (3 * m) := Nat.pow_le_pow_right (by decide) h
  have h2 : ((10 : Nat) ^ 3) ^ m ≤ (2 ^ 10) ^ m := Nat.pow_le_pow_left (by decide) m
  have h3 : (2 : Nat) ^ (10 * m) < 2 ^ (32 * k) := Nat.pow_lt_pow_right (by decide) hk
  rw [Nat.pow_mul] at h1
  rw [← Nat.pow_mul 2 10 m] at h2
  rw [show (4294967296 : Nat) = 2 ^ 32 from rfl, ← Nat.pow_mul]
  exact Nat.lt_of_le_of_lt (Nat.le_trans h1 h2) h3
theorem dec_len {n : Nat} (h : n ≤ 4900) : (dig (10 ^ n)).length ≤ 512 := dec_any (m := 1634) (by omega) (by decide)
theorem dval_512 {l : List UInt8} (h : l.all isd = true) (hl : l.length ≤ 4900) : (dig (dval l)).length ≤ 512 :=
  Nat.le_trans (dig_len_mono (Nat.le_of_lt (dval_lt h))) (dec_len hl)

end Go.Proofs.YtcbaipnphepbeaaGreatDoor

namespace Go.Proofs.YtcbaipnphepbeaaGreatDoor
open Go.RowKit

theorem len1 {a : Nat} (h : a < 4294967296) : (dig a).length ≤ 1 := dig_length_le (by simpa using h)
theorem isLong_small {a : Nat} (h : a < 4294967296) : isLong a = false := isLong_false.2 (Nat.le_trans (len1 h) (by decide))
theorem okq_mk {neg : Bool} {a b : Nat} (ha : (dig a).length ≤ 128) (hb : (dig b).length ≤ 128) (hb0 : 0 < b) (hg : Nat.gcd a b = 1) (hn : neg = true → 0 < a) : okq ⟨0, neg, dig a, dig b⟩ = true := by
  unfold okq
  rw [if_pos rfl]
  simp only [natErr_dig0 (show (dig a).length ≤ 512 by omega), natErr_dig0 (show (dig b).length ≤ 512 by omega), val_dig, isLong_false.2 ha, isLong_false.2 hb, hg]
  have h1 : decide ((dig b).length = 0) = false := by
    apply decide_eq_false; intro h
    have := dig_nil_iff.1 (List.eq_nil_of_length_eq_zero h); omega
  rw [h1]
  cases neg
  · rfl
  · have h2 : decide ((dig a).length = 0) = false := by
      apply decide_eq_false; intro h
      have := dig_nil_iff.1 (List.eq_nil_of_length_eq_zero h)
      have := hn rfl; omega
    rw [h2]; rfl
theorem okq_small {neg : Bool} {a b : Nat} (ha : a < 4294967296) (hb : b < 4294967296) (ha0 : 0 < a) (hb0 : 0 < b) (hg : Nat.gcd a b = 1) : okq ⟨0, neg, dig a, dig b⟩ = true :=
  okq_mk (Nat.le_trans (len1 ha) (by decide)) (Nat.le_trans (len1 hb) (by decide)) hb0 hg (fun _ => ha0)
theorem ratio_small {neg : Bool} {a b g c d : Nat} (hb : b ≠ 0) (hg : Nat.gcd a b = g) (hc : a / g = c) (hd : b / g = d) (ha : 0 < a) (hcs : c < 4294967296) (hds : d < 4294967296) : ratio neg a b = ⟨0, neg, dig c, dig d⟩ := by
  unfold ratio
  rw [if_neg hb, hg, hc, hd, isLong_small hcs, isLong_small hds, decide_eq_true ha, Bool.and_true]; rfl

theorem box_of {F : FuncId} {args : Array Value} {w : World} {m : Rq × Int} {f : Int} {neg : Bool} {xs ys : List Nat}
    (h : Calls Tryz.prog F args w fun e w' => ∃ r, e = .returned (.tuple #[r, .int .i64 m.2]) ∧ RO w.heap.size w' r m.1 ∧ Ext w w') (hm : m = (⟨f, neg, xs, ys⟩, 0)) :
    Calls Tryz.prog F args w fun e w' => ∃ A c B d, e = .returned (.tuple #[.agg #[.int .i64 f, .bool neg, .slice A xs.length c, .slice B ys.length d], .int .i64 0]) ∧ Aside (RR w' (.agg #[.int .i64 f, .bool neg, .slice A xs.length c, .slice B ys.length d]) ⟨f, neg, xs, ys⟩) ∧ Ext w w' := by
  subst hm
  refine h.mono ?_
  rintro e w' ⟨r, rfl, hr, he⟩
  obtain ⟨A, c, B, d, rfl⟩ := hr.form
  exact ⟨A, c, B, d, rfl, ⟨hr.rr⟩, he⟩




theorem al3 {w : World} (hg : Glob w) : Calls Tryz.prog 77 #[.string ⟨#[49, 47, 50]⟩] w fun e w' => ∃ A c B d, e = .returned (.tuple #[.agg #[.int .i64 0, .bool false, .slice A (dig 1).length c, .slice B (dig 2).length d], .int .i64 0]) ∧ Aside (RR w' (.agg #[.int .i64 0, .bool false, .slice A (dig 1).length c, .slice B (dig 2).length d]) ⟨0, false, dig 1, dig 2⟩) ∧ Ext w w' :=
  box_of (parse_calls hg (by decide) rfl) (by
    show fparts false [49] true [50] = _
    unfold fparts
    rw [if_neg (by decide), show dval [49] = 1 from rfl, show dval [50] = 2 from rfl, okq_small (by decide) (by decide) (by decide) (by decide) rfl]; rfl)
theorem al4 {w : World} (hg : Glob w) : Calls Tryz.prog 77 #[.string ⟨#[49, 47, 51]⟩] w fun e w' => ∃ A c B d, e = .returned (.tuple #[.agg #[.int .i64 0, .bool false, .slice A (dig 1).length c, .slice B (dig 3).length d], .int .i64 0]) ∧ Aside (RR w' (.agg #[.int .i64 0, .bool false, .slice A (dig 1).length c, .slice B (dig 3).length d]) ⟨0, false, dig 1, dig 3⟩) ∧ Ext w w' :=
  box_of (parse_calls hg (by decide) rfl) (by
    show fparts false [49] true [51] = _
    unfold fparts
    rw [if_neg (by decide), show dval [49] = 1 from rfl, show dval [51] = 3 from rfl, okq_small (by decide) (by decide) (by decide) (by decide) rfl]; rfl)


theorem tx_num {w : World} {v : Value} {neg : Bool} {a b : Nat} (hg : Glob w) (h : RR w v ⟨0, neg, dig a, dig b⟩) (ha : a < 4294967296) (hb : b < 4294967296) (ha0 : 0 < a) (hb0 : 0 < b) (hgc : Nat.gcd a b = 1) {t : ByteArray} (ht : (⟨(ntext neg a b).toArray⟩ : ByteArray) = t) :
    Calls Tryz.prog 111 #[v] w fun e w' => e = .returned (.tuple #[.string t, .int .i64 0]) ∧ Ext w w' := by
  subst ht
  exact text_num hg h (okq_small ha hb ha0 hb0 hgc) (Nat.le_trans (len1 ha) (by decide)) (Nat.le_trans (len1 hb) (by decide)) hb0
theorem d10_one {a : Nat} (h : a < 10) (h0 : a ≠ 0) : dtext a = [chr a] := by
  unfold dtext
  rw [if_neg h0, d10_pos h0, show a / 10 = 0 from by omega, d10_zero, Nat.mod_eq_of_lt h]; rfl
theorem tx1 : (⟨(ntext false 5 6).toArray⟩ : ByteArray) = ⟨#[53, 47, 54]⟩ := by unfold ntext; rw [d10_one (by decide) (by decide), d10_one (by decide) (by decide)]; rfl
theorem tx2 : (⟨(ntext true 3 2).toArray⟩ : ByteArray) = ⟨#[45, 51, 47, 50]⟩ := by unfold ntext; rw [d10_one (by decide) (by decide), d10_one (by decide) (by decide)]; rfl
theorem tx3 : (⟨(ntext false 1 4).toArray⟩ : ByteArray) = ⟨#[49, 47, 52]⟩ := by unfold ntext; rw [d10_one (by decide) (by decide), d10_one (by decide) (by decide)]; rfl
theorem tz {w : World} {v : Value} (hg : Glob w) (h : RR w v ⟨11, false, [], []⟩) : Calls Tryz.prog 111 #[v] w fun e w' => e = .returned (.tuple #[.string ⟨#[33, 122, 101, 114, 111]⟩, .int .i64 0]) ∧ Ext w w' :=
  text_fault hg h rfl (by decide)


end Go.Proofs.YtcbaipnphepbeaaGreatDoor

namespace Go.Proofs.YtcbaipnphepbeaaGreatDoor
open Go.RowKit

/-- A box of two cells. -/
abbrev KeepT (w : World) (x0 x1 : Value) (w' : World) : Prop :=
  Aside (Ext w w') ∧ w'.cell? ⟨w.heap.size, 0, none⟩ = some x0 ∧ w'.cell? ⟨w.heap.size, 1, none⟩ = some x1
theorem KeepT.ext {w w1 w2 : World} {x0 x1 : Value} (e : Ext w1 w2) (h : KeepT w x0 x1 w1) : KeepT w x0 x1 w2 := ⟨⟨h.1.out.trans e⟩, e.cell h.2.1, e.cell h.2.2⟩
theorem KeepT.init (w : World) (x0 x1 : Value) (t : TypeId) : KeepT w x0 x1 (w.alloc (.cells #[x0, x1] t)) := ⟨⟨(Ext.refl w).alloc _⟩, cell_new rfl rfl, cell_new rfl rfl⟩

theorem RV.eq {w : World} {v : Value} {xs ys : List Nat} (h : RV w v xs) (e : xs = ys) : RV w v ys := e ▸ h




end Go.Proofs.YtcbaipnphepbeaaGreatDoor

namespace Go.Proofs.YtcbaipnphepbeaaGreatDoor
open Go.RowKit


/-- The four cells of a box. -/
abbrev Four (w : World) (g : Nat) (x0 x1 x2 x3 : Value) : Prop := w.cell? ⟨g, 0, none⟩ = some x0 ∧ w.cell? ⟨g, 1, none⟩ = some x1 ∧ w.cell? ⟨g, 2, none⟩ = some x2 ∧ w.cell? ⟨g, 3, none⟩ = some x3
theorem Four.ext {a b : World} (e : Ext a b) {g : Nat} {x0 x1 x2 x3 : Value} (h : Four a g x0 x1 x2 x3) : Four b g x0 x1 x2 x3 := ⟨e.cell h.1, e.cell h.2.1, e.cell h.2.2.1, e.cell h.2.2.2⟩
theorem Four.other {a : World} {g g' : Nat} {x0 x1 x2 x3 : Value} (h : Four a g x0 x1 x2 x3) (hne : g' ≠ g) (j : Nat) (v : Value) : Four (a.setCell ⟨g', j, none⟩ v) g x0 x1 x2 x3 :=
  ⟨cell_other h.1 hne, cell_other h.2.1 hne, cell_other h.2.2.1 hne, cell_other h.2.2.2 hne⟩
/-- A new Rat's box. -/
abbrev FitZ (w : World) (g : Nat) : Prop := Four w g (.int .i64 0) (.bool false) (.slice none 0 0) (.slice none 0 0) ∧ w.frozen? ⟨g, 0, none⟩ = false ∧ w.frozen? ⟨g, 1, none⟩ = false ∧ w.frozen? ⟨g, 2, none⟩ = false ∧ w.frozen? ⟨g, 3, none⟩ = false
abbrev ZBox : Obj := .cells #[.int .i64 0, .bool false, .slice none 0 0, .slice none 0 0] 83
theorem FitZ.ext {a b : World} (e : Ext a b) {g : Nat} (h : FitZ a g) : FitZ b g := by
  have hg := World.block_lt_of_cell? a _ h.1.1
  exact ⟨h.1.ext e, (e.frees g 0 hg).trans h.2.1, (e.frees g 1 hg).trans h.2.2.1, (e.frees g 2 hg).trans h.2.2.2.1, (e.frees g 3 hg).trans h.2.2.2.2⟩
theorem FitZ.new (w : World) {g : Nat} (hg : w.heap.size = g) : FitZ (w.alloc (.cells #[.int .i64 0, .bool false, .slice none 0 0, .slice none 0 0] 83)) g := by
  subst hg
  exact ⟨⟨cell_new rfl rfl, cell_new rfl rfl, cell_new rfl rfl, cell_new rfl rfl⟩, by simp, by simp, by simp, by simp⟩
theorem FitZ.alloc {w : World} {g : Nat} (h : FitZ w g) (o : Obj) : FitZ (w.alloc o) g := h.ext ((Ext.refl w).alloc o)
theorem fz1 {w1 w2 : World} {n : Nat} (e : Ext (w1.alloc (.cells #[.int .i64 0, .bool false, .slice none 0 0, .slice none 0 0] 83)) w2) (hn : w1.heap.size = n) : FitZ w2 n := (FitZ.new w1 hn).ext e
theorem fz2 {w1 w2 : World} {n : Nat} {o : Obj} (e : Ext ((w1.alloc (.cells #[.int .i64 0, .bool false, .slice none 0 0, .slice none 0 0] 83)).alloc o) w2) (hn : w1.heap.size = n) : FitZ w2 n := ((FitZ.new w1 hn).alloc o).ext e
theorem FitZ.other {w : World} {g g' : Nat} (h : FitZ w g) (hne : g' ≠ g) (j : Nat) (v : Value) : FitZ (w.setCell ⟨g', j, none⟩ v) g :=
  ⟨h.1.other hne j v, by rw [World.frozen?_setCell]; exact h.2.1, by rw [World.frozen?_setCell]; exact h.2.2.1, by rw [World.frozen?_setCell]; exact h.2.2.2.1, by rw [World.frozen?_setCell]; exact h.2.2.2.2⟩
/-- Four stores. -/
abbrev set4 (w : World) (g : Nat) (v0 v1 v2 v3 : Value) : World := (((w.setCell ⟨g, 0, none⟩ v0).setCell ⟨g, 1, none⟩ v1).setCell ⟨g, 2, none⟩ v2).setCell ⟨g, 3, none⟩ v3
theorem Four.four {w : World} {g g' : Nat} {x0 x1 x2 x3 : Value} (h : Four w g x0 x1 x2 x3) (hne : g' ≠ g) (v0 v1 v2 v3 : Value) : Four (set4 w g' v0 v1 v2 v3) g x0 x1 x2 x3 :=
  (((h.other hne 0 v0).other hne 1 v1).other hne 2 v2).other hne 3 v3
theorem FitZ.four {w : World} {g g' : Nat} (h : FitZ w g) (hne : g' ≠ g) (v0 v1 v2 v3 : Value) : FitZ (set4 w g' v0 v1 v2 v3) g :=
  (((h.other hne 0 v0).other hne 1 v1).other hne 2 v2).other hne 3 v3
theorem off_other {w : World} {g j j' : Nat} {u v : Value} (h : w.cell? ⟨g, j, none⟩ = some u) (hne : j' ≠ j) : (w.setCell ⟨g, j', none⟩ v).cell? ⟨g, j, none⟩ = some u :=
  (World.cell?_setCell_other w _ _ v (fun e => hne (by injection e))).trans h
theorem set4_four {w : World} {g : Nat} (h : FitZ w g) (v0 v1 v2 v3 : Value) : Four (set4 w g v0 v1 v2 v3) g v0 v1 v2 v3 :=
  ⟨off_other (off_other (off_other (cell_same h.1.1) (by decide)) (by decide)) (by decide),
    off_other (off_other (cell_same (off_other h.1.2.1 (by decide))) (by decide)) (by decide),
    off_other (cell_same (off_other (off_other h.1.2.2.1 (by decide)) (by decide))) (by decide),
    cell_same (off_other (off_other (off_other h.1.2.2.2 (by decide)) (by decide)) (by decide))⟩
/-- What holds of the stores' blocks: all blocks of `a` from `b` on are as they were. -/
def Far (b : Nat) (a c : World) : Prop := a.heap.size ≤ c.heap.size ∧ ∀ g, b ≤ g → g < a.heap.size → c.heap[g]? = a.heap[g]?
theorem Far.of {b : Nat} {a c : World} (e : Ext a c) : Far b a c := ⟨e.size, fun g _ hg => e.block g hg⟩
theorem Far.alloc {b : Nat} {a c : World} (h : Far b a c) (o : Obj) : Far b a (c.alloc o) :=
  ⟨Nat.le_trans h.1 ((Ext.refl c).alloc o).size, fun g h1 h2 => (((Ext.refl c).alloc o).block g (Nat.lt_of_lt_of_le h2 h.1)).trans (h.2 g h1 h2)⟩
theorem Far.set {b : Nat} {a c : World} (h : Far b a c) {g : Nat} (hg : g < b ∨ a.heap.size ≤ g) (j : Nat) (v : Value) : Far b a (c.setCell ⟨g, j, none⟩ v) := by
  have hne : ∀ k, b ≤ k → k < a.heap.size → k ≠ g := fun k h1 h2 => by omega
  exact ⟨by simpa using h.1, fun k h1 h2 => by rw [← h.2 k h1 h2]; exact Below.heap_setCell _ _ _ _ (hne k h1 h2)⟩
theorem Far.four {b : Nat} {a c : World} (h : Far b a c) {g : Nat} (hg : g < b ∨ a.heap.size ≤ g) (v0 v1 v2 v3 : Value) : Far b a (set4 c g v0 v1 v2 v3) :=
  (((h.set hg 0 v0).set hg 1 v1).set hg 2 v2).set hg 3 v3
theorem RO.far {b : Nat} {a c : World} {v : Value} {q : Rq} (h : RO b a v q) (k : Far b a c) : RO b c v q := let ⟨x, y, e, h1, h2⟩ := h; ⟨x, y, e, h1.kept k.2, h2.kept k.2⟩
theorem KeepE.big {w w1 : World} {x0 x1 x2 x3 y0 y1 y2 y3 : Value} (h : KeepE w x0 x1 x2 x3 y0 y1 y2 y3 w1) : w.heap.size + 2 ≤ w1.heap.size := World.block_lt_of_cell? _ _ h.2.2.1
theorem KeepE.set {w w1 : World} {x0 x1 x2 x3 y0 y1 y2 y3 : Value} (h : KeepE w x0 x1 x2 x3 y0 y1 y2 y3 w1) {g : Nat} (hg : w.heap.size + 2 ≤ g) (j : Nat) (v : Value) : KeepE w x0 x1 x2 x3 y0 y1 y2 y3 (w1.setCell ⟨g, j, none⟩ v) :=
  ⟨⟨h.1.out.set (show w.heap.size ≤ g by omega) v⟩, Four.other h.2.1 (by omega) j v, Four.other h.2.2 (by omega) j v⟩
theorem KeepE.four {w w1 : World} {x0 x1 x2 x3 y0 y1 y2 y3 : Value} (h : KeepE w x0 x1 x2 x3 y0 y1 y2 y3 w1) {g : Nat} (hg : w.heap.size + 2 ≤ g) (v0 v1 v2 v3 : Value) : KeepE w x0 x1 x2 x3 y0 y1 y2 y3 (set4 w1 g v0 v1 v2 v3) :=
  (((h.set hg 0 v0).set hg 1 v1).set hg 2 v2).set hg 3 v3
/-- Two boxes. -/
abbrev KeepD (w : World) (P Q : Nat) (x0 x1 x2 x3 y0 y1 y2 y3 : Value) (w' : World) : Prop := Aside (Ext w w') ∧ Four w' P x0 x1 x2 x3 ∧ Four w' Q y0 y1 y2 y3
theorem KeepD.ext {w : World} {P Q : Nat} {w1 w2 : World} {x0 x1 x2 x3 y0 y1 y2 y3 : Value} (e : Ext w1 w2) (h : KeepD w P Q x0 x1 x2 x3 y0 y1 y2 y3 w1) : KeepD w P Q x0 x1 x2 x3 y0 y1 y2 y3 w2 :=
  ⟨⟨h.1.out.trans e⟩, h.2.1.ext e, h.2.2.ext e⟩
theorem boxes {w1 : World} {P Q : Nat} {x0 x1 x2 x3 y0 y1 y2 y3 : Value} (hP : FitZ w1 P) (hQ : FitZ w1 Q) (hne : Q ≠ P) :
    Four (set4 (set4 w1 P x0 x1 x2 x3) Q y0 y1 y2 y3) P x0 x1 x2 x3 ∧ Four (set4 (set4 w1 P x0 x1 x2 x3) Q y0 y1 y2 y3) Q y0 y1 y2 y3 := by
  exact ⟨(set4_four hP _ _ _ _).four hne _ _ _ _, set4_four (hQ.four (fun h => hne h.symm) _ _ _ _) _ _ _ _⟩
end Go.Proofs.YtcbaipnphepbeaaGreatDoor

namespace Go.Proofs.YtcbaipnphepbeaaGreatDoor
open Go.RowKit

section
variable {P : Program} {ops : Array Oper} {Q : Exit → Act → World → Prop} {md : Region.Mode}
theorem left_set {l : Array Bool} {i : Nat} (h : l.getD i true = false) : l.countP (! ·) = (l.setIfInBounds i true).countP (! ·) + 1 := by
  have hi : i < l.size := by
    rcases Nat.lt_or_ge i l.size with h' | h'
    · exact h'
    · simp [Array.getElem?_eq_none h'] at h
  have hv : l[i] = false := by simpa [hi] using h
  have hp : 0 < l.countP (! ·) := Array.countP_pos_iff.2 ⟨l[i], Array.getElem_mem hi, by rw [hv]; rfl⟩
  simp only [Array.setIfInBounds, hi, dite_true]
  rw [Array.countP_set hi, hv]
  simp
  omega
theorem all_listed {l : Array Bool} (hord : ∀ i o, ops[i]? = some o → ∀ e ∈ o.after, Region.binds md e = true → e.on < i) (hsz : l.size = ops.size)
    (h : Region.ready md ops l = []) : ∀ i, i < ops.size → l.getD i false = true := by
  intro i
  induction i using Nat.strongRecOn with
  | ind i ih =>
    intro hi
    cases hb : l.getD i true
    · exfalso
      have hm : i ∈ Region.ready md ops l := mem_ready.2 ⟨hb, ops[i], by simp [hi], fun e he hbe => by
        have h1 := hord i ops[i] (by simp [hi]) e he hbe
        exact ih _ h1 (Nat.lt_trans h1 hi)⟩
      rw [h] at hm
      cases hm
    · simpa [hsz, hi] using hb
/-- One invariant, each operation once. -/
theorem wpAny_inv {Inv : Array Bool → Act → World → Prop} (hord : ∀ i o, ops[i]? = some o → ∀ e ∈ o.after, Region.binds md e = true → e.on < i)
    (hstep : ∀ l a w i o, ops[i]? = some o → l.getD i true = false → (∀ e ∈ o.after, Region.binds md e = true → l.getD e.on false = true) → Inv l a w → wpOp P ops Q i (Inv (l.setIfInBounds i true)) a w)
    (hend : ∀ l a w, (∀ i, i < ops.size → l.getD i false = true) → Inv l a w → Q .normal a w) :
    ∀ fuel l a w, l.size = ops.size → l.countP (! ·) = fuel → Inv l a w → wpAny P md ops Q fuel l a w
  | 0, l, a, w, hsz, hc, hI => by
    have hr : Region.ready md ops l = [] := by
      cases hr : Region.ready md ops l with
      | nil => rfl
      | cons i is =>
        have hm : i ∈ Region.ready md ops l := by rw [hr]; exact List.mem_cons_self
        have := left_set (mem_ready.1 hm).1
        omega
    exact ⟨hr, hend l a w (all_listed hord hsz hr) hI⟩
  | fuel + 1, l, a, w, hsz, hc, hI => by
    refine ⟨fun hr => hend l a w (all_listed hord hsz hr) hI, fun i hi => ?_⟩
    obtain ⟨h0, o, ho, hall⟩ := mem_ready.1 hi
    refine wpOp_mono (fun a' w' hI' => wpAny_inv hord hstep hend fuel _ a' w' (by simpa using hsz) ?_ hI') (hstep l a w i o ho h0 hall hI)
    have := left_set h0
    omega
theorem wp_region_inv {id : Nat} {a : Act} {w : World} (Inv : Array Bool → Act → World → Prop) (hm : P.follows .mixedOrders = true)
    (hord : ∀ i o, ops[i]? = some o → ∀ e ∈ o.after, Region.binds .any e = true → e.on < i)
    (hstart : Inv (Array.replicate ops.size false) a w.drew)
    (hend : ∀ l a w, (∀ i, i < ops.size → l.getD i false = true) → Inv l a w → Q .normal a w)
    (hstep : ∀ l a w i o, ops[i]? = some o → l.getD i true = false → (∀ e ∈ o.after, Region.binds .any e = true → l.getD e.on false = true) → Inv l a w → wpOp P ops Q i (Inv (l.setIfInBounds i true)) a w) :
    (Code.region id ops true).wp P Q a w :=
  wp_region_any hm (wpAny_inv hord hstep hend _ _ a _ (by simp) (by rw [← Array.countP_toList]; simp [List.countP_replicate]) hstart)
end

/-- The numbers of the operations that one waits for. -/
def needs (o : Oper) : List Nat := (o.after.toList.filter fun e => Region.binds .any e).map (·.on)
theorem mem_needs {o : Oper} {e : Edge} (he : e ∈ o.after) (hb : Region.binds .any e = true) : e.on ∈ needs o :=
  List.mem_map.2 ⟨e, List.mem_filter.2 ⟨by simpa using he, hb⟩, rfl⟩
theorem needs_mem {o : Oper} {j : Nat} (h : j ∈ needs o) : ∃ e ∈ o.after, Region.binds .any e = true ∧ e.on = j := by
  obtain ⟨e, he, rfl⟩ := List.mem_map.1 h
  obtain ⟨h1, h2⟩ := List.mem_filter.1 he
  exact ⟨e, by simpa using h1, h2, rfl⟩
def inOrder : List Oper → Nat → Bool
  | [], _ => true
  | o :: os, i => (needs o).all (fun j => decide (j < i)) && inOrder os (i + 1)
theorem inOrder_spec : ∀ (os : List Oper) (i k : Nat) (o : Oper), inOrder os i = true → os[k]? = some o → ∀ j ∈ needs o, j < i + k
  | [], _, _, _, _, h => by simp at h
  | o :: os, i, 0, o', hs, h => by
    simp only [List.getElem?_cons_zero, Option.some.injEq] at h
    subst h
    simp only [inOrder, Bool.and_eq_true, List.all_eq_true, decide_eq_true_eq] at hs
    simpa using hs.1
  | o :: os, i, k + 1, o', hs, h => by
    simp only [inOrder, Bool.and_eq_true] at hs
    have := inOrder_spec os (i + 1) k o' hs.2 (by simpa using h)
    intro j hj
    have := this j hj
    omega
inductive Each (Φ : Nat → Oper → Prop) : List Oper → Nat → Prop
  | nil {i : Nat} : Each Φ [] i
  | cons {o : Oper} {os : List Oper} {i j : Nat} (hj : j = i + 1) : Φ i o → Each Φ os j → Each Φ (o :: os) i
theorem Each.spec {Φ : Nat → Oper → Prop} : ∀ {os : List Oper} {i : Nat}, Each Φ os i → ∀ k o, os[k]? = some o → Φ (i + k) o
  | _, _, .nil, _, _, h => by simp at h
  | _, _, .cons hj h hs, 0, o, hk => by
    simp only [List.getElem?_cons_zero, Option.some.injEq] at hk
    subst hk; exact h
  | _, _, .cons hj h hs, k + 1, o, hk => by
    subst hj
    have := hs.spec k o (by simpa using hk)
    rwa [Nat.add_assoc, Nat.add_comm 1 k] at this
theorem wp_region_each {P : Program} {os : List Oper} {Q : Exit → Act → World → Prop} {id : Nat} {a : Act} {w : World} (J : Act → Array Bool → Act → World → Prop) (hm : P.follows .mixedOrders = true)
    (hord : inOrder os 0 = true)
    (hstart : J a (Array.replicate os.length false) a w.drew)
    (hend : ∀ l a' w', (∀ i, i < os.length → l.getD i false = true) → J a l a' w' → Aside (Q .normal a' w'))
    (hstep : Each (fun i o => ∀ l a' w', l.getD i true = false → (∀ j, j ∈ needs o → l.getD j false = true) → J a l a' w' →
      ∀ K' : Act → World → Prop, Shut (∀ a' w', J a (l.setIfInBounds i true) a' w' → K' a' w') → if Region.wanted o (yielded os.toArray a'.tmps) = true then Oper.wp P o a' w' K' Q else K' (a'.put o.dst undef) w') os 0) :
    (Code.region id os.toArray true).wp P Q a w := by
  refine wp_region_inv (J a) hm ?_ (by simpa using hstart) (fun l a' w' h hI => (hend l a' w' (by simpa using h) hI).out) ?_
  · intro i o ho e he hb
    have := inOrder_spec os 0 i o hord (by simpa using ho) e.on (mem_needs he hb)
    omega
  · intro l a' w' i o ho h0 hd hI
    have h := hstep.spec i o (by simpa using ho)
    rw [Nat.zero_add] at h
    exact wpOp_step ho (h l a' w' h0 (fun j hj => by
      obtain ⟨e, he, hb, rfl⟩ := needs_mem hj
      exact hd e he hb) hI)

/-- Operation number i has come up. -/
def Lst (l : Array Bool) (i : Nat) : Prop := l.getD i false = true
theorem Lst.of_set {l : Array Bool} {i j : Nat} (h : Lst (l.setIfInBounds i true) j) (hne : i ≠ j) : Lst l j := by
  unfold Lst at *; rwa [Go.getD_set_ne false hne] at h
theorem Lst.none {n i : Nat} (h : Lst (Array.replicate n false) i) : False := by
  unfold Lst at h
  by_cases hi : i < n
  · simp [hi] at h
  · simp [hi] at h
theorem Lst.not {l : Array Bool} {i : Nat} (h : Lst l i) (h0 : l.getD i true = false) : False := by
  unfold Lst at h
  rcases Nat.lt_or_ge i l.size with h' | h'
  · simp [h'] at h h0; simp [h] at h0
  · simp [Array.getElem?_eq_none h'] at h0
def upd {α : Type} (f : Nat → α) (k : Nat) (x : α) (j : Nat) : α := if j = k then x else f j
theorem upd_same {α : Type} (f : Nat → α) (k : Nat) (x : α) : upd f k x k = x := if_pos rfl
theorem upd_eta {α : Type} {f : Nat → α} {k : Nat} {x : α} (h : f k = x) : ∃ g, f = upd g k x := ⟨f, funext fun j => by unfold upd; split <;> simp_all⟩
theorem upd_ne {α : Type} (f : Nat → α) {k j : Nat} (x : α) (h : j ≠ k) : upd f k x j = f j := if_neg h
/-- A box that may be stored into; a box that holds a Rat. -/
def Fit4 (w : World) (g : Nat) : Prop := ∃ x0 x1 x2 x3, Four w g x0 x1 x2 x3 ∧ w.frozen? ⟨g, 0, none⟩ = false ∧ w.frozen? ⟨g, 1, none⟩ = false ∧ w.frozen? ⟨g, 2, none⟩ = false ∧ w.frozen? ⟨g, 3, none⟩ = false
def Holds (w : World) (g : Nat) (v : Value) : Prop := ∃ x0 x1 x2 x3, v = .agg #[x0, x1, x2, x3] ∧ Four w g x0 x1 x2 x3
theorem Fit4.lt {w : World} {g : Nat} (h : Fit4 w g) : g < w.heap.size := let ⟨_, _, _, _, h, _⟩ := h; World.block_lt_of_cell? w _ h.1
theorem Fit4.ext {a b : World} (e : Ext a b) {g : Nat} (h : Fit4 a g) : Fit4 b g := by
  have hg := h.lt
  obtain ⟨x0, x1, x2, x3, h, f0, f1, f2, f3⟩ := h
  exact ⟨x0, x1, x2, x3, h.ext e, (e.frees g 0 hg).trans f0, (e.frees g 1 hg).trans f1, (e.frees g 2 hg).trans f2, (e.frees g 3 hg).trans f3⟩
theorem Fit4.of {w : World} {g : Nat} (h : FitZ w g) : Fit4 w g := ⟨_, _, _, _, h.1, h.2⟩
theorem set4_same {w : World} {g : Nat} {y0 y1 y2 y3 : Value} (h : Four w g y0 y1 y2 y3) (v0 v1 v2 v3 : Value) : Four (set4 w g v0 v1 v2 v3) g v0 v1 v2 v3 :=
  ⟨off_other (off_other (off_other (cell_same h.1) (by decide)) (by decide)) (by decide),
    off_other (off_other (cell_same (off_other h.2.1 (by decide))) (by decide)) (by decide),
    off_other (cell_same (off_other (off_other h.2.2.1 (by decide)) (by decide))) (by decide),
    cell_same (off_other (off_other (off_other h.2.2.2 (by decide)) (by decide)) (by decide))⟩
theorem Fit4.four {w : World} {g g' : Nat} (h : Fit4 w g) (v0 v1 v2 v3 : Value) : Fit4 (set4 w g' v0 v1 v2 v3) g := by
  obtain ⟨x0, x1, x2, x3, h, f0, f1, f2, f3⟩ := h
  by_cases hne : g' = g
  · subst hne
    exact ⟨v0, v1, v2, v3, set4_same h _ _ _ _, by simp [set4, World.frozen?_setCell, f0], by simp [set4, World.frozen?_setCell, f1], by simp [set4, World.frozen?_setCell, f2], by simp [set4, World.frozen?_setCell, f3]⟩
  · exact ⟨x0, x1, x2, x3, h.four hne _ _ _ _, by simp [set4, World.frozen?_setCell, f0], by simp [set4, World.frozen?_setCell, f1], by simp [set4, World.frozen?_setCell, f2], by simp [set4, World.frozen?_setCell, f3]⟩
theorem Holds.ext {a b : World} (e : Ext a b) {g : Nat} {v : Value} (h : Holds a g v) : Holds b g v := let ⟨x0, x1, x2, x3, h, k⟩ := h; ⟨x0, x1, x2, x3, h, k.ext e⟩
theorem Holds.four {w : World} {g g' : Nat} {v : Value} (h : Holds w g v) (hne : g' ≠ g) (v0 v1 v2 v3 : Value) : Holds (set4 w g' v0 v1 v2 v3) g v :=
  let ⟨x0, x1, x2, x3, h, k⟩ := h; ⟨x0, x1, x2, x3, h, k.four hne _ _ _ _⟩
theorem Far.ext {b : Nat} {a c d : World} (h : Far b a c) (e : Ext c d) : Far b a d :=
  ⟨Nat.le_trans h.1 e.size, fun g h1 h2 => (e.block g (Nat.lt_of_lt_of_le h2 h.1)).trans (h.2 g h1 h2)⟩
/-- What is asked of the part of the world that the region reads. -/
structure Lasts (K : World → Prop) (lo : Nat) : Prop where
  ext : ∀ w w', Ext w w' → K w → K w'
  four : ∀ w g v0 v1 v2 v3, lo ≤ g → K w → K (set4 w g v0 v1 v2 v3)
/-- The statement 'x, y, .. := f(a), f(b), ..' for Rats: loads and calls by turns, then the boxes, then the stores; in whatever order. -/
structure InvN (n : Nat) (l : Array Bool) (K : World → Prop) (lo : Nat) (ag : Nat → Value) (q : Nat → Rq) (vl vc vb : Nat → Value) (P : Nat → Nat) (w : World) : Prop where
  keep : K w
  size : lo ≤ w.heap.size
  load : ∀ k, k < n → Lst l (2 * k) → vl k = ag k
  call : ∀ k, k < n → Lst l (2 * k + 1) → ∃ b w1, RO b w1 (vc k) (q k) ∧ Far b w1 w ∧ ∀ j, j < n → Lst l (2 * n + j) → P j < b ∨ w1.heap.size ≤ P j
  box : ∀ k, k < n → Lst l (2 * n + k) → vb k = .pointer (some ⟨P k, 0, none⟩) ∧ lo ≤ P k ∧ Fit4 w (P k)
  ne : ∀ k, k < n → ∀ j, j < n → k ≠ j → Lst l (2 * n + k) → Lst l (2 * n + j) → P k ≠ P j
  full : ∀ k, k < n → Lst l (3 * n + k) → Lst l (2 * n + k) ∧ Lst l (2 * k + 1) ∧ Holds w (P k) (vc k)
namespace InvN
variable {n : Nat} {l : Array Bool} {K : World → Prop} {lo : Nat} {ag : Nat → Value} {q : Nat → Rq} {vl vc vb : Nat → Value} {P : Nat → Nat} {w : World}
theorem start {m : Nat} (hk : K w) (hs : lo ≤ w.heap.size) : InvN n (Array.replicate m false) K lo ag q vl vc vb P w :=
  ⟨hk, hs, fun _ _ h => h.none.elim, fun _ _ h => h.none.elim, fun _ _ h => h.none.elim, fun _ _ _ _ _ h => h.none.elim, fun _ _ h => h.none.elim⟩
theorem loads (I : InvN n l K lo ag q vl vc vb P w) (k : Nat) (hk : k < n) : InvN n (l.setIfInBounds (2 * k) true) K lo ag q (upd vl k (ag k)) vc vb P w where
  keep := I.keep
  size := I.size
  load j hj h := by
    by_cases e : j = k
    · subst e; exact upd_same _ _ _
    · rw [upd_ne _ _ e]; exact I.load j hj (h.of_set (by omega))
  call j hj h := by
    obtain ⟨b, w1, h1, h2, h3⟩ := I.call j hj (h.of_set (by omega))
    exact ⟨b, w1, h1, h2, fun i hi hl => h3 i hi (hl.of_set (by omega))⟩
  box j hj h := I.box j hj (h.of_set (by omega))
  ne j hj i hi hne h h' := I.ne j hj i hi hne (h.of_set (by omega)) (h'.of_set (by omega))
  full j hj h := by
    obtain ⟨h1, h2, h3⟩ := I.full j hj (h.of_set (by omega))
    exact ⟨getD_set_true h1, getD_set_true h2, h3⟩
theorem calls (I : InvN n l K lo ag q vl vc vb P w) (L : Lasts K lo) (k : Nat) (hk : k < n) (h0 : l.getD (2 * k + 1) true = false) {w' : World} {r : Value} (e : Ext w w') (hr : RO w.heap.size w' r (q k)) :
    InvN n (l.setIfInBounds (2 * k + 1) true) K lo ag q vl (upd vc k r) vb P w' where
  keep := L.ext _ _ e I.keep
  size := Nat.le_trans I.size e.size
  load j hj h := I.load j hj (h.of_set (by omega))
  call j hj h := by
    by_cases ej : j = k
    · subst ej
      refine ⟨_, w', by rw [upd_same]; exact hr, Far.of (Ext.refl _), fun i hi hl => ?_⟩
      exact .inl (I.box i hi (hl.of_set (by omega))).2.2.lt
    · obtain ⟨b, w1, h1, h2, h3⟩ := I.call j hj (h.of_set (by omega))
      exact ⟨b, w1, by rw [upd_ne _ _ ej]; exact h1, h2.ext e, fun i hi hl => h3 i hi (hl.of_set (by omega))⟩
  box j hj h := by
    obtain ⟨h1, h2, h3⟩ := I.box j hj (h.of_set (by omega))
    exact ⟨h1, h2, h3.ext e⟩
  ne j hj i hi hne h h' := I.ne j hj i hi hne (h.of_set (by omega)) (h'.of_set (by omega))
  full j hj h := by
    obtain ⟨h1, h2, h3⟩ := I.full j hj (h.of_set (by omega))
    have ej : j ≠ k := fun ej => by subst ej; exact h2.not h0
    exact ⟨getD_set_true h1, getD_set_true h2, by rw [upd_ne _ _ ej]; exact h3.ext e⟩
theorem allocs (I : InvN n l K lo ag q vl vc vb P w) (L : Lasts K lo) (k : Nat) (hk : k < n) (h0 : l.getD (2 * n + k) true = false) :
    InvN n (l.setIfInBounds (2 * n + k) true) K lo ag q vl vc (upd vb k (.pointer (some ⟨w.heap.size, 0, none⟩))) (upd P k w.heap.size) (w.alloc (.cells #[.int .i64 0, .bool false, .slice none 0 0, .slice none 0 0] 83)) where
  keep := L.ext _ _ ((Ext.refl w).alloc _) I.keep
  size := Nat.le_trans I.size ((Ext.refl w).alloc _).size
  load j hj h := I.load j hj (h.of_set (by omega))
  call j hj h := by
    obtain ⟨b, w1, h1, h2, h3⟩ := I.call j hj (h.of_set (by omega))
    refine ⟨b, w1, h1, h2.alloc _, fun i hi hl => ?_⟩
    by_cases e : i = k
    · subst e; rw [upd_same]; exact .inr h2.1
    · rw [upd_ne _ _ e]; exact h3 i hi (hl.of_set (by omega))
  box j hj h := by
    by_cases e : j = k
    · subst e; rw [upd_same, upd_same]; exact ⟨rfl, I.size, Fit4.of (FitZ.new w rfl)⟩
    · rw [upd_ne _ _ e, upd_ne _ _ e]
      obtain ⟨h1, h2, h3⟩ := I.box j hj (h.of_set (by omega))
      exact ⟨h1, h2, h3.ext ((Ext.refl w).alloc _)⟩
  ne j hj i hi hne h h' := by
    by_cases e : j = k
    · subst e
      rw [upd_same, upd_ne _ _ (fun e => hne e.symm)]
      have := (I.box i hi (h'.of_set (by omega))).2.2.lt
      omega
    · rw [upd_ne _ _ e]
      by_cases e' : i = k
      · subst e'
        rw [upd_same]
        have := (I.box j hj (h.of_set (by omega))).2.2.lt
        omega
      · rw [upd_ne _ _ e']
        exact I.ne j hj i hi hne (h.of_set (by omega)) (h'.of_set (by omega))
  full j hj h := by
    obtain ⟨h1, h2, h3⟩ := I.full j hj (h.of_set (by omega))
    have e : j ≠ k := fun e => by subst e; exact h1.not h0
    exact ⟨getD_set_true h1, getD_set_true h2, by rw [upd_ne _ _ e]; exact h3.ext ((Ext.refl w).alloc _)⟩
theorem stores (I : InvN n l K lo ag q vl vc vb P w) (L : Lasts K lo) (k : Nat) (hk : k < n) (hb : Lst l (2 * n + k)) (hc : Lst l (2 * k + 1)) {x0 x1 x2 x3 : Value} (hv : vc k = .agg #[x0, x1, x2, x3]) :
    InvN n (l.setIfInBounds (3 * n + k) true) K lo ag q vl vc vb P (set4 w (P k) x0 x1 x2 x3) where
  keep := L.four _ _ _ _ _ _ (I.box k hk hb).2.1 I.keep
  size := by simpa [set4] using I.size
  load j hj h := I.load j hj (h.of_set (by omega))
  call j hj h := by
    obtain ⟨b, w1, h1, h2, h3⟩ := I.call j hj (h.of_set (by omega))
    exact ⟨b, w1, h1, h2.four (h3 k hk hb) _ _ _ _, fun i hi hl => h3 i hi (hl.of_set (by omega))⟩
  box j hj h := by
    obtain ⟨h1, h2, h3⟩ := I.box j hj (h.of_set (by omega))
    exact ⟨h1, h2, h3.four _ _ _ _⟩
  ne j hj i hi hne h h' := I.ne j hj i hi hne (h.of_set (by omega)) (h'.of_set (by omega))
  full j hj h := by
    by_cases e : j = k
    · subst e
      obtain ⟨y0, y1, y2, y3, hf, _⟩ := (I.box j hj hb).2.2
      exact ⟨getD_set_true hb, getD_set_true hc, x0, x1, x2, x3, hv, set4_same hf _ _ _ _⟩
    · have hl := h.of_set (by omega)
      obtain ⟨h1, h2, h3⟩ := I.full j hj hl
      exact ⟨getD_set_true h1, getD_set_true h2, h3.four (I.ne k hk j hj (fun e' => e e'.symm) hb h1) _ _ _ _⟩
/-- What holds at the end. -/
theorem done (I : InvN n l K lo ag q vl vc vb P w) (hl : ∀ i, i < 4 * n → Lst l i) :
    K w ∧ (∀ k, k < n → vb k = .pointer (some ⟨P k, 0, none⟩) ∧ lo ≤ P k ∧ Holds w (P k) (vc k) ∧ RR w (vc k) (q k)) := by
  refine ⟨I.keep, fun k hk => ?_⟩
  obtain ⟨h1, h2, _⟩ := I.box k hk (hl _ (by omega))
  obtain ⟨b, w1, h3, h4, _⟩ := I.call k hk (hl _ (by omega))
  exact ⟨h1, h2, (I.full k hk (hl _ (by omega))).2.2, (h3.far h4).rr⟩
end InvN
theorem Holds.rr {w : World} {g : Nat} {v : Value} {q : Rq} (h : Holds w g v) (hr : RR w v q) :
    ∃ A c B d, v = .agg #[.int .i64 q.f, .bool q.neg, .slice A q.num.length c, .slice B q.den.length d] ∧ Four w g (.int .i64 q.f) (.bool q.neg) (.slice A q.num.length c) (.slice B q.den.length d) := by
  obtain ⟨x0, x1, x2, x3, e, h4⟩ := h
  obtain ⟨A, c, B, d, rfl⟩ := hr.form
  injection e with e
  simp only [Array.mk.injEq, List.cons.injEq, and_true] at e
  obtain ⟨rfl, rfl, rfl, rfl⟩ := e
  exact ⟨A, c, B, d, rfl, h4⟩
def two {α : Type} (x y : α) : Nat → α
  | 0 => x
  | _ => y
theorem two0 {α : Type} (x y : α) : two x y 0 = x := rfl
theorem two1 {α : Type} (x y : α) : two x y 1 = y := rfl
/-- Four boxes. -/
abbrev K4 (w : World) (P Q R S : Nat) (a0 a1 a2 a3 b0 b1 b2 b3 c0 c1 c2 c3 d0 d1 d2 d3 : Value) (w' : World) : Prop :=
  Aside (Ext w w') ∧ Four w' P a0 a1 a2 a3 ∧ Four w' Q b0 b1 b2 b3 ∧ Four w' R c0 c1 c2 c3 ∧ Four w' S d0 d1 d2 d3
theorem K4.ext {w w1 w2 : World} {P Q R S : Nat} {a0 a1 a2 a3 b0 b1 b2 b3 c0 c1 c2 c3 d0 d1 d2 d3 : Value} (e : Ext w1 w2) (h : K4 w P Q R S a0 a1 a2 a3 b0 b1 b2 b3 c0 c1 c2 c3 d0 d1 d2 d3 w1) : K4 w P Q R S a0 a1 a2 a3 b0 b1 b2 b3 c0 c1 c2 c3 d0 d1 d2 d3 w2 :=
  ⟨⟨h.1.out.trans e⟩, h.2.1.ext e, h.2.2.1.ext e, h.2.2.2.1.ext e, h.2.2.2.2.ext e⟩
theorem KeepB.four {w w' : World} {x0 x1 x2 x3 : Value} (h : KeepB w x0 x1 x2 x3 w') : Four w' w.heap.size x0 x1 x2 x3 := h.2

theorem good2 {F : FuncId} {args : Array Value} {w : World} {m : Rq × Int} {q : Rq} (h : Calls Tryz.prog F args w fun e w' => ∃ r, e = .returned (.tuple #[r, .int .i64 m.2]) ∧ RO w.heap.size w' r m.1 ∧ Ext w w') (hm : m = (q, 0)) :
    Calls Tryz.prog F args w fun e w' => ∃ r, e = .returned (.tuple #[r, .int .i64 0]) ∧ RO w.heap.size w' r q ∧ Ext w w' := by
  subst hm; exact h
theorem bad2 {F : FuncId} {args : Array Value} {w : World} {m : Rq × Int} (h : Calls Tryz.prog F args w fun e w' => ∃ r, e = .returned (.tuple #[r, .int .i64 m.2]) ∧ RO w.heap.size w' r m.1 ∧ Ext w w') (hm : m = (fq 0, 5)) :
    Calls Tryz.prog F args w fun e w' => ∃ A c B d, e = .returned (.tuple #[.agg #[.int .i64 0, .bool false, .slice A 0 c, .slice B 0 d], .int .i64 5]) ∧ Ext w w' := by
  subst hm
  refine h.mono ?_
  rintro e w' ⟨r, rfl, hr, he⟩
  obtain ⟨A, c, B, d, rfl⟩ := hr.form
  exact ⟨A, c, B, d, rfl, he⟩
theorem madeq_good {a b res q : Rq} (ka : okq a = true) (kb : okq b = true) (hq : (madeq a b res).1 = q) : madeq a b res = (q, 0) := by
  rw [← hq]; unfold madeq; rw [ka, kb]; rfl
theorem madeq_bad {a b res : Rq} (h : (okq a && okq b) = false) : madeq a b res = (fq 0, 5) := by
  unfold madeq; rw [h]; rfl
end Go.Proofs.YtcbaipnphepbeaaGreatDoor
