/- Contract of frac.Parse. Contracts of frac.digits and frac.Decimal. Contract of frac.Decimal. What every right program knows of a few numbers: fluxionlaw02.alive returns true. The law FracMakes: it returns true. Boxes of a law: what a region that draws, calls, makes variables and stores leaves. A region whose operations come in any order the edges allow: one invariant, each operation once. -/
import Derived.Test.YtcbaipnphepbeaaGreatDoorNf
import Derived.Test.YtcbaipnphepbeaaGreatDoorShelf
import Derived.Shelf.Strings.SlTrimAscii
import Derived.Test.YtcbaipnphepbeaaGreatDoorNe
import Derived.Deep.RegionHeld
import Derived.Deep.DeepCutAuto
namespace Go.Proofs.YtcbaipnphepbeaaGreatDoor
open Go.RowKit

/-- What Parse makes of the parts of a text. -/
def fparts (neg : Bool) (above : List UInt8) (two : Bool) (below : List UInt8) : Rq × Int :=
  if perr above ≠ 0 ∨ perr below ≠ 0 ∨ dval below = 0 ∨ (two = true ∧ below = [49]) then (fq 0, 5)
  else if okq ⟨0, neg, dig (dval above), dig (dval below)⟩ then (⟨0, neg, dig (dval above), dig (dval below)⟩, 0) else (fq 0, 5)
/-- What Parse returns. -/
def fparse (l : List UInt8) : Rq × Int :=
  if 4900 < l.length then (fq 0, 3)
  else if l = rangeB.data.toList then (fq 4, 0)
  else if l = zeroB.data.toList then (fq 11, 0)
  else fparts (Lib.hasPrefix l [45]) (Lib.cut (Lib.trimPrefix l [45]) [47]).1 (Lib.cut (Lib.trimPrefix l [45]) [47]).2.2 (if (Lib.cut (Lib.trimPrefix l [45]) [47]).2.2 then (Lib.cut (Lib.trimPrefix l [45]) [47]).2.1 else [49])

theorem RR.mk4 {w : World} {f : Int} {neg : Bool} {x y : Value} {xs ys : List Nat} (hx : RV w x xs) (hy : RV w y ys) : RR w (.agg #[.int .i64 f, .bool neg, x, y]) ⟨f, neg, xs, ys⟩ := ⟨x, y, rfl, hx, hy⟩
theorem toList_beq {s t : ByteArray} : (s.toList == t.toList) = decide (s.data.toList = t.data.toList) := by
  rw [Lib.toList_data, Lib.toList_data]
  by_cases h : s.data.toList = t.data.toList
  · rw [h]; simp
  · rw [decide_eq_false h]; exact beq_eq_false_iff_ne.2 h

set_option maxRecDepth 10000 in
set_option maxHeartbeats 4000000 in
theorem parse_early {w : World} {s : ByteArray} (hg : Glob w) (hs : s.size ≤ 1073741824) {m : Rq × Int} (hm : fparse s.data.toList = m)
    (hc : 4900 < s.size ∨ s.data.toList = rangeB.data.toList ∨ s.data.toList = zeroB.data.toList) :
    Calls Tryz.prog 77 #[.string s] w fun e w' => ∃ r, e = .returned (.tuple #[r, .int .i64 m.2]) ∧ RO w.heap.size w' r m.1 ∧ Ext w w' := by
  have hsz : s.data.toList.length = s.size := (Lib.size_eq s).symm
  have HG := Aside.mk hg
  have hk0 := Keep4.init (Ext.refl w) (.int .i64 0) (.bool false) (.slice none 0 0) (.slice none 0 0) 83
  have i0 := told0
  have i1 := told1
  clear hg
  by_cases h49 : 4900 < s.size
  · have HM : Aside (m = (fq 0, 3)) := ⟨by rw [← hm]; unfold fparse; rw [if_pos (by omega)]⟩
    rw [HM.out]
    have HK := Aside.mk hk0
    clear hsz hm hc hk0
    go_enter Tryz.func77, Tryz.ntmps77
    go_wp2
    refine bodyPost_ret (v := .tuple #[.agg #[.int .i64 0, .bool false, .slice none 0 0, .slice none 0 0], .int .i64 3]) (by simp [results, Tryz.results77, go_sem]) rfl ⟨_, rfl, RO.fq _ _ _, HK.out.1.out⟩
  · by_cases hr : s.data.toList = rangeB.data.toList
    · have HM : Aside (m = (fq 4, 0)) := ⟨by rw [← hm]; unfold fparse; rw [if_neg (by omega), if_pos hr]⟩
      have heq : (s.toList == rangeB.toList) = true := by rw [toList_beq]; simp [hr]
      rw [HM.out]
      clear hsz hm hc hr
      go_enter Tryz.func77, Tryz.ntmps77
      go_wp2_with (refine load_told rfl _ rfl rfl (HG.out.ext hk0.1.out) ?_)
      go_loopw [21] (fun i wr => i = .int .i64 0 ∧ Keep4 w w.heap.size wr) (fun i _ => 2 - (intOf i).toNat)
      case atStart => exact ⟨rfl, hk0⟩
      case round =>
        obtain ⟨rfl, hk1⟩ := hrel
        have hk2 := Keep4.ext ((Ext.refl wr).alloc (.cells #[.string rangeB, .int .i64 4] 142)) hk1
        clear hk0 hk1
        go_wp2_with (go_at_call 115; refine fault_calls.mono ?_; rintro e w4 ⟨rfl, he⟩; have hk4 := Keep4.ext he hk2; clear hk2 he)
        have HK := Aside.mk hk4
        refine bodyPost_ret (v := .tuple #[.agg #[.int .i64 4, .bool false, .slice none 0 0, .slice none 0 0], .int .i64 0]) (by simp [results, Tryz.results77, go_sem, hk4]) rfl ⟨_, rfl, RO.fq _ _ _, ext_set4 HK.out.1.out (Nat.le_refl _) _ _ _ _⟩
    · have hz : s.data.toList = zeroB.data.toList := by rcases hc with h | h | h <;> first | exact absurd h h49 | exact absurd h hr | exact h
      have HM : Aside (m = (fq 11, 0)) := ⟨by rw [← hm]; unfold fparse; rw [if_neg (by omega), if_neg hr, if_pos hz]⟩
      have heq : (s.toList == rangeB.toList) = false := by rw [toList_beq]; simp [hr]
      have heq2 : (s.toList == zeroB.toList) = true := by rw [toList_beq]; simp [hz]
      rw [HM.out]
      clear hsz hm hc hr hz
      go_enter Tryz.func77, Tryz.ntmps77
      go_wp2_with (refine load_told rfl _ rfl rfl (HG.out.ext hk0.1.out) ?_)
      go_loopw [21] (fun i wr => ∃ (k : Nat), k ≤ 1 ∧ i = .int .i64 (k : Int) ∧ Keep4 w w.heap.size wr) (fun i _ => 2 - (intOf i).toNat)
      case atStart => exact ⟨0, by omega, rfl, hk0⟩
      case round =>
        obtain ⟨k, hk, rfl, hk1⟩ := hrel
        obtain rfl | rfl : k = 0 ∨ k = 1 := by omega
        · have hk2 := Keep4.ext ((Ext.refl wr).alloc (.cells #[.string rangeB, .int .i64 4] 142)) hk1
          clear hk0 hk1
          go_wp2
          go_roundw
          case rel => exact ⟨1, by omega, rfl, hk2⟩
          case measure => simp [intOf]
        · have hk2 := Keep4.ext ((Ext.refl wr).alloc (.cells #[.string zeroB, .int .i64 11] 142)) hk1
          clear hk0 hk1
          go_wp2_with (go_at_call 115; refine fault_calls.mono ?_; rintro e w4 ⟨rfl, he⟩; have hk4 := Keep4.ext he hk2; clear hk2 he)
          have HK := Aside.mk hk4
          refine bodyPost_ret (v := .tuple #[.agg #[.int .i64 11, .bool false, .slice none 0 0, .slice none 0 0], .int .i64 0]) (by simp [results, Tryz.results77, go_sem, hk4]) rfl ⟨_, rfl, RO.fq _ _ _, ext_set4 HK.out.1.out (Nat.le_refl _) _ _ _ _⟩

theorem mk_toList {l : List UInt8} : (⟨l.toArray⟩ : ByteArray).data.toList = l := rfl
theorem mk_size {l : List UInt8} : (⟨l.toArray⟩ : ByteArray).size = l.length := by rw [Lib.size_eq]
theorem cut_len (l sep : List UInt8) : (Lib.cut l sep).1.length ≤ l.length ∧ (Lib.cut l sep).2.1.length ≤ l.length := by
  unfold Lib.cut
  split
  · simp only [List.length_take, List.length_drop]; omega
  · simp
theorem trimPrefix_len (l p : List UInt8) : (Lib.trimPrefix l p).length ≤ l.length := Lib.trimPrefix_le l p
set_option maxRecDepth 10000 in
set_option maxHeartbeats 4000000 in
theorem parse_main {w : World} {s : ByteArray} (hg : Glob w) {m : Rq × Int} (hm : fparse s.data.toList = m)
    (h49 : ¬ 4900 < s.size) (hr : s.data.toList ≠ rangeB.data.toList) (hz : s.data.toList ≠ zeroB.data.toList) :
    Calls Tryz.prog 77 #[.string s] w fun e w' => ∃ r, e = .returned (.tuple #[r, .int .i64 m.2]) ∧ RO w.heap.size w' r m.1 ∧ Ext w w' := by
  have hsz : s.data.toList.length = s.size := (Lib.size_eq s).symm
  have HG := Aside.mk hg
  have hk0 := Keep4.init (Ext.refl w) (.int .i64 0) (.bool false) (.slice none 0 0) (.slice none 0 0) 83
  have i0 := told0
  have i1 := told1
  have heq : (s.toList == rangeB.toList) = false := by rw [toList_beq]; simp [hr]
  have heq2 : (s.toList == zeroB.toList) = false := by rw [toList_beq]; simp [hz]
  unfold fparse at hm
  rw [if_neg (by omega), if_neg hr, if_neg hz] at hm
  obtain ⟨s1, hs1⟩ : ∃ s1 : ByteArray, (⟨(Lib.trimPrefix s.data.toList (⟨#[45]⟩ : ByteArray).data.toList).toArray⟩ : ByteArray) = s1 := ⟨_, rfl⟩
  obtain ⟨nb, hnb⟩ : ∃ nb, Lib.hasPrefix s.data.toList (⟨#[45]⟩ : ByteArray).data.toList = nb := ⟨_, rfl⟩
  have hs1l : Lib.trimPrefix s.data.toList [45] = s1.data.toList := by rw [← hs1]
  have hl1 : s1.size ≤ 4900 := by
    rw [← hs1, mk_size]
    have := trimPrefix_len s.data.toList [45]
    show (Lib.trimPrefix s.data.toList [45]).length ≤ 4900
    omega
  rw [show Lib.hasPrefix s.data.toList [45] = nb from hnb, hs1l] at hm
  obtain ⟨s2, hs2⟩ : ∃ s2 : ByteArray, (⟨(Lib.cut s1.data.toList (⟨#[47]⟩ : ByteArray).data.toList).1.toArray⟩ : ByteArray) = s2 := ⟨_, rfl⟩
  obtain ⟨s3, hs3⟩ : ∃ s3 : ByteArray, (⟨(Lib.cut s1.data.toList (⟨#[47]⟩ : ByteArray).data.toList).2.1.toArray⟩ : ByteArray) = s3 := ⟨_, rfl⟩
  obtain ⟨tw, htw⟩ : ∃ tw, (Lib.cut s1.data.toList (⟨#[47]⟩ : ByteArray).data.toList).2.2 = tw := ⟨_, rfl⟩
  have hs2l : (Lib.cut s1.data.toList [47]).1 = s2.data.toList := by rw [← hs2]
  have hs3l : (Lib.cut s1.data.toList [47]).2.1 = s3.data.toList := by rw [← hs3]
  have hcl := cut_len s1.data.toList [47]
  rw [hs2l, hs3l, ← Lib.size_eq, ← Lib.size_eq, ← Lib.size_eq] at hcl
  rw [hs2l, hs3l, show (Lib.cut s1.data.toList [47]).2.2 = tw from htw] at hm
  have HS1 := Aside.mk hs1
  have HNB := Aside.mk hnb
  have HS2 := Aside.mk hs2
  have HS3 := Aside.mk hs3
  have HTW := Aside.mk htw
  have HL1 : Aside (s1.size < 4294967281) := ⟨by omega⟩
  have HL2 : Aside (s2.size ≤ 1073741824) := ⟨by omega⟩
  have HL3 : Aside (s3.size ≤ 1073741824) := ⟨by omega⟩
  clear hg hr hz hs1 hnb hs1l hs2 hs3 htw hs2l hs3l hsz hl1 hcl
  obtain ⟨e1, he1⟩ : ∃ e, perr s2.data.toList = e := ⟨_, rfl⟩
  obtain ⟨xs1, hx1⟩ : ∃ x, pdig s2.data.toList = x := ⟨_, rfl⟩
  have HE1 := Aside.mk he1
  have HP1 := Aside.mk hx1
  generalize hsb : (if tw = true then s3.data.toList else [49]) = lb at hm
  have HLB : Aside (tw = false → lb = [49]) := ⟨fun h => by rw [← hsb, h]; rfl⟩
  have HLT : Aside (tw = true → lb = s3.data.toList) := ⟨fun h => by rw [← hsb, h]; rfl⟩
  obtain ⟨e2, he2⟩ : ∃ e, perr lb = e := ⟨_, rfl⟩
  obtain ⟨xs2, hq2⟩ : ∃ x, pdig lb = x := ⟨_, rfl⟩
  clear hsb
  by_cases h1 : e1 = 0
  · subst h1
    by_cases h2 : e2 = 0
    · subst h2
      rw [pdig_ok he1] at hx1
      have hx2 := hq2
      rw [pdig_ok he2] at hx2
      by_cases h3 : dval lb = 0
      · have HM : Aside (m = (fq 0, 5)) := ⟨by rw [← hm]; unfold fparts; rw [if_pos (.inr (.inr (.inl h3)))]⟩
        have hx2' : xs2 = [] := by rw [← hx2, h3, dig_zero]
        subst hx2'
        rw [HM.out]
        clear hm he1 h3 hx1 hx2
        cases tw
        · have HE2 : Aside (perr (⟨#[49]⟩ : ByteArray).data.toList = _) := ⟨(congrArg perr (HLB.out rfl).symm).trans he2⟩
          have HP2 : Aside (pdig (⟨#[49]⟩ : ByteArray).data.toList = _) := ⟨(congrArg pdig (HLB.out rfl).symm).trans hq2⟩
          have HL4 : Aside ((⟨#[49]⟩ : ByteArray).size ≤ 1073741824) := ⟨by decide⟩
          clear he2 hq2
          go_enter Tryz.func77, Tryz.ntmps77
          go_wp2_with (refine load_told rfl _ rfl rfl (HG.out.ext hk0.1.out) ?_)
          go_loopw [21] (fun i wr => ∃ (j : Nat), j ≤ 2 ∧ i = .int .i64 (j : Int) ∧ Keep4 w w.heap.size wr) (fun i _ => 2 - (intOf i).toNat)
          case atStart => exact ⟨0, by omega, rfl, hk0⟩
          case round =>
            obtain ⟨j, hj, rfl, hk1⟩ := hrel
            obtain rfl | rfl | rfl : j = 0 ∨ j = 1 ∨ j = 2 := by omega
            · have hk2 := Keep4.ext ((Ext.refl wr).alloc (.cells #[.string rangeB, .int .i64 4] 142)) hk1
              clear hk0 hk1
              go_wp2
              go_roundw
              case rel => exact ⟨1, by omega, rfl, hk2⟩
              case measure => simp [intOf]
            · have hk2 := Keep4.ext ((Ext.refl wr).alloc (.cells #[.string zeroB, .int .i64 11] 142)) hk1
              clear hk0 hk1
              go_wp2
              go_roundw
              case rel => exact ⟨2, by omega, rfl, hk2⟩
              case measure => simp [intOf]
            · clear hk0
              go_wp2_with (first | (go_at_call 78; refine (Tryz.strings_CutPrefix s ⟨#[45]⟩ _).mono ?_; rintro e w2 ⟨rfl, hw⟩; rw [hw, HS1.out, HNB.out]; clear hw) | (go_at_call 116; refine (Tryz.strings_Cut s1 ⟨#[47]⟩ _ _ HL1.out (Classical.choose_spec (HG.out.ext hk1.1.out).c4)).mono ?_; rintro e w3 ⟨rfl, hw⟩; rw [HS2.out, HS3.out, HTW.out]; have hk2 := Keep4.ext (Ext.of_drewN hw) hk1; clear hk1 hw) | (go_at_call 117; with_reducible refine (Parse_calls HL2.out).mono ?_; rintro e w4 ⟨r1, rfl, hr, he⟩; have hk3 := Keep4.ext he hk2; have HW2 := Aside.mk (World.block_lt_of_cell? _ _ hk2.2.1.1); rw [HP1.out] at hr; rw [HE1.out]; have HR1 := Aside.mk hr; obtain ⟨A1, c1, rfl, _⟩ := hr.form; clear hk2 hr he) | (go_at_call 117; with_reducible refine (Parse_calls HL4.out).mono ?_; rintro e w5 ⟨r2, rfl, hr, he⟩; have hk4 := Keep4.ext he hk3; have HW4 := Aside.mk he; have HW3 := Aside.mk (World.block_lt_of_cell? _ _ hk3.2.1.1); rw [HP2.out] at hr; rw [HE2.out]; have HR2 := Aside.mk hr; obtain ⟨A2, c2, rfl, _⟩ := hr.form; clear hk3 hr he) | (go_at_call 61; with_reducible refine (israt_b (q := ⟨0, nb, xs1, xs2⟩) ?h HOK.out).mono ?_; (case h => exact RR.mk4 (HR1.out.rv.ext (HW4.out.trans ((Ext.refl _).alloc _))) (HR2.out.rv.ext ((Ext.refl _).alloc _))); rintro e w6 ⟨rfl, he⟩; have hk5 := Keep4.ext he (Keep4.ext ((Ext.refl w5).alloc (.cells #[.int .i64 0, .bool nb, .slice A1 xs1.length c1, .slice A2 xs2.length c2] 83)) hk4); have hb5 := KeepB.ext he (KeepB.init w5 (.int .i64 0) (.bool nb) (.slice A1 xs1.length c1) (.slice A2 xs2.length c2) 83); clear hk4 he))
              have HK := Aside.mk hk4
              refine bodyPost_ret (v := .tuple #[.agg #[.int .i64 0, .bool false, .slice none 0 0, .slice none 0 0], .int .i64 5]) (by simp [results, Tryz.results77, go_sem, hk4]) rfl ⟨_, rfl, RO.fq _ _ _, ext_set4 HK.out.1.out (Nat.le_refl _) _ _ _ _⟩
        · have HE2 : Aside (perr s3.data.toList = _) := ⟨(congrArg perr (HLT.out rfl).symm).trans he2⟩
          have HP2 : Aside (pdig s3.data.toList = _) := ⟨(congrArg pdig (HLT.out rfl).symm).trans hq2⟩
          have HL4 := HL3
          clear he2 hq2
          go_enter Tryz.func77, Tryz.ntmps77
          go_wp2_with (refine load_told rfl _ rfl rfl (HG.out.ext hk0.1.out) ?_)
          go_loopw [21] (fun i wr => ∃ (j : Nat), j ≤ 2 ∧ i = .int .i64 (j : Int) ∧ Keep4 w w.heap.size wr) (fun i _ => 2 - (intOf i).toNat)
          case atStart => exact ⟨0, by omega, rfl, hk0⟩
          case round =>
            obtain ⟨j, hj, rfl, hk1⟩ := hrel
            obtain rfl | rfl | rfl : j = 0 ∨ j = 1 ∨ j = 2 := by omega
            · have hk2 := Keep4.ext ((Ext.refl wr).alloc (.cells #[.string rangeB, .int .i64 4] 142)) hk1
              clear hk0 hk1
              go_wp2
              go_roundw
              case rel => exact ⟨1, by omega, rfl, hk2⟩
              case measure => simp [intOf]
            · have hk2 := Keep4.ext ((Ext.refl wr).alloc (.cells #[.string zeroB, .int .i64 11] 142)) hk1
              clear hk0 hk1
              go_wp2
              go_roundw
              case rel => exact ⟨2, by omega, rfl, hk2⟩
              case measure => simp [intOf]
            · clear hk0
              go_wp2_with (first | (go_at_call 78; refine (Tryz.strings_CutPrefix s ⟨#[45]⟩ _).mono ?_; rintro e w2 ⟨rfl, hw⟩; rw [hw, HS1.out, HNB.out]; clear hw) | (go_at_call 116; refine (Tryz.strings_Cut s1 ⟨#[47]⟩ _ _ HL1.out (Classical.choose_spec (HG.out.ext hk1.1.out).c4)).mono ?_; rintro e w3 ⟨rfl, hw⟩; rw [HS2.out, HS3.out, HTW.out]; have hk2 := Keep4.ext (Ext.of_drewN hw) hk1; clear hk1 hw) | (go_at_call 117; with_reducible refine (Parse_calls HL2.out).mono ?_; rintro e w4 ⟨r1, rfl, hr, he⟩; have hk3 := Keep4.ext he hk2; have HW2 := Aside.mk (World.block_lt_of_cell? _ _ hk2.2.1.1); rw [HP1.out] at hr; rw [HE1.out]; have HR1 := Aside.mk hr; obtain ⟨A1, c1, rfl, _⟩ := hr.form; clear hk2 hr he) | (go_at_call 117; with_reducible refine (Parse_calls HL4.out).mono ?_; rintro e w5 ⟨r2, rfl, hr, he⟩; have hk4 := Keep4.ext he hk3; have HW4 := Aside.mk he; have HW3 := Aside.mk (World.block_lt_of_cell? _ _ hk3.2.1.1); rw [HP2.out] at hr; rw [HE2.out]; have HR2 := Aside.mk hr; obtain ⟨A2, c2, rfl, _⟩ := hr.form; clear hk3 hr he) | (go_at_call 61; with_reducible refine (israt_b (q := ⟨0, nb, xs1, xs2⟩) ?h HOK.out).mono ?_; (case h => exact RR.mk4 (HR1.out.rv.ext (HW4.out.trans ((Ext.refl _).alloc _))) (HR2.out.rv.ext ((Ext.refl _).alloc _))); rintro e w6 ⟨rfl, he⟩; have hk5 := Keep4.ext he (Keep4.ext ((Ext.refl w5).alloc (.cells #[.int .i64 0, .bool nb, .slice A1 xs1.length c1, .slice A2 xs2.length c2] 83)) hk4); have hb5 := KeepB.ext he (KeepB.init w5 (.int .i64 0) (.bool nb) (.slice A1 xs1.length c1) (.slice A2 xs2.length c2) 83); clear hk4 he))
              have HK := Aside.mk hk4
              refine bodyPost_ret (v := .tuple #[.agg #[.int .i64 0, .bool false, .slice none 0 0, .slice none 0 0], .int .i64 5]) (by simp [results, Tryz.results77, go_sem, hk4]) rfl ⟨_, rfl, RO.fq _ _ _, ext_set4 HK.out.1.out (Nat.le_refl _) _ _ _ _⟩
      · have hd3 : (((xs2.length : Nat) : Int) == 0) = false := beq_eq_false_iff_ne.2 (by
          intro h
          apply h3
          exact dig_nil_iff.1 (by rw [hx2]; exact List.eq_nil_of_length_eq_zero (by omega)))
        by_cases h4 : tw = true ∧ lb = [49]
        · have HM : Aside (m = (fq 0, 5)) := ⟨by rw [← hm]; unfold fparts; rw [if_pos (.inr (.inr (.inr h4)))]⟩
          obtain ⟨h4a, h4b⟩ := h4
          subst h4a
          have HE2 : Aside (perr s3.data.toList = _) := ⟨(congrArg perr (HLT.out rfl).symm).trans he2⟩
          have HP2 : Aside (pdig s3.data.toList = _) := ⟨(congrArg pdig (HLT.out rfl).symm).trans hq2⟩
          have HL4 := HL3
          have hs3 : (s3.toList == [49]) = true := by rw [Lib.toList_data, ← HLT.out rfl, h4b]; rfl
          rw [HM.out]
          clear hm he1 h3 h4b hx1 he2 hx2
          go_enter Tryz.func77, Tryz.ntmps77
          go_wp2_with (refine load_told rfl _ rfl rfl (HG.out.ext hk0.1.out) ?_)
          go_loopw [21] (fun i wr => ∃ (j : Nat), j ≤ 2 ∧ i = .int .i64 (j : Int) ∧ Keep4 w w.heap.size wr) (fun i _ => 2 - (intOf i).toNat)
          case atStart => exact ⟨0, by omega, rfl, hk0⟩
          case round =>
            obtain ⟨j, hj, rfl, hk1⟩ := hrel
            obtain rfl | rfl | rfl : j = 0 ∨ j = 1 ∨ j = 2 := by omega
            · have hk2 := Keep4.ext ((Ext.refl wr).alloc (.cells #[.string rangeB, .int .i64 4] 142)) hk1
              clear hk0 hk1
              go_wp2
              go_roundw
              case rel => exact ⟨1, by omega, rfl, hk2⟩
              case measure => simp [intOf]
            · have hk2 := Keep4.ext ((Ext.refl wr).alloc (.cells #[.string zeroB, .int .i64 11] 142)) hk1
              clear hk0 hk1
              go_wp2
              go_roundw
              case rel => exact ⟨2, by omega, rfl, hk2⟩
              case measure => simp [intOf]
            · clear hk0
              go_wp2_with (first | (go_at_call 78; refine (Tryz.strings_CutPrefix s ⟨#[45]⟩ _).mono ?_; rintro e w2 ⟨rfl, hw⟩; rw [hw, HS1.out, HNB.out]; clear hw) | (go_at_call 116; refine (Tryz.strings_Cut s1 ⟨#[47]⟩ _ _ HL1.out (Classical.choose_spec (HG.out.ext hk1.1.out).c4)).mono ?_; rintro e w3 ⟨rfl, hw⟩; rw [HS2.out, HS3.out, HTW.out]; have hk2 := Keep4.ext (Ext.of_drewN hw) hk1; clear hk1 hw) | (go_at_call 117; with_reducible refine (Parse_calls HL2.out).mono ?_; rintro e w4 ⟨r1, rfl, hr, he⟩; have hk3 := Keep4.ext he hk2; have HW2 := Aside.mk (World.block_lt_of_cell? _ _ hk2.2.1.1); rw [HP1.out] at hr; rw [HE1.out]; have HR1 := Aside.mk hr; obtain ⟨A1, c1, rfl, _⟩ := hr.form; clear hk2 hr he) | (go_at_call 117; with_reducible refine (Parse_calls HL4.out).mono ?_; rintro e w5 ⟨r2, rfl, hr, he⟩; have hk4 := Keep4.ext he hk3; have HW4 := Aside.mk he; have HW3 := Aside.mk (World.block_lt_of_cell? _ _ hk3.2.1.1); rw [HP2.out] at hr; rw [HE2.out]; have HR2 := Aside.mk hr; obtain ⟨A2, c2, rfl, _⟩ := hr.form; clear hk3 hr he) | (go_at_call 61; with_reducible refine (israt_b (q := ⟨0, nb, xs1, xs2⟩) ?h HOK.out).mono ?_; (case h => exact RR.mk4 (HR1.out.rv.ext (HW4.out.trans ((Ext.refl _).alloc _))) (HR2.out.rv.ext ((Ext.refl _).alloc _))); rintro e w6 ⟨rfl, he⟩; have hk5 := Keep4.ext he (Keep4.ext ((Ext.refl w5).alloc (.cells #[.int .i64 0, .bool nb, .slice A1 xs1.length c1, .slice A2 xs2.length c2] 83)) hk4); have hb5 := KeepB.ext he (KeepB.init w5 (.int .i64 0) (.bool nb) (.slice A1 xs1.length c1) (.slice A2 xs2.length c2) 83); clear hk4 he))
              have HK := Aside.mk hk4
              refine bodyPost_ret (v := .tuple #[.agg #[.int .i64 0, .bool false, .slice none 0 0, .slice none 0 0], .int .i64 5]) (by simp [results, Tryz.results77, go_sem, hk4]) rfl ⟨_, rfl, RO.fq _ _ _, ext_set4 HK.out.1.out (Nat.le_refl _) _ _ _ _⟩
        · rw [fparts, if_neg (by rw [he1, he2]; rintro (h | h | h | h) <;> first | exact absurd rfl h | exact h3 h | exact h4 h), hx1, hx2] at hm
          cases hok : okq ⟨0, nb, xs1, xs2⟩
          · have HOK := Aside.mk hok
            have HM : Aside (m = (fq 0, 5)) := ⟨by rw [← hm, hok]; rfl⟩
            rw [HM.out]
            clear hm he1 h3 hx1 hx2 hok
            cases tw
            · have HE2 : Aside (perr (⟨#[49]⟩ : ByteArray).data.toList = _) := ⟨(congrArg perr (HLB.out rfl).symm).trans he2⟩
              have HP2 : Aside (pdig (⟨#[49]⟩ : ByteArray).data.toList = _) := ⟨(congrArg pdig (HLB.out rfl).symm).trans hq2⟩
              have HL4 : Aside ((⟨#[49]⟩ : ByteArray).size ≤ 1073741824) := ⟨by decide⟩
              clear he2 hq2 h4
              go_enter Tryz.func77, Tryz.ntmps77
              go_wp2_with (refine load_told rfl _ rfl rfl (HG.out.ext hk0.1.out) ?_)
              go_loopw [21] (fun i wr => ∃ (j : Nat), j ≤ 2 ∧ i = .int .i64 (j : Int) ∧ Keep4 w w.heap.size wr) (fun i _ => 2 - (intOf i).toNat)
              case atStart => exact ⟨0, by omega, rfl, hk0⟩
              case round =>
                obtain ⟨j, hj, rfl, hk1⟩ := hrel
                obtain rfl | rfl | rfl : j = 0 ∨ j = 1 ∨ j = 2 := by omega
                · have hk2 := Keep4.ext ((Ext.refl wr).alloc (.cells #[.string rangeB, .int .i64 4] 142)) hk1
                  clear hk0 hk1
                  go_wp2
                  go_roundw
                  case rel => exact ⟨1, by omega, rfl, hk2⟩
                  case measure => simp [intOf]
                · have hk2 := Keep4.ext ((Ext.refl wr).alloc (.cells #[.string zeroB, .int .i64 11] 142)) hk1
                  clear hk0 hk1
                  go_wp2
                  go_roundw
                  case rel => exact ⟨2, by omega, rfl, hk2⟩
                  case measure => simp [intOf]
                · clear hk0
                  go_wp2_with (first | (go_at_call 78; refine (Tryz.strings_CutPrefix s ⟨#[45]⟩ _).mono ?_; rintro e w2 ⟨rfl, hw⟩; rw [hw, HS1.out, HNB.out]; clear hw) | (go_at_call 116; refine (Tryz.strings_Cut s1 ⟨#[47]⟩ _ _ HL1.out (Classical.choose_spec (HG.out.ext hk1.1.out).c4)).mono ?_; rintro e w3 ⟨rfl, hw⟩; rw [HS2.out, HS3.out, HTW.out]; have hk2 := Keep4.ext (Ext.of_drewN hw) hk1; clear hk1 hw) | (go_at_call 117; with_reducible refine (Parse_calls HL2.out).mono ?_; rintro e w4 ⟨r1, rfl, hr, he⟩; have hk3 := Keep4.ext he hk2; have HW2 := Aside.mk (World.block_lt_of_cell? _ _ hk2.2.1.1); rw [HP1.out] at hr; rw [HE1.out]; have HR1 := Aside.mk hr; obtain ⟨A1, c1, rfl, _⟩ := hr.form; clear hk2 hr he) | (go_at_call 117; with_reducible refine (Parse_calls HL4.out).mono ?_; rintro e w5 ⟨r2, rfl, hr, he⟩; have hk4 := Keep4.ext he hk3; have HW4 := Aside.mk he; have HW3 := Aside.mk (World.block_lt_of_cell? _ _ hk3.2.1.1); rw [HP2.out] at hr; rw [HE2.out]; have HR2 := Aside.mk hr; obtain ⟨A2, c2, rfl, _⟩ := hr.form; clear hk3 hr he) | (go_at_call 61; with_reducible refine (israt_b (q := ⟨0, nb, xs1, xs2⟩) ?h HOK.out).mono ?_; (case h => exact RR.mk4 (HR1.out.rv.ext (HW4.out.trans ((Ext.refl _).alloc _))) (HR2.out.rv.ext ((Ext.refl _).alloc _))); rintro e w6 ⟨rfl, he⟩; have hk5 := Keep4.ext he (Keep4.ext ((Ext.refl w5).alloc (.cells #[.int .i64 0, .bool nb, .slice A1 xs1.length c1, .slice A2 xs2.length c2] 83)) hk4); have hb5 := KeepB.ext he (KeepB.init w5 (.int .i64 0) (.bool nb) (.slice A1 xs1.length c1) (.slice A2 xs2.length c2) 83); clear hk4 he))
                  have HK := Aside.mk hk5
                  refine bodyPost_ret (v := .tuple #[.agg #[.int .i64 0, .bool false, .slice none 0 0, .slice none 0 0], .int .i64 5]) (by simp [results, Tryz.results77, go_sem, hk5]) rfl ⟨_, rfl, RO.fq _ _ _, ext_set4 HK.out.1.out (Nat.le_refl _) _ _ _ _⟩
            · have HE2 : Aside (perr s3.data.toList = _) := ⟨(congrArg perr (HLT.out rfl).symm).trans he2⟩
              have HP2 : Aside (pdig s3.data.toList = _) := ⟨(congrArg pdig (HLT.out rfl).symm).trans hq2⟩
              have HL4 := HL3
              have hs3 : (s3.toList == [49]) = false := by
                rw [Lib.toList_data, ← HLT.out rfl]; exact beq_eq_false_iff_ne.2 (fun h => h4 ⟨rfl, h⟩)
              clear he2 hq2 h4
              go_enter Tryz.func77, Tryz.ntmps77
              go_wp2_with (refine load_told rfl _ rfl rfl (HG.out.ext hk0.1.out) ?_)
              go_loopw [21] (fun i wr => ∃ (j : Nat), j ≤ 2 ∧ i = .int .i64 (j : Int) ∧ Keep4 w w.heap.size wr) (fun i _ => 2 - (intOf i).toNat)
              case atStart => exact ⟨0, by omega, rfl, hk0⟩
              case round =>
                obtain ⟨j, hj, rfl, hk1⟩ := hrel
                obtain rfl | rfl | rfl : j = 0 ∨ j = 1 ∨ j = 2 := by omega
                · have hk2 := Keep4.ext ((Ext.refl wr).alloc (.cells #[.string rangeB, .int .i64 4] 142)) hk1
                  clear hk0 hk1
                  go_wp2
                  go_roundw
                  case rel => exact ⟨1, by omega, rfl, hk2⟩
                  case measure => simp [intOf]
                · have hk2 := Keep4.ext ((Ext.refl wr).alloc (.cells #[.string zeroB, .int .i64 11] 142)) hk1
                  clear hk0 hk1
                  go_wp2
                  go_roundw
                  case rel => exact ⟨2, by omega, rfl, hk2⟩
                  case measure => simp [intOf]
                · clear hk0
                  go_wp2_with (first | (go_at_call 78; refine (Tryz.strings_CutPrefix s ⟨#[45]⟩ _).mono ?_; rintro e w2 ⟨rfl, hw⟩; rw [hw, HS1.out, HNB.out]; clear hw) | (go_at_call 116; refine (Tryz.strings_Cut s1 ⟨#[47]⟩ _ _ HL1.out (Classical.choose_spec (HG.out.ext hk1.1.out).c4)).mono ?_; rintro e w3 ⟨rfl, hw⟩; rw [HS2.out, HS3.out, HTW.out]; have hk2 := Keep4.ext (Ext.of_drewN hw) hk1; clear hk1 hw) | (go_at_call 117; with_reducible refine (Parse_calls HL2.out).mono ?_; rintro e w4 ⟨r1, rfl, hr, he⟩; have hk3 := Keep4.ext he hk2; have HW2 := Aside.mk (World.block_lt_of_cell? _ _ hk2.2.1.1); rw [HP1.out] at hr; rw [HE1.out]; have HR1 := Aside.mk hr; obtain ⟨A1, c1, rfl, _⟩ := hr.form; clear hk2 hr he) | (go_at_call 117; with_reducible refine (Parse_calls HL4.out).mono ?_; rintro e w5 ⟨r2, rfl, hr, he⟩; have hk4 := Keep4.ext he hk3; have HW4 := Aside.mk he; have HW3 := Aside.mk (World.block_lt_of_cell? _ _ hk3.2.1.1); rw [HP2.out] at hr; rw [HE2.out]; have HR2 := Aside.mk hr; obtain ⟨A2, c2, rfl, _⟩ := hr.form; clear hk3 hr he) | (go_at_call 61; with_reducible refine (israt_b (q := ⟨0, nb, xs1, xs2⟩) ?h HOK.out).mono ?_; (case h => exact RR.mk4 (HR1.out.rv.ext (HW4.out.trans ((Ext.refl _).alloc _))) (HR2.out.rv.ext ((Ext.refl _).alloc _))); rintro e w6 ⟨rfl, he⟩; have hk5 := Keep4.ext he (Keep4.ext ((Ext.refl w5).alloc (.cells #[.int .i64 0, .bool nb, .slice A1 xs1.length c1, .slice A2 xs2.length c2] 83)) hk4); have hb5 := KeepB.ext he (KeepB.init w5 (.int .i64 0) (.bool nb) (.slice A1 xs1.length c1) (.slice A2 xs2.length c2) 83); clear hk4 he))
                  have HK := Aside.mk hk5
                  refine bodyPost_ret (v := .tuple #[.agg #[.int .i64 0, .bool false, .slice none 0 0, .slice none 0 0], .int .i64 5]) (by simp [results, Tryz.results77, go_sem, hk5]) rfl ⟨_, rfl, RO.fq _ _ _, ext_set4 HK.out.1.out (Nat.le_refl _) _ _ _ _⟩
          · have HOK := Aside.mk hok
            have HM : Aside (m = (⟨0, nb, xs1, xs2⟩, 0)) := ⟨by rw [← hm, hok]; rfl⟩
            rw [HM.out]
            clear hm he1 h3 hx1 hx2 hok
            cases tw
            · have HE2 : Aside (perr (⟨#[49]⟩ : ByteArray).data.toList = _) := ⟨(congrArg perr (HLB.out rfl).symm).trans he2⟩
              have HP2 : Aside (pdig (⟨#[49]⟩ : ByteArray).data.toList = _) := ⟨(congrArg pdig (HLB.out rfl).symm).trans hq2⟩
              have HL4 : Aside ((⟨#[49]⟩ : ByteArray).size ≤ 1073741824) := ⟨by decide⟩
              clear he2 hq2 h4
              go_enter Tryz.func77, Tryz.ntmps77
              go_wp2_with (refine load_told rfl _ rfl rfl (HG.out.ext hk0.1.out) ?_)
              go_loopw [21] (fun i wr => ∃ (j : Nat), j ≤ 2 ∧ i = .int .i64 (j : Int) ∧ Keep4 w w.heap.size wr) (fun i _ => 2 - (intOf i).toNat)
              case atStart => exact ⟨0, by omega, rfl, hk0⟩
              case round =>
                obtain ⟨j, hj, rfl, hk1⟩ := hrel
                obtain rfl | rfl | rfl : j = 0 ∨ j = 1 ∨ j = 2 := by omega
                · have hk2 := Keep4.ext ((Ext.refl wr).alloc (.cells #[.string rangeB, .int .i64 4] 142)) hk1
                  clear hk0 hk1
                  go_wp2
                  go_roundw
                  case rel => exact ⟨1, by omega, rfl, hk2⟩
                  case measure => simp [intOf]
                · have hk2 := Keep4.ext ((Ext.refl wr).alloc (.cells #[.string zeroB, .int .i64 11] 142)) hk1
                  clear hk0 hk1
                  go_wp2
                  go_roundw
                  case rel => exact ⟨2, by omega, rfl, hk2⟩
                  case measure => simp [intOf]
                · clear hk0
                  go_wp2_with (first | (go_at_call 78; refine (Tryz.strings_CutPrefix s ⟨#[45]⟩ _).mono ?_; rintro e w2 ⟨rfl, hw⟩; rw [hw, HS1.out, HNB.out]; clear hw) | (go_at_call 116; refine (Tryz.strings_Cut s1 ⟨#[47]⟩ _ _ HL1.out (Classical.choose_spec (HG.out.ext hk1.1.out).c4)).mono ?_; rintro e w3 ⟨rfl, hw⟩; rw [HS2.out, HS3.out, HTW.out]; have hk2 := Keep4.ext (Ext.of_drewN hw) hk1; clear hk1 hw) | (go_at_call 117; with_reducible refine (Parse_calls HL2.out).mono ?_; rintro e w4 ⟨r1, rfl, hr, he⟩; have hk3 := Keep4.ext he hk2; have HW2 := Aside.mk (World.block_lt_of_cell? _ _ hk2.2.1.1); rw [HP1.out] at hr; rw [HE1.out]; have HR1 := Aside.mk hr; obtain ⟨A1, c1, rfl, _⟩ := hr.form; clear hk2 hr he) | (go_at_call 117; with_reducible refine (Parse_calls HL4.out).mono ?_; rintro e w5 ⟨r2, rfl, hr, he⟩; have hk4 := Keep4.ext he hk3; have HW4 := Aside.mk he; have HW3 := Aside.mk (World.block_lt_of_cell? _ _ hk3.2.1.1); rw [HP2.out] at hr; rw [HE2.out]; have HR2 := Aside.mk hr; obtain ⟨A2, c2, rfl, _⟩ := hr.form; clear hk3 hr he) | (go_at_call 61; with_reducible refine (israt_b (q := ⟨0, nb, xs1, xs2⟩) ?h HOK.out).mono ?_; (case h => exact RR.mk4 (HR1.out.rv.ext (HW4.out.trans ((Ext.refl _).alloc _))) (HR2.out.rv.ext ((Ext.refl _).alloc _))); rintro e w6 ⟨rfl, he⟩; have hk5 := Keep4.ext he (Keep4.ext ((Ext.refl w5).alloc (.cells #[.int .i64 0, .bool nb, .slice A1 xs1.length c1, .slice A2 xs2.length c2] 83)) hk4); have hb5 := KeepB.ext he (KeepB.init w5 (.int .i64 0) (.bool nb) (.slice A1 xs1.length c1) (.slice A2 xs2.length c2) 83); clear hk4 he))
                  have HK := Aside.mk hk5
                  have HB := Aside.mk hb5
                  refine bodyPost_ret (v := .tuple #[.agg #[.int .i64 0, .bool nb, .slice A1 xs1.length c1, .slice A2 xs2.length c2], .int .i64 0]) (by simp [results, Tryz.results77, go_sem, hk5]) rfl ⟨_, rfl, ⟨_, _, rfl, ?_, ?_⟩, ext_set4 HK.out.1.out (Nat.le_refl _) _ _ _ _⟩
                  · exact ((HR1.out.ext (HW4.out.trans HB.out.1.out)).set4 HW2.out _ _ _ _).mono (Nat.le_of_lt HW2.out)
                  · exact ((HR2.out.ext HB.out.1.out).set4 HW3.out _ _ _ _).mono (Nat.le_of_lt HW3.out)
            · have HE2 : Aside (perr s3.data.toList = _) := ⟨(congrArg perr (HLT.out rfl).symm).trans he2⟩
              have HP2 : Aside (pdig s3.data.toList = _) := ⟨(congrArg pdig (HLT.out rfl).symm).trans hq2⟩
              have HL4 := HL3
              have hs3 : (s3.toList == [49]) = false := by
                rw [Lib.toList_data, ← HLT.out rfl]; exact beq_eq_false_iff_ne.2 (fun h => h4 ⟨rfl, h⟩)
              clear he2 hq2 h4
              go_enter Tryz.func77, Tryz.ntmps77
              go_wp2_with (refine load_told rfl _ rfl rfl (HG.out.ext hk0.1.out) ?_)
              go_loopw [21] (fun i wr => ∃ (j : Nat), j ≤ 2 ∧ i = .int .i64 (j : Int) ∧ Keep4 w w.heap.size wr) (fun i _ => 2 - (intOf i).toNat)
              case atStart => exact ⟨0, by omega, rfl, hk0⟩
              case round =>
                obtain ⟨j, hj, rfl, hk1⟩ := hrel
                obtain rfl | rfl | rfl : j = 0 ∨ j = 1 ∨ j = 2 := by omega
                · have hk2 := Keep4.ext ((Ext.refl wr).alloc (.cells #[.string rangeB, .int .i64 4] 142)) hk1
                  clear hk0 hk1
                  go_wp2
                  go_roundw
                  case rel => exact ⟨1, by omega, rfl, hk2⟩
                  case measure => simp [intOf]
                · have hk2 := Keep4.ext ((Ext.refl wr).alloc (.cells #[.string zeroB, .int .i64 11] 142)) hk1
                  clear hk0 hk1
                  go_wp2
                  go_roundw
                  case rel => exact ⟨2, by omega, rfl, hk2⟩
                  case measure => simp [intOf]
                · clear hk0
                  go_wp2_with (first | (go_at_call 78; refine (Tryz.strings_CutPrefix s ⟨#[45]⟩ _).mono ?_; rintro e w2 ⟨rfl, hw⟩; rw [hw, HS1.out, HNB.out]; clear hw) | (go_at_call 116; refine (Tryz.strings_Cut s1 ⟨#[47]⟩ _ _ HL1.out (Classical.choose_spec (HG.out.ext hk1.1.out).c4)).mono ?_; rintro e w3 ⟨rfl, hw⟩; rw [HS2.out, HS3.out, HTW.out]; have hk2 := Keep4.ext (Ext.of_drewN hw) hk1; clear hk1 hw) | (go_at_call 117; with_reducible refine (Parse_calls HL2.out).mono ?_; rintro e w4 ⟨r1, rfl, hr, he⟩; have hk3 := Keep4.ext he hk2; have HW2 := Aside.mk (World.block_lt_of_cell? _ _ hk2.2.1.1); rw [HP1.out] at hr; rw [HE1.out]; have HR1 := Aside.mk hr; obtain ⟨A1, c1, rfl, _⟩ := hr.form; clear hk2 hr he) | (go_at_call 117; with_reducible refine (Parse_calls HL4.out).mono ?_; rintro e w5 ⟨r2, rfl, hr, he⟩; have hk4 := Keep4.ext he hk3; have HW4 := Aside.mk he; have HW3 := Aside.mk (World.block_lt_of_cell? _ _ hk3.2.1.1); rw [HP2.out] at hr; rw [HE2.out]; have HR2 := Aside.mk hr; obtain ⟨A2, c2, rfl, _⟩ := hr.form; clear hk3 hr he) | (go_at_call 61; with_reducible refine (israt_b (q := ⟨0, nb, xs1, xs2⟩) ?h HOK.out).mono ?_; (case h => exact RR.mk4 (HR1.out.rv.ext (HW4.out.trans ((Ext.refl _).alloc _))) (HR2.out.rv.ext ((Ext.refl _).alloc _))); rintro e w6 ⟨rfl, he⟩; have hk5 := Keep4.ext he (Keep4.ext ((Ext.refl w5).alloc (.cells #[.int .i64 0, .bool nb, .slice A1 xs1.length c1, .slice A2 xs2.length c2] 83)) hk4); have hb5 := KeepB.ext he (KeepB.init w5 (.int .i64 0) (.bool nb) (.slice A1 xs1.length c1) (.slice A2 xs2.length c2) 83); clear hk4 he))
                  have HK := Aside.mk hk5
                  have HB := Aside.mk hb5
                  refine bodyPost_ret (v := .tuple #[.agg #[.int .i64 0, .bool nb, .slice A1 xs1.length c1, .slice A2 xs2.length c2], .int .i64 0]) (by simp [results, Tryz.results77, go_sem, hk5]) rfl ⟨_, rfl, ⟨_, _, rfl, ?_, ?_⟩, ext_set4 HK.out.1.out (Nat.le_refl _) _ _ _ _⟩
                  · exact ((HR1.out.ext (HW4.out.trans HB.out.1.out)).set4 HW2.out _ _ _ _).mono (Nat.le_of_lt HW2.out)
                  · exact ((HR2.out.ext HB.out.1.out).set4 HW3.out _ _ _ _).mono (Nat.le_of_lt HW3.out)
    · have HM : Aside (m = (fq 0, 5)) := ⟨by rw [← hm]; unfold fparts; rw [if_pos (.inr (.inl (by rw [he2]; exact h2)))]⟩
      have h20 : ((e2 : Int) == 0) = false := beq_eq_false_iff_ne.2 (by omega)
      have h21 : ((e2 : Int) != 0) = true := by simp [bne, h20]
      rw [HM.out]
      clear hm he1 h2 hx1
      cases tw
      · have HE2 : Aside (perr (⟨#[49]⟩ : ByteArray).data.toList = _) := ⟨(congrArg perr (HLB.out rfl).symm).trans he2⟩
        have HP2 : Aside (pdig (⟨#[49]⟩ : ByteArray).data.toList = _) := ⟨(congrArg pdig (HLB.out rfl).symm).trans hq2⟩
        have HL4 : Aside ((⟨#[49]⟩ : ByteArray).size ≤ 1073741824) := ⟨by decide⟩
        clear he2 hq2
        go_enter Tryz.func77, Tryz.ntmps77
        go_wp2_with (refine load_told rfl _ rfl rfl (HG.out.ext hk0.1.out) ?_)
        go_loopw [21] (fun i wr => ∃ (j : Nat), j ≤ 2 ∧ i = .int .i64 (j : Int) ∧ Keep4 w w.heap.size wr) (fun i _ => 2 - (intOf i).toNat)
        case atStart => exact ⟨0, by omega, rfl, hk0⟩
        case round =>
          obtain ⟨j, hj, rfl, hk1⟩ := hrel
          obtain rfl | rfl | rfl : j = 0 ∨ j = 1 ∨ j = 2 := by omega
          · have hk2 := Keep4.ext ((Ext.refl wr).alloc (.cells #[.string rangeB, .int .i64 4] 142)) hk1
            clear hk0 hk1
            go_wp2
            go_roundw
            case rel => exact ⟨1, by omega, rfl, hk2⟩
            case measure => simp [intOf]
          · have hk2 := Keep4.ext ((Ext.refl wr).alloc (.cells #[.string zeroB, .int .i64 11] 142)) hk1
            clear hk0 hk1
            go_wp2
            go_roundw
            case rel => exact ⟨2, by omega, rfl, hk2⟩
            case measure => simp [intOf]
          · clear hk0
            go_wp2_with (first | (go_at_call 78; refine (Tryz.strings_CutPrefix s ⟨#[45]⟩ _).mono ?_; rintro e w2 ⟨rfl, hw⟩; rw [hw, HS1.out, HNB.out]; clear hw) | (go_at_call 116; refine (Tryz.strings_Cut s1 ⟨#[47]⟩ _ _ HL1.out (Classical.choose_spec (HG.out.ext hk1.1.out).c4)).mono ?_; rintro e w3 ⟨rfl, hw⟩; rw [HS2.out, HS3.out, HTW.out]; have hk2 := Keep4.ext (Ext.of_drewN hw) hk1; clear hk1 hw) | (go_at_call 117; with_reducible refine (Parse_calls HL2.out).mono ?_; rintro e w4 ⟨r1, rfl, hr, he⟩; have hk3 := Keep4.ext he hk2; have HW2 := Aside.mk (World.block_lt_of_cell? _ _ hk2.2.1.1); rw [HP1.out] at hr; rw [HE1.out]; have HR1 := Aside.mk hr; obtain ⟨A1, c1, rfl, _⟩ := hr.form; clear hk2 hr he) | (go_at_call 117; with_reducible refine (Parse_calls HL4.out).mono ?_; rintro e w5 ⟨r2, rfl, hr, he⟩; have hk4 := Keep4.ext he hk3; have HW4 := Aside.mk he; have HW3 := Aside.mk (World.block_lt_of_cell? _ _ hk3.2.1.1); rw [HP2.out] at hr; rw [HE2.out]; have HR2 := Aside.mk hr; obtain ⟨A2, c2, rfl, _⟩ := hr.form; clear hk3 hr he) | (go_at_call 61; with_reducible refine (israt_b (q := ⟨0, nb, xs1, xs2⟩) ?h HOK.out).mono ?_; (case h => exact RR.mk4 (HR1.out.rv.ext (HW4.out.trans ((Ext.refl _).alloc _))) (HR2.out.rv.ext ((Ext.refl _).alloc _))); rintro e w6 ⟨rfl, he⟩; have hk5 := Keep4.ext he (Keep4.ext ((Ext.refl w5).alloc (.cells #[.int .i64 0, .bool nb, .slice A1 xs1.length c1, .slice A2 xs2.length c2] 83)) hk4); have hb5 := KeepB.ext he (KeepB.init w5 (.int .i64 0) (.bool nb) (.slice A1 xs1.length c1) (.slice A2 xs2.length c2) 83); clear hk4 he))
            have HK := Aside.mk hk4
            refine bodyPost_ret (v := .tuple #[.agg #[.int .i64 0, .bool false, .slice none 0 0, .slice none 0 0], .int .i64 5]) (by simp [results, Tryz.results77, go_sem, hk4]) rfl ⟨_, rfl, RO.fq _ _ _, ext_set4 HK.out.1.out (Nat.le_refl _) _ _ _ _⟩
      · have HE2 : Aside (perr s3.data.toList = _) := ⟨(congrArg perr (HLT.out rfl).symm).trans he2⟩
        have HP2 : Aside (pdig s3.data.toList = _) := ⟨(congrArg pdig (HLT.out rfl).symm).trans hq2⟩
        have HL4 := HL3
        clear he2 hq2
        go_enter Tryz.func77, Tryz.ntmps77
        go_wp2_with (refine load_told rfl _ rfl rfl (HG.out.ext hk0.1.out) ?_)
        go_loopw [21] (fun i wr => ∃ (j : Nat), j ≤ 2 ∧ i = .int .i64 (j : Int) ∧ Keep4 w w.heap.size wr) (fun i _ => 2 - (intOf i).toNat)
        case atStart => exact ⟨0, by omega, rfl, hk0⟩
        case round =>
          obtain ⟨j, hj, rfl, hk1⟩ := hrel
          obtain rfl | rfl | rfl : j = 0 ∨ j = 1 ∨ j = 2 := by omega
          · have hk2 := Keep4.ext ((Ext.refl wr).alloc (.cells #[.string rangeB, .int .i64 4] 142)) hk1
            clear hk0 hk1
            go_wp2
            go_roundw
            case rel => exact ⟨1, by omega, rfl, hk2⟩
            case measure => simp [intOf]
          · have hk2 := Keep4.ext ((Ext.refl wr).alloc (.cells #[.string zeroB, .int .i64 11] 142)) hk1
            clear hk0 hk1
            go_wp2
            go_roundw
            case rel => exact ⟨2, by omega, rfl, hk2⟩
            case measure => simp [intOf]
          · clear hk0
            go_wp2_with (first | (go_at_call 78; refine (Tryz.strings_CutPrefix s ⟨#[45]⟩ _).mono ?_; rintro e w2 ⟨rfl, hw⟩; rw [hw, HS1.out, HNB.out]; clear hw) | (go_at_call 116; refine (Tryz.strings_Cut s1 ⟨#[47]⟩ _ _ HL1.out (Classical.choose_spec (HG.out.ext hk1.1.out).c4)).mono ?_; rintro e w3 ⟨rfl, hw⟩; rw [HS2.out, HS3.out, HTW.out]; have hk2 := Keep4.ext (Ext.of_drewN hw) hk1; clear hk1 hw) | (go_at_call 117; with_reducible refine (Parse_calls HL2.out).mono ?_; rintro e w4 ⟨r1, rfl, hr, he⟩; have hk3 := Keep4.ext he hk2; have HW2 := Aside.mk (World.block_lt_of_cell? _ _ hk2.2.1.1); rw [HP1.out] at hr; rw [HE1.out]; have HR1 := Aside.mk hr; obtain ⟨A1, c1, rfl, _⟩ := hr.form; clear hk2 hr he) | (go_at_call 117; with_reducible refine (Parse_calls HL4.out).mono ?_; rintro e w5 ⟨r2, rfl, hr, he⟩; have hk4 := Keep4.ext he hk3; have HW4 := Aside.mk he; have HW3 := Aside.mk (World.block_lt_of_cell? _ _ hk3.2.1.1); rw [HP2.out] at hr; rw [HE2.out]; have HR2 := Aside.mk hr; obtain ⟨A2, c2, rfl, _⟩ := hr.form; clear hk3 hr he) | (go_at_call 61; with_reducible refine (israt_b (q := ⟨0, nb, xs1, xs2⟩) ?h HOK.out).mono ?_; (case h => exact RR.mk4 (HR1.out.rv.ext (HW4.out.trans ((Ext.refl _).alloc _))) (HR2.out.rv.ext ((Ext.refl _).alloc _))); rintro e w6 ⟨rfl, he⟩; have hk5 := Keep4.ext he (Keep4.ext ((Ext.refl w5).alloc (.cells #[.int .i64 0, .bool nb, .slice A1 xs1.length c1, .slice A2 xs2.length c2] 83)) hk4); have hb5 := KeepB.ext he (KeepB.init w5 (.int .i64 0) (.bool nb) (.slice A1 xs1.length c1) (.slice A2 xs2.length c2) 83); clear hk4 he))
            have HK := Aside.mk hk4
            refine bodyPost_ret (v := .tuple #[.agg #[.int .i64 0, .bool false, .slice none 0 0, .slice none 0 0], .int .i64 5]) (by simp [results, Tryz.results77, go_sem, hk4]) rfl ⟨_, rfl, RO.fq _ _ _, ext_set4 HK.out.1.out (Nat.le_refl _) _ _ _ _⟩
  · have HM : Aside (m = (fq 0, 5)) := ⟨by rw [← hm]; unfold fparts; rw [if_pos (.inl (by rw [he1]; exact h1))]⟩
    have h10 : ((e1 : Int) == 0) = false := beq_eq_false_iff_ne.2 (by omega)
    have h11 : ((e1 : Int) != 0) = true := by simp [bne, h10]
    rw [HM.out]
    clear hm he1 h1 hx1
    cases tw
    · have HE2 : Aside (perr (⟨#[49]⟩ : ByteArray).data.toList = _) := ⟨(congrArg perr (HLB.out rfl).symm).trans he2⟩
      have HP2 : Aside (pdig (⟨#[49]⟩ : ByteArray).data.toList = _) := ⟨(congrArg pdig (HLB.out rfl).symm).trans hq2⟩
      have HL4 : Aside ((⟨#[49]⟩ : ByteArray).size ≤ 1073741824) := ⟨by decide⟩
      clear he2 hq2
      go_enter Tryz.func77, Tryz.ntmps77
      go_wp2_with (refine load_told rfl _ rfl rfl (HG.out.ext hk0.1.out) ?_)
      go_loopw [21] (fun i wr => ∃ (j : Nat), j ≤ 2 ∧ i = .int .i64 (j : Int) ∧ Keep4 w w.heap.size wr) (fun i _ => 2 - (intOf i).toNat)
      case atStart => exact ⟨0, by omega, rfl, hk0⟩
      case round =>
        obtain ⟨j, hj, rfl, hk1⟩ := hrel
        obtain rfl | rfl | rfl : j = 0 ∨ j = 1 ∨ j = 2 := by omega
        · have hk2 := Keep4.ext ((Ext.refl wr).alloc (.cells #[.string rangeB, .int .i64 4] 142)) hk1
          clear hk0 hk1
          go_wp2
          go_roundw
          case rel => exact ⟨1, by omega, rfl, hk2⟩
          case measure => simp [intOf]
        · have hk2 := Keep4.ext ((Ext.refl wr).alloc (.cells #[.string zeroB, .int .i64 11] 142)) hk1
          clear hk0 hk1
          go_wp2
          go_roundw
          case rel => exact ⟨2, by omega, rfl, hk2⟩
          case measure => simp [intOf]
        · clear hk0
          go_wp2_with (first | (go_at_call 78; refine (Tryz.strings_CutPrefix s ⟨#[45]⟩ _).mono ?_; rintro e w2 ⟨rfl, hw⟩; rw [hw, HS1.out, HNB.out]; clear hw) | (go_at_call 116; refine (Tryz.strings_Cut s1 ⟨#[47]⟩ _ _ HL1.out (Classical.choose_spec (HG.out.ext hk1.1.out).c4)).mono ?_; rintro e w3 ⟨rfl, hw⟩; rw [HS2.out, HS3.out, HTW.out]; have hk2 := Keep4.ext (Ext.of_drewN hw) hk1; clear hk1 hw) | (go_at_call 117; with_reducible refine (Parse_calls HL2.out).mono ?_; rintro e w4 ⟨r1, rfl, hr, he⟩; have hk3 := Keep4.ext he hk2; have HW2 := Aside.mk (World.block_lt_of_cell? _ _ hk2.2.1.1); rw [HP1.out] at hr; rw [HE1.out]; have HR1 := Aside.mk hr; obtain ⟨A1, c1, rfl, _⟩ := hr.form; clear hk2 hr he) | (go_at_call 117; with_reducible refine (Parse_calls HL4.out).mono ?_; rintro e w5 ⟨r2, rfl, hr, he⟩; have hk4 := Keep4.ext he hk3; have HW4 := Aside.mk he; have HW3 := Aside.mk (World.block_lt_of_cell? _ _ hk3.2.1.1); rw [HP2.out] at hr; rw [HE2.out]; have HR2 := Aside.mk hr; obtain ⟨A2, c2, rfl, _⟩ := hr.form; clear hk3 hr he) | (go_at_call 61; with_reducible refine (israt_b (q := ⟨0, nb, xs1, xs2⟩) ?h HOK.out).mono ?_; (case h => exact RR.mk4 (HR1.out.rv.ext (HW4.out.trans ((Ext.refl _).alloc _))) (HR2.out.rv.ext ((Ext.refl _).alloc _))); rintro e w6 ⟨rfl, he⟩; have hk5 := Keep4.ext he (Keep4.ext ((Ext.refl w5).alloc (.cells #[.int .i64 0, .bool nb, .slice A1 xs1.length c1, .slice A2 xs2.length c2] 83)) hk4); have hb5 := KeepB.ext he (KeepB.init w5 (.int .i64 0) (.bool nb) (.slice A1 xs1.length c1) (.slice A2 xs2.length c2) 83); clear hk4 he))
          have HK := Aside.mk hk4
          refine bodyPost_ret (v := .tuple #[.agg #[.int .i64 0, .bool false, .slice none 0 0, .slice none 0 0], .int .i64 5]) (by simp [results, Tryz.results77, go_sem, hk4]) rfl ⟨_, rfl, RO.fq _ _ _, ext_set4 HK.out.1.out (Nat.le_refl _) _ _ _ _⟩
    · have HE2 : Aside (perr s3.data.toList = _) := ⟨(congrArg perr (HLT.out rfl).symm).trans he2⟩
      have HP2 : Aside (pdig s3.data.toList = _) := ⟨(congrArg pdig (HLT.out rfl).symm).trans hq2⟩
      have HL4 := HL3
      clear he2 hq2
      go_enter Tryz.func77, Tryz.ntmps77
      go_wp2_with (refine load_told rfl _ rfl rfl (HG.out.ext hk0.1.out) ?_)
      go_loopw [21] (fun i wr => ∃ (j : Nat), j ≤ 2 ∧ i = .int .i64 (j : Int) ∧ Keep4 w w.heap.size wr) (fun i _ => 2 - (intOf i).toNat)
      case atStart => exact ⟨0, by omega, rfl, hk0⟩
      case round =>
        obtain ⟨j, hj, rfl, hk1⟩ := hrel
        obtain rfl | rfl | rfl : j = 0 ∨ j = 1 ∨ j = 2 := by omega
        · have hk2 := Keep4.ext ((Ext.refl wr).alloc (.cells #[.string rangeB, .int .i64 4] 142)) hk1
          clear hk0 hk1
          go_wp2
          go_roundw
          case rel => exact ⟨1, by omega, rfl, hk2⟩
          case measure => simp [intOf]
        · have hk2 := Keep4.ext ((Ext.refl wr).alloc (.cells #[.string zeroB, .int .i64 11] 142)) hk1
          clear hk0 hk1
          go_wp2
          go_roundw
          case rel => exact ⟨2, by omega, rfl, hk2⟩
          case measure => simp [intOf]
        · clear hk0
          go_wp2_with (first | (go_at_call 78; refine (Tryz.strings_CutPrefix s ⟨#[45]⟩ _).mono ?_; rintro e w2 ⟨rfl, hw⟩; rw [hw, HS1.out, HNB.out]; clear hw) | (go_at_call 116; refine (Tryz.strings_Cut s1 ⟨#[47]⟩ _ _ HL1.out (Classical.choose_spec (HG.out.ext hk1.1.out).c4)).mono ?_; rintro e w3 ⟨rfl, hw⟩; rw [HS2.out, HS3.out, HTW.out]; have hk2 := Keep4.ext (Ext.of_drewN hw) hk1; clear hk1 hw) | (go_at_call 117; with_reducible refine (Parse_calls HL2.out).mono ?_; rintro e w4 ⟨r1, rfl, hr, he⟩; have hk3 := Keep4.ext he hk2; have HW2 := Aside.mk (World.block_lt_of_cell? _ _ hk2.2.1.1); rw [HP1.out] at hr; rw [HE1.out]; have HR1 := Aside.mk hr; obtain ⟨A1, c1, rfl, _⟩ := hr.form; clear hk2 hr he) | (go_at_call 117; with_reducible refine (Parse_calls HL4.out).mono ?_; rintro e w5 ⟨r2, rfl, hr, he⟩; have hk4 := Keep4.ext he hk3; have HW4 := Aside.mk he; have HW3 := Aside.mk (World.block_lt_of_cell? _ _ hk3.2.1.1); rw [HP2.out] at hr; rw [HE2.out]; have HR2 := Aside.mk hr; obtain ⟨A2, c2, rfl, _⟩ := hr.form; clear hk3 hr he) | (go_at_call 61; with_reducible refine (israt_b (q := ⟨0, nb, xs1, xs2⟩) ?h HOK.out).mono ?_; (case h => exact RR.mk4 (HR1.out.rv.ext (HW4.out.trans ((Ext.refl _).alloc _))) (HR2.out.rv.ext ((Ext.refl _).alloc _))); rintro e w6 ⟨rfl, he⟩; have hk5 := Keep4.ext he (Keep4.ext ((Ext.refl w5).alloc (.cells #[.int .i64 0, .bool nb, .slice A1 xs1.length c1, .slice A2 xs2.length c2] 83)) hk4); have hb5 := KeepB.ext he (KeepB.init w5 (.int .i64 0) (.bool nb) (.slice A1 xs1.length c1) (.slice A2 xs2.length c2) 83); clear hk4 he))
          have HK := Aside.mk hk4
          refine bodyPost_ret (v := .tuple #[.agg #[.int .i64 0, .bool false, .slice none 0 0, .slice none 0 0], .int .i64 5]) (by simp [results, Tryz.results77, go_sem, hk4]) rfl ⟨_, rfl, RO.fq _ _ _, ext_set4 HK.out.1.out (Nat.le_refl _) _ _ _ _⟩

/-- Parse returns the Rat with a text. -/
theorem parse_calls {w : World} {s : ByteArray} (hg : Glob w) (hs : s.size ≤ 1073741824) {m : Rq × Int} (hm : fparse s.data.toList = m) :
    Calls Tryz.prog 77 #[.string s] w fun e w' => ∃ r, e = .returned (.tuple #[r, .int .i64 m.2]) ∧ RO w.heap.size w' r m.1 ∧ Ext w w' := by
  by_cases h49 : 4900 < s.size
  · exact parse_early hg hs hm (.inl h49)
  · by_cases hr : s.data.toList = rangeB.data.toList
    · exact parse_early hg hs hm (.inr (.inl hr))
    · by_cases hz : s.data.toList = zeroB.data.toList
      · exact parse_early hg hs hm (.inr (.inr hz))
      · exact parse_main hg hm h49 hr hz
end Go.Proofs.YtcbaipnphepbeaaGreatDoor

namespace Go.Proofs.YtcbaipnphepbeaaGreatDoor
open Go.RowKit

end Go.Proofs.YtcbaipnphepbeaaGreatDoor

namespace Go.Proofs.YtcbaipnphepbeaaGreatDoor
open Go.RowKit

end Go.Proofs.YtcbaipnphepbeaaGreatDoor

namespace Go.Proofs.YtcbaipnphepbeaaGreatDoor
open Go.RowKit

theorem len1 {a : Nat} (h : a < 4294967296) : (dig a).length ≤ 1 := dig_length_le (by simpa using h)
theorem isLong_small {a : Nat} (h : a < 4294967296) : isLong a = false := isLong_false.2 (Nat.le_trans (len1 h) (by decide))
theorem okq_mk {neg : Bool} {a b : Nat} (ha : (dig a).length ≤ 128) (hb : (dig b).length ≤ 128) (hb0 : 0 < b) (hg : Nat.gcd a b = 1) (hn : neg = true → 0 < a) : okq ⟨0, neg, dig a, dig b⟩ = true := by
  unfold okq
  rw [if_pos rfl]
  simp only [natErr_dig0 (show (dig a).length ≤ 512 by omega), natErr_dig0 (show (dig b).length ≤ 512 by omega), val_dig, isLong_false.2 ha, isLong_false.2 hb, hg]
  have h1 : decide ((dig b).length = 0) = false := by
    apply decide_eq_false; intro h
    have := dig_nil_iff.1 (List.eq_nil_of_length_eq_zero h); omega
  rw [h1]
  cases neg
  · rfl
  · have h2 : decide ((dig a).length = 0) = false := by
      apply decide_eq_false; intro h
      have := dig_nil_iff.1 (List.eq_nil_of_length_eq_zero h)
      have := hn rfl; omega
    rw [h2]; rfl
theorem okq_small {neg : Bool} {a b : Nat} (ha : a < 4294967296) (hb : b < 4294967296) (ha0 : 0 < a) (hb0 : 0 < b) (hg : Nat.gcd a b = 1) : okq ⟨0, neg, dig a, dig b⟩ = true :=
  okq_mk (Nat.le_trans (len1 ha) (by decide)) (Nat.le_trans (len1 hb) (by decide)) hb0 hg (fun _ => ha0)
theorem d10_one {a : Nat} (h : a < 10) (h0 : a ≠ 0) : dtext a = [chr a] := by
  unfold dtext
  rw [if_neg h0, d10_pos h0, show a / 10 = 0 from by omega, d10_zero, Nat.mod_eq_of_lt h]; rfl
end Go.Proofs.YtcbaipnphepbeaaGreatDoor

namespace Go.Proofs.YtcbaipnphepbeaaGreatDoor
open Go.RowKit

end Go.Proofs.YtcbaipnphepbeaaGreatDoor

namespace Go.Proofs.YtcbaipnphepbeaaGreatDoor
open Go.RowKit


/-- The four cells of a box. -/
abbrev Four (w : World) (g : Nat) (x0 x1 x2 x3 : Value) : Prop := w.cell? ⟨g, 0, none⟩ = some x0 ∧ w.cell? ⟨g, 1, none⟩ = some x1 ∧ w.cell? ⟨g, 2, none⟩ = some x2 ∧ w.cell? ⟨g, 3, none⟩ = some x3
theorem Four.ext {a b : World} (e : Ext a b) {g : Nat} {x0 x1 x2 x3 : Value} (h : Four a g x0 x1 x2 x3) : Four b g x0 x1 x2 x3 := ⟨e.cell h.1, e.cell h.2.1, e.cell h.2.2.1, e.cell h.2.2.2⟩
theorem Four.other {a : World} {g g' : Nat} {x0 x1 x2 x3 : Value} (h : Four a g x0 x1 x2 x3) (hne : g' ≠ g) (j : Nat) (v : Value) : Four (a.setCell ⟨g', j, none⟩ v) g x0 x1 x2 x3 :=
  ⟨cell_other h.1 hne, cell_other h.2.1 hne, cell_other h.2.2.1 hne, cell_other h.2.2.2 hne⟩
/-- A new Rat's box. -/
abbrev FitZ (w : World) (g : Nat) : Prop := Four w g (.int .i64 0) (.bool false) (.slice none 0 0) (.slice none 0 0) ∧ w.frozen? ⟨g, 0, none⟩ = false ∧ w.frozen? ⟨g, 1, none⟩ = false ∧ w.frozen? ⟨g, 2, none⟩ = false ∧ w.frozen? ⟨g, 3, none⟩ = false
theorem FitZ.other {w : World} {g g' : Nat} (h : FitZ w g) (hne : g' ≠ g) (j : Nat) (v : Value) : FitZ (w.setCell ⟨g', j, none⟩ v) g :=
  ⟨h.1.other hne j v, by rw [World.frozen?_setCell]; exact h.2.1, by rw [World.frozen?_setCell]; exact h.2.2.1, by rw [World.frozen?_setCell]; exact h.2.2.2.1, by rw [World.frozen?_setCell]; exact h.2.2.2.2⟩
/-- Four stores. -/
abbrev set4 (w : World) (g : Nat) (v0 v1 v2 v3 : Value) : World := (((w.setCell ⟨g, 0, none⟩ v0).setCell ⟨g, 1, none⟩ v1).setCell ⟨g, 2, none⟩ v2).setCell ⟨g, 3, none⟩ v3
theorem Four.four {w : World} {g g' : Nat} {x0 x1 x2 x3 : Value} (h : Four w g x0 x1 x2 x3) (hne : g' ≠ g) (v0 v1 v2 v3 : Value) : Four (set4 w g' v0 v1 v2 v3) g x0 x1 x2 x3 :=
  (((h.other hne 0 v0).other hne 1 v1).other hne 2 v2).other hne 3 v3
theorem FitZ.four {w : World} {g g' : Nat} (h : FitZ w g) (hne : g' ≠ g) (v0 v1 v2 v3 : Value) : FitZ (set4 w g' v0 v1 v2 v3) g :=
  (((h.other hne 0 v0).other hne 1 v1).other hne 2 v2).other hne 3 v3
theorem off_other {w : World} {g j j' : Nat} {u v : Value} (h : w.cell? ⟨g, j, none⟩ = some u) (hne : j' ≠ j) : (w.setCell ⟨g, j', none⟩ v).cell? ⟨g, j, none⟩ = some u :=
  (World.cell?_setCell_other w _ _ v (fun e => hne (by injection e))).trans h
theorem set4_four {w : World} {g : Nat} (h : FitZ w g) (v0 v1 v2 v3 : Value) : Four (set4 w g v0 v1 v2 v3) g v0 v1 v2 v3 :=
  ⟨off_other (off_other (off_other (cell_same h.1.1) (by decide)) (by decide)) (by decide),
    off_other (off_other (cell_same (off_other h.1.2.1 (by decide))) (by decide)) (by decide),
    off_other (cell_same (off_other (off_other h.1.2.2.1 (by decide)) (by decide))) (by decide),
    cell_same (off_other (off_other (off_other h.1.2.2.2 (by decide)) (by decide)) (by decide))⟩
theorem boxes {w1 : World} {P Q : Nat} {x0 x1 x2 x3 y0 y1 y2 y3 : Value} (hP : FitZ w1 P) (hQ : FitZ w1 Q) (hne : Q ≠ P) :
    Four (set4 (set4 w1 P x0 x1 x2 x3) Q y0 y1 y2 y3) P x0 x1 x2 x3 ∧ Four (set4 (set4 w1 P x0 x1 x2 x3) Q y0 y1 y2 y3) Q y0 y1 y2 y3 := by
  exact ⟨(set4_four hP _ _ _ _).four hne _ _ _ _, set4_four (hQ.four (fun h => hne h.symm) _ _ _ _) _ _ _ _⟩
end Go.Proofs.YtcbaipnphepbeaaGreatDoor

namespace Go.Proofs.YtcbaipnphepbeaaGreatDoor
open Go.RowKit

section
variable {P : Program} {ops : Array Oper} {Q : Exit → Act → World → Prop} {md : Region.Mode}
end

/-- The numbers of the operations that one waits for. -/
def needs (o : Oper) : List Nat := (o.after.toList.filter fun e => Region.binds .any e).map (·.on)
inductive Each (Φ : Nat → Oper → Prop) : List Oper → Nat → Prop
  | nil {i : Nat} : Each Φ [] i
  | cons {o : Oper} {os : List Oper} {i j : Nat} (hj : j = i + 1) : Φ i o → Each Φ os j → Each Φ (o :: os) i
namespace InvN
variable {n : Nat} {l : Array Bool} {K : World → Prop} {lo : Nat} {ag : Nat → Value} {q : Nat → Rq} {vl vc vb : Nat → Value} {P : Nat → Nat} {w : World}
end InvN
def two {α : Type} (x y : α) : Nat → α
  | 0 => x
  | _ => y
theorem KeepB.four {w w' : World} {x0 x1 x2 x3 : Value} (h : KeepB w x0 x1 x2 x3 w') : Four w' w.heap.size x0 x1 x2 x3 := h.2

end Go.Proofs.YtcbaipnphepbeaaGreatDoor
