/- Contract of frac.Decimal. -/
import Derived.Test.YtgfkachfbnbikaaGreatDoorFracQ
namespace Go.Proofs.YtgfkachfbnbikaaGreatDoor
open Go.RowKit

theorem mk_toList' (s : ByteArray) : (⟨s.data.toList.toArray⟩ : ByteArray) = s := Lib.mk_data s
theorem cut_sum (l sep : List UInt8) : (Lib.cut l sep).1.length + (Lib.cut l sep).2.1.length ≤ l.length ∧ ((Lib.cut l sep).2.2 = false → (Lib.cut l sep).2.1 = []) ∧ (l.all isd = true → True) := by
  unfold Lib.cut
  split
  · simp only [List.length_take, List.length_drop]; refine ⟨by omega, by simp, fun _ => trivial⟩
  · simp
theorem isDs_all {l : List UInt8} (h : isDs l = true) : l.all isd = true ∧ 0 < l.length := by
  unfold isDs at h
  simp only [Bool.and_eq_true, Bool.not_eq_true'] at h
  refine ⟨h.2, ?_⟩
  cases l with
  | nil => simp at h
  | cons => simp
theorem trimR_all {l : List UInt8} (h : l.all isd = true) : (Lib.trimRightB l 48).all isd = true ∧ (Lib.trimRightB l 48).length ≤ l.length := by
  unfold Lib.trimRightB
  obtain ⟨k, hk⟩ := dropWhile_sub (· == 48) l.reverse
  rw [hk]
  refine ⟨?_, by simp⟩
  rw [List.all_reverse]
  exact all_drop (by rw [List.all_reverse]; exact h) k

theorem append_toList (a b : ByteArray) : (a ++ b).data.toList = a.data.toList ++ b.data.toList := by rw [ByteArray.data_append]; simp
theorem append_sz (a b : ByteArray) : (a ++ b).size = a.size + b.size := ByteArray.size_append
theorem dec_any {n m k : Nat} (h : n ≤ 3 * m) (hk : 10 * m < 32 * k) : (dig (10 ^ n)).length ≤ k := by
  apply dig_length_le
  have h1 : (10 : Nat) ^ n ≤ 10 ^ (3 * m) := Nat.pow_le_pow_right (by decide) h
  have h2 : ((10 : Nat) ^ 3) ^ m ≤ (2 ^ 10) ^ m := Nat.pow_le_pow_left (by decide) m
  have h3 : (2 : Nat) ^ (10 * m) < 2 ^ (32 * k) := Nat.pow_lt_pow_right (by decide) hk
  rw [Nat.pow_mul] at h1
  rw [← Nat.pow_mul 2 10 m] at h2
  rw [show (4294967296 : Nat) = 2 ^ 32 from rfl, ← Nat.pow_mul]
  exact Nat.lt_of_le_of_lt (Nat.le_trans h1 h2) h3
theorem dec_len {n : Nat} (h : n ≤ 4900) : (dig (10 ^ n)).length ≤ 512 := dec_any (m := 1634) (by omega) (by decide)
theorem dval_512 {l : List UInt8} (h : l.all isd = true) (hl : l.length ≤ 4900) : (dig (dval l)).length ≤ 512 :=
  Nat.le_trans (dig_len_mono (Nat.le_of_lt (dval_lt h))) (dec_len hl)
set_option maxRecDepth 10000 in
set_option maxHeartbeats 4000000 in
theorem decimal_calls {w : World} {s : ByteArray} (hg : Glob w) (hs : s.size ≤ 1073741824) {m : Rq × Int} (hm : fdec s.data.toList = m) :
    Calls Tryz.prog 30 #[.string s] w fun e w' => ∃ r, e = .returned (.tuple #[r, .int .i64 m.2]) ∧ RO w.heap.size w' r m.1 ∧ Ext w w' := by
  have hsz : s.data.toList.length = s.size := (Lib.size_eq s).symm
  have HG := Aside.mk hg
  have hk0 := Keep4.init (Ext.refl w) (.int .i64 0) (.bool false) (.slice none 0 0) (.slice none 0 0) 26
  clear hg
  unfold fdec at hm
  by_cases h49 : 4900 < s.size
  · rw [if_pos (by omega)] at hm
    have HM : Aside (m = (fq 0, 3)) := ⟨hm.symm⟩
    rw [HM.out]
    have HK := Aside.mk hk0
    clear hsz hm hk0
    go_enter Tryz.func30, Tryz.ntmps30
    go_wp2
    refine bodyPost_ret (v := .tuple #[.agg #[.int .i64 0, .bool false, .slice none 0 0, .slice none 0 0], .int .i64 3]) (by simp [results, Tryz.results30, go_sem]) rfl ⟨_, rfl, RO.fq _ _ _, HK.out.1.out⟩
  · rw [if_neg (by omega)] at hm
    obtain ⟨s2, hs2⟩ : ∃ s2 : ByteArray, (⟨(Lib.cut s.data.toList (⟨#[46]⟩ : ByteArray).data.toList).1.toArray⟩ : ByteArray) = s2 := ⟨_, rfl⟩
    obtain ⟨s3, hs3⟩ : ∃ s3 : ByteArray, (⟨(Lib.cut s.data.toList (⟨#[46]⟩ : ByteArray).data.toList).2.1.toArray⟩ : ByteArray) = s3 := ⟨_, rfl⟩
    obtain ⟨tw, htw⟩ : ∃ tw, (Lib.cut s.data.toList (⟨#[46]⟩ : ByteArray).data.toList).2.2 = tw := ⟨_, rfl⟩
    have hs2l : (Lib.cut s.data.toList [46]).1 = s2.data.toList := by rw [← hs2]
    have hs3l : (Lib.cut s.data.toList [46]).2.1 = s3.data.toList := by rw [← hs3]
    have htwl : (Lib.cut s.data.toList [46]).2.2 = tw := htw
    have hcl := cut_sum s.data.toList [46]
    rw [hs2l, hs3l, htwl, ← Lib.size_eq, ← Lib.size_eq, ← Lib.size_eq] at hcl
    rw [hs2l, hs3l, htwl] at hm
    obtain ⟨d2, hd2⟩ : ∃ d, isDs s2.data.toList = d := ⟨_, rfl⟩
    obtain ⟨d3, hd3⟩ : ∃ d, isDs s3.data.toList = d := ⟨_, rfl⟩
    have HS2 := Aside.mk hs2
    have HS3 := Aside.mk hs3
    have HTW := Aside.mk htw
    have HD2 := Aside.mk hd2
    have HD3 := Aside.mk hd3
    have HL0 : Aside (s.size < 4294967281) := ⟨by omega⟩
    have HL2 : Aside (s2.size ≤ 1073741824) := ⟨by omega⟩
    have HL3 : Aside (s3.size ≤ 1073741824) := ⟨by omega⟩
    rw [hd2, hd3] at hm
    clear hs2 hs3 htw hs2l hs3l htwl hsz
    cases d2
    · have HM : Aside (m = (fq 0, 5)) := ⟨by rw [← hm]; rfl⟩
      rw [HM.out]
      clear hm hd2 hd3 hcl
      go_enter Tryz.func30, Tryz.ntmps30
      go_wp2_with (first | (go_at_call 81; refine (Tryz.strings_Cut s ⟨#[46]⟩ _ _ HL0.out (Classical.choose_spec (HG.out.ext hk0.1.out).c4)).mono ?_; rintro e w1 ⟨rfl, hw⟩; rw [HS2.out, HS3.out, HTW.out]; have hk1 := Keep4.ext (Ext.of_drewN hw) hk0; clear hk0 hw) | (go_at_call 83; with_reducible refine (digits_calls HL2.out HD2.out).mono ?_; rintro e w2 ⟨rfl, he⟩; have hk2 := Keep4.ext he hk1; clear hk1 he))
      have HK := Aside.mk hk2
      refine bodyPost_ret (v := .tuple #[.agg #[.int .i64 0, .bool false, .slice none 0 0, .slice none 0 0], .int .i64 5]) (by simp [results, Tryz.results30, go_sem, hk2]) rfl ⟨_, rfl, RO.fq _ _ _, ext_set4 HK.out.1.out (Nat.le_refl _) _ _ _ _⟩
    · cases tw
      · have hm : fdecParts s2.data.toList (Lib.trimRightB s3.data.toList 48) = m := hm
        have h3 : s3.data.toList.all isd = true := by rw [hcl.2.1 rfl]; rfl
        obtain ⟨s4, hs4⟩ : ∃ s4 : ByteArray, (⟨(Lib.trimRightB s3.data.toList 48).toArray⟩ : ByteArray) = s4 := ⟨_, rfl⟩
        have hs4l : Lib.trimRightB s3.data.toList 48 = s4.data.toList := by rw [← hs4]
        rw [hs4l] at hm
        obtain ⟨ha2, hl2⟩ := isDs_all hd2
        have ha4 := trimR_all h3
        rw [hs4l, ← Lib.size_eq, ← Lib.size_eq] at ha4
        rw [← Lib.size_eq] at hl2
        obtain ⟨ha4, hl4⟩ := ha4
        obtain ⟨s5, hs5⟩ : ∃ s5 : ByteArray, (⟨(Lib.trimLeftB (s2 ++ s4).data.toList 48).toArray⟩ : ByteArray) = s5 := ⟨_, rfl⟩
        have hs5l : Lib.trimLeftB (s2 ++ s4).data.toList 48 = s5.data.toList := by rw [← hs5]
        have hall : (s2.data.toList ++ s4.data.toList).all isd = true := by rw [List.all_append, ha2, ha4]; rfl
        obtain ⟨hp6, hv6⟩ := shown_ok hall (by rw [List.length_append, ← Lib.size_eq, ← Lib.size_eq]; omega)
        have hlen6 := dval_len hall
        rw [List.length_append, ← Lib.size_eq, ← Lib.size_eq] at hlen6
        obtain ⟨s7, hs7⟩ : ∃ s7 : ByteArray, (⟨(Lib.repeatL (⟨#[48]⟩ : ByteArray).data.toList s4.size).toArray⟩ : ByteArray) = s7 := ⟨_, rfl⟩
        have hs7l : s7.data.toList = List.replicate s4.size 48 := by rw [← hs7, mk_toList]; exact repeat_one _
        have hs7z : s7.size = s4.size := by rw [Lib.size_eq, hs7l]; simp
        have h8l : (⟨#[49]⟩ ++ s7 : ByteArray).data.toList = 49 :: List.replicate s4.size 48 := by rw [append_toList, hs7l]; rfl
        have HE8 : Aside (perr (⟨#[49]⟩ ++ s7 : ByteArray).data.toList = 0) := ⟨by rw [h8l]; exact perr_ones (by omega)⟩
        have HP8 : Aside (pdig (⟨#[49]⟩ ++ s7 : ByteArray).data.toList = dig (10 ^ s4.size)) := ⟨by rw [pdig_ok HE8.out, h8l, dval_ones]⟩
        have HL8 : Aside ((⟨#[49]⟩ ++ s7 : ByteArray).size ≤ 1073741824) := ⟨by rw [append_sz, hs7z, show (⟨#[49]⟩ : ByteArray).size = 1 from rfl]; omega⟩
        have hlen8 : (dig (10 ^ s4.size)).length ≤ 512 := dec_len (by omega)
        have hlen6' : (dig (dval (s2.data.toList ++ s4.data.toList))).length ≤ 512 := dval_512 hall (by rw [List.length_append, ← Lib.size_eq, ← Lib.size_eq]; omega)
        obtain ⟨N, hN⟩ : ∃ N, dval (s2.data.toList ++ s4.data.toList) = N := ⟨_, rfl⟩
        rw [hN] at hlen6' hv6
        obtain ⟨q, hq⟩ : ∃ q, ratio false (dval (s2.data.toList ++ s4.data.toList)) (10 ^ s4.data.toList.length) = q := ⟨_, rfl⟩
        have HQ : Aside (ratio false N (10 ^ s4.size) = q) := ⟨by rw [← hN, Lib.size_eq s4]; exact hq⟩
        have HN1 := Aside.mk hlen6'
        have HN2 := Aside.mk hlen8
        have HS4 := Aside.mk hs4
        have HS5 := Aside.mk hs5
        have HS7 := Aside.mk hs7
        have hsz4 : s4.size ≤ 4899 := by omega
        have hsz2 : s2.size ≤ 4900 := by omega
        have hmin : min (s4.size : Int) 4899 = (s4.size : Int) := by omega
        have HC1 : Aside (s4.size ≤ 9223372036854775807) := ⟨by omega⟩
        have HC2 : Aside ((⟨#[48]⟩ : ByteArray).size * s4.size ≤ 140737488355328) := ⟨by rw [show (⟨#[48]⟩ : ByteArray).size = 1 from rfl]; omega⟩
        have HL63 : Aside (s3.size ≤ 9223372036854775807) := ⟨by have := HL3.out; omega⟩
        have hsh : shown (s2.data.toList ++ s4.data.toList) = if s5.data.toList = [] then [48] else s5.data.toList := by unfold shown; rw [← append_toList, hs5l]
        clear hlen6 hlen6' hlen8 hs4 hs5 hs7 h8l hall ha2 ha4 hN hs4l hd2 hd3 h3 hcl hl4 hs7l
        cases hem : s5.data.toList.isEmpty
        · have hemp : s5.toList.isEmpty = false := by rw [Lib.toList_data]; exact hem
          have hne : s5.data.toList ≠ [] := by intro h; rw [h] at hem; cases hem
          rw [hsh, if_neg hne] at hp6 hv6
          have HE6 := Aside.mk hp6
          have HP6 : Aside (pdig s5.data.toList = dig N) := ⟨by rw [pdig_ok hp6, hv6]⟩
          have HL6 : Aside (s5.size ≤ 1073741824) := ⟨by
            have : perr s5.data.toList ≠ 3 := by rw [hp6]; decide
            rw [Lib.size_eq]
            rcases Nat.lt_or_ge 4900 s5.data.toList.length with h | h
            · exfalso; apply this; unfold perr; rw [if_pos h]
            · omega⟩
          clear hsh hne hp6 hv6 hem hs5l
          by_cases hqf : q.f = 0
          · have HM : Aside (m = (q, 0)) := ⟨by rw [← hm]; unfold fdecParts; rw [hq, if_pos hqf]⟩
            have hqf1 : (q.f == 0) = true := by rw [hqf]; rfl
            have hqf2 : (q.f != 0) = false := by rw [hqf]; rfl
            rw [HM.out]
            clear hm hqf hq
            go_enter Tryz.func30, Tryz.ntmps30
            go_wp2_with (first | (go_at_call 81; refine (Tryz.strings_Cut s ⟨#[46]⟩ _ _ HL0.out (Classical.choose_spec (HG.out.ext hk0.1.out).c4)).mono ?_; rintro e w1 ⟨rfl, hw⟩; rw [HS2.out, HS3.out, HTW.out]; have hk1 := Keep4.ext (Ext.of_drewN hw) hk0; clear hk0 hw) | (go_at_call 83; with_reducible refine (digits_calls HL2.out HD2.out).mono ?_; rintro e w2 ⟨rfl, he⟩; have hk2 := Keep4.ext he hk1; clear hk1 he) | (go_at_call 83; with_reducible refine (digits_calls HL3.out HD3.out).mono ?_; rintro e w3 ⟨rfl, he⟩; have hk3 := Keep4.ext he hk2; clear hk2 he) | (go_at_call 84; refine (Tryz.strings_TrimRight_one s3 48 (by decide) _ HL63.out).mono ?_; rintro e w' ⟨rfl, hw⟩; rw [hw, HS4.out]; clear hw) | (go_at_call 85; refine (Tryz.strings_TrimLeft_one (s2 ++ s4) 48 (by decide) _).mono ?_; rintro e w' ⟨rfl, hw⟩; rw [hw, HS5.out]; clear hw) | (go_at_call 82; with_reducible refine (Parse_calls HL6.out).mono ?_; rintro e w4 ⟨r1, rfl, hr, he⟩; have hk4 := Keep4.ext he hk2; rw [HP6.out] at hr; rw [HE6.out]; have HR1 := Aside.mk hr; obtain ⟨A1, c1, rfl, _⟩ := hr.form; clear hk2 hr he) | (go_at_call 86; refine natural_calls.mono ?_; rintro e w' ⟨rfl, rfl⟩) | (go_at_call 87; refine (Tryz.strings_Repeat ⟨#[48]⟩ s4.size _ HC1.out HC2.out).mono ?_; rintro e w5 ⟨rfl, he⟩; rw [HS7.out]; have hk5 := Keep4.ext he hk4; have HX5 := Aside.mk (show Ext _ _ from he); clear hk4 he) | (go_at_call 82; with_reducible refine (Parse_calls HL8.out).mono ?_; rintro e w6 ⟨r2, rfl, hr, he⟩; have hk6 := Keep4.ext he hk5; have HX6 := Aside.mk he; rw [HP8.out] at hr; rw [HE8.out]; have HR2 := Aside.mk hr; obtain ⟨A2, c2, rfl, _⟩ := hr.form; clear hk5 hr he) | (go_at_call 20; with_reducible refine (make_ok (NV.of (HR1.out.rv.ext (HX5.out.trans HX6.out)) HN1.out) (NV.of HR2.out.rv HN2.out) HQ.out).mono ?_; rintro e w7 ⟨r, rfl, hr, he⟩; have HZ := Aside.mk (World.block_lt_of_cell? _ _ hk6.2.1.1); have HR7 := Aside.mk hr; obtain ⟨A7, c7, B7, d7, rfl⟩ := hr.form; have hk7 := Keep4.ext ((Ext.refl w7).alloc (.cells #[.int .i64 q.f, .bool q.neg, .slice A7 q.num.length c7, .slice B7 q.den.length d7] 26)) (Keep4.ext he hk6); clear hk6 hr he))
            have HK := Aside.mk hk7
            refine bodyPost_ret (v := .tuple #[.agg #[.int .i64 q.f, .bool q.neg, .slice A7 q.num.length c7, .slice B7 q.den.length d7], .int .i64 0]) (by simp [results, Tryz.results30, go_sem, hk7]) rfl ⟨_, rfl, ((HR7.out.ext ((Ext.refl w7).alloc _)).set4 HZ.out _ _ _ _).mono (Nat.le_of_lt HZ.out), ext_set4 HK.out.1.out (Nat.le_refl _) _ _ _ _⟩
          · have HM : Aside (m = (fq 0, 4)) := ⟨by rw [← hm]; unfold fdecParts; rw [hq, if_neg hqf]⟩
            have hqf1 : (q.f == 0) = false := beq_eq_false_iff_ne.2 hqf
            have hqf2 : (q.f != 0) = true := by simp [bne, hqf1]
            rw [HM.out]
            clear hm hqf hq
            go_enter Tryz.func30, Tryz.ntmps30
            go_wp2_with (first | (go_at_call 81; refine (Tryz.strings_Cut s ⟨#[46]⟩ _ _ HL0.out (Classical.choose_spec (HG.out.ext hk0.1.out).c4)).mono ?_; rintro e w1 ⟨rfl, hw⟩; rw [HS2.out, HS3.out, HTW.out]; have hk1 := Keep4.ext (Ext.of_drewN hw) hk0; clear hk0 hw) | (go_at_call 83; with_reducible refine (digits_calls HL2.out HD2.out).mono ?_; rintro e w2 ⟨rfl, he⟩; have hk2 := Keep4.ext he hk1; clear hk1 he) | (go_at_call 83; with_reducible refine (digits_calls HL3.out HD3.out).mono ?_; rintro e w3 ⟨rfl, he⟩; have hk3 := Keep4.ext he hk2; clear hk2 he) | (go_at_call 84; refine (Tryz.strings_TrimRight_one s3 48 (by decide) _ HL63.out).mono ?_; rintro e w' ⟨rfl, hw⟩; rw [hw, HS4.out]; clear hw) | (go_at_call 85; refine (Tryz.strings_TrimLeft_one (s2 ++ s4) 48 (by decide) _).mono ?_; rintro e w' ⟨rfl, hw⟩; rw [hw, HS5.out]; clear hw) | (go_at_call 82; with_reducible refine (Parse_calls HL6.out).mono ?_; rintro e w4 ⟨r1, rfl, hr, he⟩; have hk4 := Keep4.ext he hk2; rw [HP6.out] at hr; rw [HE6.out]; have HR1 := Aside.mk hr; obtain ⟨A1, c1, rfl, _⟩ := hr.form; clear hk2 hr he) | (go_at_call 86; refine natural_calls.mono ?_; rintro e w' ⟨rfl, rfl⟩) | (go_at_call 87; refine (Tryz.strings_Repeat ⟨#[48]⟩ s4.size _ HC1.out HC2.out).mono ?_; rintro e w5 ⟨rfl, he⟩; rw [HS7.out]; have hk5 := Keep4.ext he hk4; have HX5 := Aside.mk (show Ext _ _ from he); clear hk4 he) | (go_at_call 82; with_reducible refine (Parse_calls HL8.out).mono ?_; rintro e w6 ⟨r2, rfl, hr, he⟩; have hk6 := Keep4.ext he hk5; have HX6 := Aside.mk he; rw [HP8.out] at hr; rw [HE8.out]; have HR2 := Aside.mk hr; obtain ⟨A2, c2, rfl, _⟩ := hr.form; clear hk5 hr he) | (go_at_call 20; with_reducible refine (make_ok (NV.of (HR1.out.rv.ext (HX5.out.trans HX6.out)) HN1.out) (NV.of HR2.out.rv HN2.out) HQ.out).mono ?_; rintro e w7 ⟨r, rfl, hr, he⟩; have HZ := Aside.mk (World.block_lt_of_cell? _ _ hk6.2.1.1); have HR7 := Aside.mk hr; obtain ⟨A7, c7, B7, d7, rfl⟩ := hr.form; have hk7 := Keep4.ext ((Ext.refl w7).alloc (.cells #[.int .i64 q.f, .bool q.neg, .slice A7 q.num.length c7, .slice B7 q.den.length d7] 26)) (Keep4.ext he hk6); clear hk6 hr he))
            have HK := Aside.mk hk7
            refine bodyPost_ret (v := .tuple #[.agg #[.int .i64 0, .bool false, .slice none 0 0, .slice none 0 0], .int .i64 4]) (by simp [results, Tryz.results30, go_sem, hk7]) rfl ⟨_, rfl, RO.fq _ _ _, ext_set4 HK.out.1.out (Nat.le_refl _) _ _ _ _⟩
        · have hemp : s5.toList.isEmpty = true := by rw [Lib.toList_data]; exact hem
          have hne : s5.data.toList = [] := List.isEmpty_iff.1 hem
          rw [hsh, if_pos hne] at hp6 hv6
          have HE6 : Aside (perr (⟨#[48]⟩ : ByteArray).data.toList = 0) := ⟨hp6⟩
          have HP6 : Aside (pdig (⟨#[48]⟩ : ByteArray).data.toList = dig N) := ⟨(pdig_ok hp6).trans (by rw [hv6])⟩
          have HL6 : Aside ((⟨#[48]⟩ : ByteArray).size ≤ 1073741824) := ⟨by decide⟩
          clear hsh hne hp6 hv6 hem hs5l
          by_cases hqf : q.f = 0
          · have HM : Aside (m = (q, 0)) := ⟨by rw [← hm]; unfold fdecParts; rw [hq, if_pos hqf]⟩
            have hqf1 : (q.f == 0) = true := by rw [hqf]; rfl
            have hqf2 : (q.f != 0) = false := by rw [hqf]; rfl
            rw [HM.out]
            clear hm hqf hq
            go_enter Tryz.func30, Tryz.ntmps30
            go_wp2_with (first | (go_at_call 81; refine (Tryz.strings_Cut s ⟨#[46]⟩ _ _ HL0.out (Classical.choose_spec (HG.out.ext hk0.1.out).c4)).mono ?_; rintro e w1 ⟨rfl, hw⟩; rw [HS2.out, HS3.out, HTW.out]; have hk1 := Keep4.ext (Ext.of_drewN hw) hk0; clear hk0 hw) | (go_at_call 83; with_reducible refine (digits_calls HL2.out HD2.out).mono ?_; rintro e w2 ⟨rfl, he⟩; have hk2 := Keep4.ext he hk1; clear hk1 he) | (go_at_call 83; with_reducible refine (digits_calls HL3.out HD3.out).mono ?_; rintro e w3 ⟨rfl, he⟩; have hk3 := Keep4.ext he hk2; clear hk2 he) | (go_at_call 84; refine (Tryz.strings_TrimRight_one s3 48 (by decide) _ HL63.out).mono ?_; rintro e w' ⟨rfl, hw⟩; rw [hw, HS4.out]; clear hw) | (go_at_call 85; refine (Tryz.strings_TrimLeft_one (s2 ++ s4) 48 (by decide) _).mono ?_; rintro e w' ⟨rfl, hw⟩; rw [hw, HS5.out]; clear hw) | (go_at_call 82; with_reducible refine (Parse_calls HL6.out).mono ?_; rintro e w4 ⟨r1, rfl, hr, he⟩; have hk4 := Keep4.ext he hk2; rw [HP6.out] at hr; rw [HE6.out]; have HR1 := Aside.mk hr; obtain ⟨A1, c1, rfl, _⟩ := hr.form; clear hk2 hr he) | (go_at_call 86; refine natural_calls.mono ?_; rintro e w' ⟨rfl, rfl⟩) | (go_at_call 87; refine (Tryz.strings_Repeat ⟨#[48]⟩ s4.size _ HC1.out HC2.out).mono ?_; rintro e w5 ⟨rfl, he⟩; rw [HS7.out]; have hk5 := Keep4.ext he hk4; have HX5 := Aside.mk (show Ext _ _ from he); clear hk4 he) | (go_at_call 82; with_reducible refine (Parse_calls HL8.out).mono ?_; rintro e w6 ⟨r2, rfl, hr, he⟩; have hk6 := Keep4.ext he hk5; have HX6 := Aside.mk he; rw [HP8.out] at hr; rw [HE8.out]; have HR2 := Aside.mk hr; obtain ⟨A2, c2, rfl, _⟩ := hr.form; clear hk5 hr he) | (go_at_call 20; with_reducible refine (make_ok (NV.of (HR1.out.rv.ext (HX5.out.trans HX6.out)) HN1.out) (NV.of HR2.out.rv HN2.out) HQ.out).mono ?_; rintro e w7 ⟨r, rfl, hr, he⟩; have HZ := Aside.mk (World.block_lt_of_cell? _ _ hk6.2.1.1); have HR7 := Aside.mk hr; obtain ⟨A7, c7, B7, d7, rfl⟩ := hr.form; have hk7 := Keep4.ext ((Ext.refl w7).alloc (.cells #[.int .i64 q.f, .bool q.neg, .slice A7 q.num.length c7, .slice B7 q.den.length d7] 26)) (Keep4.ext he hk6); clear hk6 hr he))
            have HK := Aside.mk hk7
            refine bodyPost_ret (v := .tuple #[.agg #[.int .i64 q.f, .bool q.neg, .slice A7 q.num.length c7, .slice B7 q.den.length d7], .int .i64 0]) (by simp [results, Tryz.results30, go_sem, hk7]) rfl ⟨_, rfl, ((HR7.out.ext ((Ext.refl w7).alloc _)).set4 HZ.out _ _ _ _).mono (Nat.le_of_lt HZ.out), ext_set4 HK.out.1.out (Nat.le_refl _) _ _ _ _⟩
          · have HM : Aside (m = (fq 0, 4)) := ⟨by rw [← hm]; unfold fdecParts; rw [hq, if_neg hqf]⟩
            have hqf1 : (q.f == 0) = false := beq_eq_false_iff_ne.2 hqf
            have hqf2 : (q.f != 0) = true := by simp [bne, hqf1]
            rw [HM.out]
            clear hm hqf hq
            go_enter Tryz.func30, Tryz.ntmps30
            go_wp2_with (first | (go_at_call 81; refine (Tryz.strings_Cut s ⟨#[46]⟩ _ _ HL0.out (Classical.choose_spec (HG.out.ext hk0.1.out).c4)).mono ?_; rintro e w1 ⟨rfl, hw⟩; rw [HS2.out, HS3.out, HTW.out]; have hk1 := Keep4.ext (Ext.of_drewN hw) hk0; clear hk0 hw) | (go_at_call 83; with_reducible refine (digits_calls HL2.out HD2.out).mono ?_; rintro e w2 ⟨rfl, he⟩; have hk2 := Keep4.ext he hk1; clear hk1 he) | (go_at_call 83; with_reducible refine (digits_calls HL3.out HD3.out).mono ?_; rintro e w3 ⟨rfl, he⟩; have hk3 := Keep4.ext he hk2; clear hk2 he) | (go_at_call 84; refine (Tryz.strings_TrimRight_one s3 48 (by decide) _ HL63.out).mono ?_; rintro e w' ⟨rfl, hw⟩; rw [hw, HS4.out]; clear hw) | (go_at_call 85; refine (Tryz.strings_TrimLeft_one (s2 ++ s4) 48 (by decide) _).mono ?_; rintro e w' ⟨rfl, hw⟩; rw [hw, HS5.out]; clear hw) | (go_at_call 82; with_reducible refine (Parse_calls HL6.out).mono ?_; rintro e w4 ⟨r1, rfl, hr, he⟩; have hk4 := Keep4.ext he hk2; rw [HP6.out] at hr; rw [HE6.out]; have HR1 := Aside.mk hr; obtain ⟨A1, c1, rfl, _⟩ := hr.form; clear hk2 hr he) | (go_at_call 86; refine natural_calls.mono ?_; rintro e w' ⟨rfl, rfl⟩) | (go_at_call 87; refine (Tryz.strings_Repeat ⟨#[48]⟩ s4.size _ HC1.out HC2.out).mono ?_; rintro e w5 ⟨rfl, he⟩; rw [HS7.out]; have hk5 := Keep4.ext he hk4; have HX5 := Aside.mk (show Ext _ _ from he); clear hk4 he) | (go_at_call 82; with_reducible refine (Parse_calls HL8.out).mono ?_; rintro e w6 ⟨r2, rfl, hr, he⟩; have hk6 := Keep4.ext he hk5; have HX6 := Aside.mk he; rw [HP8.out] at hr; rw [HE8.out]; have HR2 := Aside.mk hr; obtain ⟨A2, c2, rfl, _⟩ := hr.form; clear hk5 hr he) | (go_at_call 20; with_reducible refine (make_ok (NV.of (HR1.out.rv.ext (HX5.out.trans HX6.out)) HN1.out) (NV.of HR2.out.rv HN2.out) HQ.out).mono ?_; rintro e w7 ⟨r, rfl, hr, he⟩; have HZ := Aside.mk (World.block_lt_of_cell? _ _ hk6.2.1.1); have HR7 := Aside.mk hr; obtain ⟨A7, c7, B7, d7, rfl⟩ := hr.form; have hk7 := Keep4.ext ((Ext.refl w7).alloc (.cells #[.int .i64 q.f, .bool q.neg, .slice A7 q.num.length c7, .slice B7 q.den.length d7] 26)) (Keep4.ext he hk6); clear hk6 hr he))
            have HK := Aside.mk hk7
            refine bodyPost_ret (v := .tuple #[.agg #[.int .i64 0, .bool false, .slice none 0 0, .slice none 0 0], .int .i64 4]) (by simp [results, Tryz.results30, go_sem, hk7]) rfl ⟨_, rfl, RO.fq _ _ _, ext_set4 HK.out.1.out (Nat.le_refl _) _ _ _ _⟩
      · cases d3
        · have HM : Aside (m = (fq 0, 5)) := ⟨by rw [← hm]; rfl⟩
          rw [HM.out]
          clear hm hd2 hd3 hcl
          go_enter Tryz.func30, Tryz.ntmps30
          go_wp2_with (first | (go_at_call 81; refine (Tryz.strings_Cut s ⟨#[46]⟩ _ _ HL0.out (Classical.choose_spec (HG.out.ext hk0.1.out).c4)).mono ?_; rintro e w1 ⟨rfl, hw⟩; rw [HS2.out, HS3.out, HTW.out]; have hk1 := Keep4.ext (Ext.of_drewN hw) hk0; clear hk0 hw) | (go_at_call 83; with_reducible refine (digits_calls HL2.out HD2.out).mono ?_; rintro e w2 ⟨rfl, he⟩; have hk2 := Keep4.ext he hk1; clear hk1 he) | (go_at_call 83; with_reducible refine (digits_calls HL3.out HD3.out).mono ?_; rintro e w3 ⟨rfl, he⟩; have hk3 := Keep4.ext he hk2; clear hk2 he))
          have HK := Aside.mk hk3
          refine bodyPost_ret (v := .tuple #[.agg #[.int .i64 0, .bool false, .slice none 0 0, .slice none 0 0], .int .i64 5]) (by simp [results, Tryz.results30, go_sem, hk3]) rfl ⟨_, rfl, RO.fq _ _ _, ext_set4 HK.out.1.out (Nat.le_refl _) _ _ _ _⟩
        · have hm : fdecParts s2.data.toList (Lib.trimRightB s3.data.toList 48) = m := hm
          have h3 : s3.data.toList.all isd = true := (isDs_all hd3).1
          obtain ⟨s4, hs4⟩ : ∃ s4 : ByteArray, (⟨(Lib.trimRightB s3.data.toList 48).toArray⟩ : ByteArray) = s4 := ⟨_, rfl⟩
          have hs4l : Lib.trimRightB s3.data.toList 48 = s4.data.toList := by rw [← hs4]
          rw [hs4l] at hm
          obtain ⟨ha2, hl2⟩ := isDs_all hd2
          have ha4 := trimR_all h3
          rw [hs4l, ← Lib.size_eq, ← Lib.size_eq] at ha4
          rw [← Lib.size_eq] at hl2
          obtain ⟨ha4, hl4⟩ := ha4
          obtain ⟨s5, hs5⟩ : ∃ s5 : ByteArray, (⟨(Lib.trimLeftB (s2 ++ s4).data.toList 48).toArray⟩ : ByteArray) = s5 := ⟨_, rfl⟩
          have hs5l : Lib.trimLeftB (s2 ++ s4).data.toList 48 = s5.data.toList := by rw [← hs5]
          have hall : (s2.data.toList ++ s4.data.toList).all isd = true := by rw [List.all_append, ha2, ha4]; rfl
          obtain ⟨hp6, hv6⟩ := shown_ok hall (by rw [List.length_append, ← Lib.size_eq, ← Lib.size_eq]; omega)
          have hlen6 := dval_len hall
          rw [List.length_append, ← Lib.size_eq, ← Lib.size_eq] at hlen6
          obtain ⟨s7, hs7⟩ : ∃ s7 : ByteArray, (⟨(Lib.repeatL (⟨#[48]⟩ : ByteArray).data.toList s4.size).toArray⟩ : ByteArray) = s7 := ⟨_, rfl⟩
          have hs7l : s7.data.toList = List.replicate s4.size 48 := by rw [← hs7, mk_toList]; exact repeat_one _
          have hs7z : s7.size = s4.size := by rw [Lib.size_eq, hs7l]; simp
          have h8l : (⟨#[49]⟩ ++ s7 : ByteArray).data.toList = 49 :: List.replicate s4.size 48 := by rw [append_toList, hs7l]; rfl
          have HE8 : Aside (perr (⟨#[49]⟩ ++ s7 : ByteArray).data.toList = 0) := ⟨by rw [h8l]; exact perr_ones (by omega)⟩
          have HP8 : Aside (pdig (⟨#[49]⟩ ++ s7 : ByteArray).data.toList = dig (10 ^ s4.size)) := ⟨by rw [pdig_ok HE8.out, h8l, dval_ones]⟩
          have HL8 : Aside ((⟨#[49]⟩ ++ s7 : ByteArray).size ≤ 1073741824) := ⟨by rw [append_sz, hs7z, show (⟨#[49]⟩ : ByteArray).size = 1 from rfl]; omega⟩
          have hlen8 : (dig (10 ^ s4.size)).length ≤ 512 := dec_len (by omega)
          have hlen6' : (dig (dval (s2.data.toList ++ s4.data.toList))).length ≤ 512 := dval_512 hall (by rw [List.length_append, ← Lib.size_eq, ← Lib.size_eq]; omega)
          obtain ⟨N, hN⟩ : ∃ N, dval (s2.data.toList ++ s4.data.toList) = N := ⟨_, rfl⟩
          rw [hN] at hlen6' hv6
          obtain ⟨q, hq⟩ : ∃ q, ratio false (dval (s2.data.toList ++ s4.data.toList)) (10 ^ s4.data.toList.length) = q := ⟨_, rfl⟩
          have HQ : Aside (ratio false N (10 ^ s4.size) = q) := ⟨by rw [← hN, Lib.size_eq s4]; exact hq⟩
          have HN1 := Aside.mk hlen6'
          have HN2 := Aside.mk hlen8
          have HS4 := Aside.mk hs4
          have HS5 := Aside.mk hs5
          have HS7 := Aside.mk hs7
          have hsz4 : s4.size ≤ 4899 := by omega
          have hsz2 : s2.size ≤ 4900 := by omega
          have hmin : min (s4.size : Int) 4899 = (s4.size : Int) := by omega
          have HC1 : Aside (s4.size ≤ 9223372036854775807) := ⟨by omega⟩
          have HC2 : Aside ((⟨#[48]⟩ : ByteArray).size * s4.size ≤ 140737488355328) := ⟨by rw [show (⟨#[48]⟩ : ByteArray).size = 1 from rfl]; omega⟩
          have HL63 : Aside (s3.size ≤ 9223372036854775807) := ⟨by have := HL3.out; omega⟩
          have hsh : shown (s2.data.toList ++ s4.data.toList) = if s5.data.toList = [] then [48] else s5.data.toList := by unfold shown; rw [← append_toList, hs5l]
          clear hlen6 hlen6' hlen8 hs4 hs5 hs7 h8l hall ha2 ha4 hN hs4l hd2 hd3 h3 hcl hl4 hs7l
          cases hem : s5.data.toList.isEmpty
          · have hemp : s5.toList.isEmpty = false := by rw [Lib.toList_data]; exact hem
            have hne : s5.data.toList ≠ [] := by intro h; rw [h] at hem; cases hem
            rw [hsh, if_neg hne] at hp6 hv6
            have HE6 := Aside.mk hp6
            have HP6 : Aside (pdig s5.data.toList = dig N) := ⟨by rw [pdig_ok hp6, hv6]⟩
            have HL6 : Aside (s5.size ≤ 1073741824) := ⟨by
              have : perr s5.data.toList ≠ 3 := by rw [hp6]; decide
              rw [Lib.size_eq]
              rcases Nat.lt_or_ge 4900 s5.data.toList.length with h | h
              · exfalso; apply this; unfold perr; rw [if_pos h]
              · omega⟩
            clear hsh hne hp6 hv6 hem hs5l
            by_cases hqf : q.f = 0
            · have HM : Aside (m = (q, 0)) := ⟨by rw [← hm]; unfold fdecParts; rw [hq, if_pos hqf]⟩
              have hqf1 : (q.f == 0) = true := by rw [hqf]; rfl
              have hqf2 : (q.f != 0) = false := by rw [hqf]; rfl
              rw [HM.out]
              clear hm hqf hq
              go_enter Tryz.func30, Tryz.ntmps30
              go_wp2_with (first | (go_at_call 81; refine (Tryz.strings_Cut s ⟨#[46]⟩ _ _ HL0.out (Classical.choose_spec (HG.out.ext hk0.1.out).c4)).mono ?_; rintro e w1 ⟨rfl, hw⟩; rw [HS2.out, HS3.out, HTW.out]; have hk1 := Keep4.ext (Ext.of_drewN hw) hk0; clear hk0 hw) | (go_at_call 83; with_reducible refine (digits_calls HL2.out HD2.out).mono ?_; rintro e w2 ⟨rfl, he⟩; have hk2 := Keep4.ext he hk1; clear hk1 he) | (go_at_call 83; with_reducible refine (digits_calls HL3.out HD3.out).mono ?_; rintro e w3 ⟨rfl, he⟩; have hk3 := Keep4.ext he hk2; clear hk2 he) | (go_at_call 84; refine (Tryz.strings_TrimRight_one s3 48 (by decide) _ HL63.out).mono ?_; rintro e w' ⟨rfl, hw⟩; rw [hw, HS4.out]; clear hw) | (go_at_call 85; refine (Tryz.strings_TrimLeft_one (s2 ++ s4) 48 (by decide) _).mono ?_; rintro e w' ⟨rfl, hw⟩; rw [hw, HS5.out]; clear hw) | (go_at_call 82; with_reducible refine (Parse_calls HL6.out).mono ?_; rintro e w4 ⟨r1, rfl, hr, he⟩; have hk4 := Keep4.ext he hk3; rw [HP6.out] at hr; rw [HE6.out]; have HR1 := Aside.mk hr; obtain ⟨A1, c1, rfl, _⟩ := hr.form; clear hk3 hr he) | (go_at_call 86; refine natural_calls.mono ?_; rintro e w' ⟨rfl, rfl⟩) | (go_at_call 87; refine (Tryz.strings_Repeat ⟨#[48]⟩ s4.size _ HC1.out HC2.out).mono ?_; rintro e w5 ⟨rfl, he⟩; rw [HS7.out]; have hk5 := Keep4.ext he hk4; have HX5 := Aside.mk (show Ext _ _ from he); clear hk4 he) | (go_at_call 82; with_reducible refine (Parse_calls HL8.out).mono ?_; rintro e w6 ⟨r2, rfl, hr, he⟩; have hk6 := Keep4.ext he hk5; have HX6 := Aside.mk he; rw [HP8.out] at hr; rw [HE8.out]; have HR2 := Aside.mk hr; obtain ⟨A2, c2, rfl, _⟩ := hr.form; clear hk5 hr he) | (go_at_call 20; with_reducible refine (make_ok (NV.of (HR1.out.rv.ext (HX5.out.trans HX6.out)) HN1.out) (NV.of HR2.out.rv HN2.out) HQ.out).mono ?_; rintro e w7 ⟨r, rfl, hr, he⟩; have HZ := Aside.mk (World.block_lt_of_cell? _ _ hk6.2.1.1); have HR7 := Aside.mk hr; obtain ⟨A7, c7, B7, d7, rfl⟩ := hr.form; have hk7 := Keep4.ext ((Ext.refl w7).alloc (.cells #[.int .i64 q.f, .bool q.neg, .slice A7 q.num.length c7, .slice B7 q.den.length d7] 26)) (Keep4.ext he hk6); clear hk6 hr he))
              have HK := Aside.mk hk7
              refine bodyPost_ret (v := .tuple #[.agg #[.int .i64 q.f, .bool q.neg, .slice A7 q.num.length c7, .slice B7 q.den.length d7], .int .i64 0]) (by simp [results, Tryz.results30, go_sem, hk7]) rfl ⟨_, rfl, ((HR7.out.ext ((Ext.refl w7).alloc _)).set4 HZ.out _ _ _ _).mono (Nat.le_of_lt HZ.out), ext_set4 HK.out.1.out (Nat.le_refl _) _ _ _ _⟩
            · have HM : Aside (m = (fq 0, 4)) := ⟨by rw [← hm]; unfold fdecParts; rw [hq, if_neg hqf]⟩
              have hqf1 : (q.f == 0) = false := beq_eq_false_iff_ne.2 hqf
              have hqf2 : (q.f != 0) = true := by simp [bne, hqf1]
              rw [HM.out]
              clear hm hqf hq
              go_enter Tryz.func30, Tryz.ntmps30
              go_wp2_with (first | (go_at_call 81; refine (Tryz.strings_Cut s ⟨#[46]⟩ _ _ HL0.out (Classical.choose_spec (HG.out.ext hk0.1.out).c4)).mono ?_; rintro e w1 ⟨rfl, hw⟩; rw [HS2.out, HS3.out, HTW.out]; have hk1 := Keep4.ext (Ext.of_drewN hw) hk0; clear hk0 hw) | (go_at_call 83; with_reducible refine (digits_calls HL2.out HD2.out).mono ?_; rintro e w2 ⟨rfl, he⟩; have hk2 := Keep4.ext he hk1; clear hk1 he) | (go_at_call 83; with_reducible refine (digits_calls HL3.out HD3.out).mono ?_; rintro e w3 ⟨rfl, he⟩; have hk3 := Keep4.ext he hk2; clear hk2 he) | (go_at_call 84; refine (Tryz.strings_TrimRight_one s3 48 (by decide) _ HL63.out).mono ?_; rintro e w' ⟨rfl, hw⟩; rw [hw, HS4.out]; clear hw) | (go_at_call 85; refine (Tryz.strings_TrimLeft_one (s2 ++ s4) 48 (by decide) _).mono ?_; rintro e w' ⟨rfl, hw⟩; rw [hw, HS5.out]; clear hw) | (go_at_call 82; with_reducible refine (Parse_calls HL6.out).mono ?_; rintro e w4 ⟨r1, rfl, hr, he⟩; have hk4 := Keep4.ext he hk3; rw [HP6.out] at hr; rw [HE6.out]; have HR1 := Aside.mk hr; obtain ⟨A1, c1, rfl, _⟩ := hr.form; clear hk3 hr he) | (go_at_call 86; refine natural_calls.mono ?_; rintro e w' ⟨rfl, rfl⟩) | (go_at_call 87; refine (Tryz.strings_Repeat ⟨#[48]⟩ s4.size _ HC1.out HC2.out).mono ?_; rintro e w5 ⟨rfl, he⟩; rw [HS7.out]; have hk5 := Keep4.ext he hk4; have HX5 := Aside.mk (show Ext _ _ from he); clear hk4 he) | (go_at_call 82; with_reducible refine (Parse_calls HL8.out).mono ?_; rintro e w6 ⟨r2, rfl, hr, he⟩; have hk6 := Keep4.ext he hk5; have HX6 := Aside.mk he; rw [HP8.out] at hr; rw [HE8.out]; have HR2 := Aside.mk hr; obtain ⟨A2, c2, rfl, _⟩ := hr.form; clear hk5 hr he) | (go_at_call 20; with_reducible refine (make_ok (NV.of (HR1.out.rv.ext (HX5.out.trans HX6.out)) HN1.out) (NV.of HR2.out.rv HN2.out) HQ.out).mono ?_; rintro e w7 ⟨r, rfl, hr, he⟩; have HZ := Aside.mk (World.block_lt_of_cell? _ _ hk6.2.1.1); have HR7 := Aside.mk hr; obtain ⟨A7, c7, B7, d7, rfl⟩ := hr.form; have hk7 := Keep4.ext ((Ext.refl w7).alloc (.cells #[.int .i64 q.f, .bool q.neg, .slice A7 q.num.length c7, .slice B7 q.den.length d7] 26)) (Keep4.ext he hk6); clear hk6 hr he))
              have HK := Aside.mk hk7
              refine bodyPost_ret (v := .tuple #[.agg #[.int .i64 0, .bool false, .slice none 0 0, .slice none 0 0], .int .i64 4]) (by simp [results, Tryz.results30, go_sem, hk7]) rfl ⟨_, rfl, RO.fq _ _ _, ext_set4 HK.out.1.out (Nat.le_refl _) _ _ _ _⟩
          · have hemp : s5.toList.isEmpty = true := by rw [Lib.toList_data]; exact hem
            have hne : s5.data.toList = [] := List.isEmpty_iff.1 hem
            rw [hsh, if_pos hne] at hp6 hv6
            have HE6 : Aside (perr (⟨#[48]⟩ : ByteArray).data.toList = 0) := ⟨hp6⟩
            have HP6 : Aside (pdig (⟨#[48]⟩ : ByteArray).data.toList = dig N) := ⟨(pdig_ok hp6).trans (by rw [hv6])⟩
            have HL6 : Aside ((⟨#[48]⟩ : ByteArray).size ≤ 1073741824) := ⟨by decide⟩
            clear hsh hne hp6 hv6 hem hs5l
            by_cases hqf : q.f = 0
            · have HM : Aside (m = (q, 0)) := ⟨by rw [← hm]; unfold fdecParts; rw [hq, if_pos hqf]⟩
              have hqf1 : (q.f == 0) = true := by rw [hqf]; rfl
              have hqf2 : (q.f != 0) = false := by rw [hqf]; rfl
              rw [HM.out]
              clear hm hqf hq
              go_enter Tryz.func30, Tryz.ntmps30
              go_wp2_with (first | (go_at_call 81; refine (Tryz.strings_Cut s ⟨#[46]⟩ _ _ HL0.out (Classical.choose_spec (HG.out.ext hk0.1.out).c4)).mono ?_; rintro e w1 ⟨rfl, hw⟩; rw [HS2.out, HS3.out, HTW.out]; have hk1 := Keep4.ext (Ext.of_drewN hw) hk0; clear hk0 hw) | (go_at_call 83; with_reducible refine (digits_calls HL2.out HD2.out).mono ?_; rintro e w2 ⟨rfl, he⟩; have hk2 := Keep4.ext he hk1; clear hk1 he) | (go_at_call 83; with_reducible refine (digits_calls HL3.out HD3.out).mono ?_; rintro e w3 ⟨rfl, he⟩; have hk3 := Keep4.ext he hk2; clear hk2 he) | (go_at_call 84; refine (Tryz.strings_TrimRight_one s3 48 (by decide) _ HL63.out).mono ?_; rintro e w' ⟨rfl, hw⟩; rw [hw, HS4.out]; clear hw) | (go_at_call 85; refine (Tryz.strings_TrimLeft_one (s2 ++ s4) 48 (by decide) _).mono ?_; rintro e w' ⟨rfl, hw⟩; rw [hw, HS5.out]; clear hw) | (go_at_call 82; with_reducible refine (Parse_calls HL6.out).mono ?_; rintro e w4 ⟨r1, rfl, hr, he⟩; have hk4 := Keep4.ext he hk3; rw [HP6.out] at hr; rw [HE6.out]; have HR1 := Aside.mk hr; obtain ⟨A1, c1, rfl, _⟩ := hr.form; clear hk3 hr he) | (go_at_call 86; refine natural_calls.mono ?_; rintro e w' ⟨rfl, rfl⟩) | (go_at_call 87; refine (Tryz.strings_Repeat ⟨#[48]⟩ s4.size _ HC1.out HC2.out).mono ?_; rintro e w5 ⟨rfl, he⟩; rw [HS7.out]; have hk5 := Keep4.ext he hk4; have HX5 := Aside.mk (show Ext _ _ from he); clear hk4 he) | (go_at_call 82; with_reducible refine (Parse_calls HL8.out).mono ?_; rintro e w6 ⟨r2, rfl, hr, he⟩; have hk6 := Keep4.ext he hk5; have HX6 := Aside.mk he; rw [HP8.out] at hr; rw [HE8.out]; have HR2 := Aside.mk hr; obtain ⟨A2, c2, rfl, _⟩ := hr.form; clear hk5 hr he) | (go_at_call 20; with_reducible refine (make_ok (NV.of (HR1.out.rv.ext (HX5.out.trans HX6.out)) HN1.out) (NV.of HR2.out.rv HN2.out) HQ.out).mono ?_; rintro e w7 ⟨r, rfl, hr, he⟩; have HZ := Aside.mk (World.block_lt_of_cell? _ _ hk6.2.1.1); have HR7 := Aside.mk hr; obtain ⟨A7, c7, B7, d7, rfl⟩ := hr.form; have hk7 := Keep4.ext ((Ext.refl w7).alloc (.cells #[.int .i64 q.f, .bool q.neg, .slice A7 q.num.length c7, .slice B7 q.den.length d7] 26)) (Keep4.ext he hk6); clear hk6 hr he))
              have HK := Aside.mk hk7
              refine bodyPost_ret (v := .tuple #[.agg #[.int .i64 q.f, .bool q.neg, .slice A7 q.num.length c7, .slice B7 q.den.length d7], .int .i64 0]) (by simp [results, Tryz.results30, go_sem, hk7]) rfl ⟨_, rfl, ((HR7.out.ext ((Ext.refl w7).alloc _)).set4 HZ.out _ _ _ _).mono (Nat.le_of_lt HZ.out), ext_set4 HK.out.1.out (Nat.le_refl _) _ _ _ _⟩
            · have HM : Aside (m = (fq 0, 4)) := ⟨by rw [← hm]; unfold fdecParts; rw [hq, if_neg hqf]⟩
              have hqf1 : (q.f == 0) = false := beq_eq_false_iff_ne.2 hqf
              have hqf2 : (q.f != 0) = true := by simp [bne, hqf1]
              rw [HM.out]
              clear hm hqf hq
              go_enter Tryz.func30, Tryz.ntmps30
              go_wp2_with (first | (go_at_call 81; refine (Tryz.strings_Cut s ⟨#[46]⟩ _ _ HL0.out (Classical.choose_spec (HG.out.ext hk0.1.out).c4)).mono ?_; rintro e w1 ⟨rfl, hw⟩; rw [HS2.out, HS3.out, HTW.out]; have hk1 := Keep4.ext (Ext.of_drewN hw) hk0; clear hk0 hw) | (go_at_call 83; with_reducible refine (digits_calls HL2.out HD2.out).mono ?_; rintro e w2 ⟨rfl, he⟩; have hk2 := Keep4.ext he hk1; clear hk1 he) | (go_at_call 83; with_reducible refine (digits_calls HL3.out HD3.out).mono ?_; rintro e w3 ⟨rfl, he⟩; have hk3 := Keep4.ext he hk2; clear hk2 he) | (go_at_call 84; refine (Tryz.strings_TrimRight_one s3 48 (by decide) _ HL63.out).mono ?_; rintro e w' ⟨rfl, hw⟩; rw [hw, HS4.out]; clear hw) | (go_at_call 85; refine (Tryz.strings_TrimLeft_one (s2 ++ s4) 48 (by decide) _).mono ?_; rintro e w' ⟨rfl, hw⟩; rw [hw, HS5.out]; clear hw) | (go_at_call 82; with_reducible refine (Parse_calls HL6.out).mono ?_; rintro e w4 ⟨r1, rfl, hr, he⟩; have hk4 := Keep4.ext he hk3; rw [HP6.out] at hr; rw [HE6.out]; have HR1 := Aside.mk hr; obtain ⟨A1, c1, rfl, _⟩ := hr.form; clear hk3 hr he) | (go_at_call 86; refine natural_calls.mono ?_; rintro e w' ⟨rfl, rfl⟩) | (go_at_call 87; refine (Tryz.strings_Repeat ⟨#[48]⟩ s4.size _ HC1.out HC2.out).mono ?_; rintro e w5 ⟨rfl, he⟩; rw [HS7.out]; have hk5 := Keep4.ext he hk4; have HX5 := Aside.mk (show Ext _ _ from he); clear hk4 he) | (go_at_call 82; with_reducible refine (Parse_calls HL8.out).mono ?_; rintro e w6 ⟨r2, rfl, hr, he⟩; have hk6 := Keep4.ext he hk5; have HX6 := Aside.mk he; rw [HP8.out] at hr; rw [HE8.out]; have HR2 := Aside.mk hr; obtain ⟨A2, c2, rfl, _⟩ := hr.form; clear hk5 hr he) | (go_at_call 20; with_reducible refine (make_ok (NV.of (HR1.out.rv.ext (HX5.out.trans HX6.out)) HN1.out) (NV.of HR2.out.rv HN2.out) HQ.out).mono ?_; rintro e w7 ⟨r, rfl, hr, he⟩; have HZ := Aside.mk (World.block_lt_of_cell? _ _ hk6.2.1.1); have HR7 := Aside.mk hr; obtain ⟨A7, c7, B7, d7, rfl⟩ := hr.form; have hk7 := Keep4.ext ((Ext.refl w7).alloc (.cells #[.int .i64 q.f, .bool q.neg, .slice A7 q.num.length c7, .slice B7 q.den.length d7] 26)) (Keep4.ext he hk6); clear hk6 hr he))
              have HK := Aside.mk hk7
              refine bodyPost_ret (v := .tuple #[.agg #[.int .i64 0, .bool false, .slice none 0 0, .slice none 0 0], .int .i64 4]) (by simp [results, Tryz.results30, go_sem, hk7]) rfl ⟨_, rfl, RO.fq _ _ _, ext_set4 HK.out.1.out (Nat.le_refl _) _ _ _ _⟩
end Go.Proofs.YtgfkachfbnbikaaGreatDoor
