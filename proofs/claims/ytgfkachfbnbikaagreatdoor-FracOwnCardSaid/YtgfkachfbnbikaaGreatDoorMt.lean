/- Contracts of fluxionlaw02: natural, tame, number, good. The plain law of Floor: what is whole, at most the number, and next to it. -/
import Derived.Test.YtgfkachfbnbikaaGreatDoorMo
import Derived.Test.YtgfkachfbnbikaaGreatDoorMq
import Derived.Test.YtgfkachfbnbikaaGreatDoorMn
import Derived.Test.YtgfkachfbnbikaaGreatDoorMr
import Derived.Test.YtgfkachfbnbikaaGreatDoorMs
namespace Go.Proofs.YtgfkachfbnbikaaGreatDoor
open Go.RowKit

theorem cut_m {w : World} {u : Value} {xs ys : List Nat} {m : Int} {most : Nat} (hu : RL w u xs) (hm : m = (most : Int)) (hmost : most ≤ 1073741824) (hy : xs.take most = ys) :
    Calls Tryz.prog 19 #[u, .int .i64 m] w fun e w' => ∃ r, e = .returned r ∧ OV w.heap.size w' r ys ∧ Ext w w' := cut_calls hu hm hmost hy
set_option maxHeartbeats 1000000 in
theorem natural_law {w : World} {u : Value} {xs : List Nat} {m : Int} {most n : Nat} (hu : RL w u xs) (hm : m = (most : Int)) (hmost : most ≤ 1073741824) (hn : val (xs.take most) = n) :
    Calls Tryz.prog 46 #[u, .int .i64 m] w fun e w' => ∃ r, e = .returned r ∧ OV w.heap.size w' r (dig n) ∧ Ext w w' := by
  obtain ⟨ys, hy⟩ : ∃ ys, xs.take most = ys := ⟨_, rfl⟩
  rw [hy] at hn
  subst hn
  have HU := Aside.mk hu
  have HM := Aside.mk hm
  have HMO := Aside.mk hmost
  have HY := Aside.mk hy
  obtain ⟨A, c, rfl, _⟩ := hu
  clear hm hmost hy
  go_enter Tryz.func46, Tryz.ntmps46
  go_wp2_with (go_at_call 19; with_reducible refine (cut_m HU.out HM.out HMO.out HY.out).mono ?_; rintro e w1 ⟨r, rfl, hr, he⟩; have HR := Aside.mk hr; have HE := Aside.mk he; obtain ⟨B, d, rfl, hcd⟩ := hr.form; clear hr he)
  have H := HR
  have hl : ys.length ≤ 1073741824 := H.out.1.1
  have E : Aside (trimTo ys ys.length = dig (val ys)) := ⟨by rw [trimTo_dig H.out.1.2 _ (Nat.le_refl _), val_take_all]⟩
  go_loop [5] (fun s => ∃ k : Nat, k ≤ ys.length ∧ s = .slice B k d ∧ Aside (trimTo ys ys.length = trimTo ys k)) (fun s => match s with | .slice _ k _ => k | _ => 0)
  case atStart => exact ⟨_, Nat.le_refl _, rfl, ⟨rfl⟩⟩
  case round =>
    obtain ⟨k, hk, rfl, HK⟩ := hrel
    cases k with
    | zero =>
      go_wp2
      go_ret
      exact ⟨.slice B 0 d, rfl, by rw [← E.out, HK.out]; exact H.out.take 0 (by omega), HE.out⟩
    | succ k =>
      obtain ⟨ad, rfl, hx⟩ := (H.out.rv).at' k (by omega)
      have hkc : k ≤ d := by omega
      by_cases h0 : ys.getD k 0 = 0
      · have h00 : (((ys[k]?.getD 0 : Nat) : Int) == 0) = true := by rw [List.getD_eq_getElem?_getD] at h0; simp [h0]
        have HK' : Aside (trimTo ys ys.length = trimTo ys k) := ⟨by rw [HK.out, trimTo, if_pos h0]⟩
        clear h0 HK
        go_wp2
        go_round
        case rel => exact ⟨k, by omega, by first | rfl | (congr 1; omega), HK'⟩
        case measure => first | (simp; done) | (simp; omega)
      · have h00 : (((ys[k]?.getD 0 : Nat) : Int) == 0) = false := by rw [List.getD_eq_getElem?_getD] at h0; simp; omega
        have HK' : Aside (dig (val ys) = ys.take (k + 1)) := ⟨by rw [← E.out, HK.out, trimTo, if_neg h0]⟩
        clear h0 HK
        go_wp2
        go_ret
        exact ⟨.slice (some ad) (k + 1) d, rfl, by rw [HK'.out]; exact H.out.take (k + 1) hk, HE.out⟩

/-- The digits of a list, 1 if they are 0. -/
def den1 (n : Nat) : Nat := if n = 0 then 1 else n
/-- A valid Rat made of any one. -/
def tameq (f : Int) (neg : Bool) (xs ys : List Nat) (most : Nat) : Rq := if f = 4 ∨ f = 11 then fq f else ratio neg (val (xs.take most)) (den1 (val (ys.take most)))
theorem dig_take {xs : List Nat} {most : Nat} (h : Ds xs) : (dig (val (xs.take most))).length ≤ most := by
  apply dig_length_le
  have h1 := val_lt (h.take most)
  exact Nat.lt_of_lt_of_le h1 (Nat.pow_le_pow_right (by decide) (by rw [List.length_take]; exact Nat.min_le_left _ _))
theorem RL.ds {w : World} {u : Value} {xs : List Nat} (h : RL w u xs) : Ds xs := by
  obtain ⟨_, _, _, _, _, hd, _⟩ := h
  exact hd
theorem lit1r {w : World} {n : Nat} (hs : w.heap.size = n) : RV (w.alloc (.cells #[.int .u32 1] 46)) (.slice (some ⟨n, 0, none⟩) 1 1) (dig 1) := by
  subst hs
  have h := OV.lit w [1] (by simp) (Ds.cons (by decide) Ds.nil)
  simp only [u32s, List.map_cons, List.map_nil, List.length_cons, List.length_nil] at h
  rw [dig_one]; exact h.rv

set_option maxRecDepth 10000 in
set_option maxHeartbeats 2000000 in
theorem tame_calls {w : World} {f : Int} {neg : Bool} {sx sy : Value} {xs ys : List Nat} {most : Nat} {q : Rq} (hx : RL w sx xs) (hy : RL w sy ys) (hm : most ≤ 1000) (hq : tameq f neg xs ys most = q) :
    Calls Tryz.prog 34 #[.agg #[.int .i64 f, .bool neg, sx, sy], .int .i64 (most : Int)] w fun e w' => ∃ r, e = .returned r ∧ RO w.heap.size w' r q ∧ Ext w w' := by
  have HX := Aside.mk hx
  have HY := Aside.mk hy
  have hlx := @dig_take xs most hx.ds
  have hly := @dig_take ys most hy.ds
  obtain ⟨AX, cx, rfl, _⟩ := hx
  obtain ⟨AY, cy, rfl, _⟩ := hy
  generalize xs.length = nx at *
  generalize ys.length = ny at *
  have hk0 := KeepBR.init w (.int .i64 f) (.bool neg) (.slice AX nx cx) (.slice AY ny cy) (.int .i64 0) (.bool false) (.slice none 0 0) (.slice none 0 0) 26 26
  by_cases hf : f = 4 ∨ f = 11
  · have HQ : Aside (q = fq f) := ⟨by rw [← hq, tameq, if_pos hf]⟩
    have hfb : (f == 4 || f == 11) = true := by rcases hf with h | h <;> simp [h]
    rw [HQ.out]
    clear hq hf hlx hly hm
    cases h4 : (f == 4)
    · rw [h4, Bool.false_or] at hfb
      go_enter Tryz.func34, Tryz.ntmps34
      go_wp2_with (go_at_call 64; with_reducible refine rfault_calls.mono ?_; rintro e w1 ⟨rfl, he⟩; have hk1 := KeepBR.ext he hk0; clear hk0 he)
      have HK := Aside.mk hk1
      refine bodyPost_ret (v := .agg #[.int .i64 f, .bool false, .slice none 0 0, .slice none 0 0]) (by simp [results, Tryz.results34, go_sem, hk1]) rfl ⟨_, rfl, RO.fq _ _ _, ext_set4 HK.out.1.out (by omega) _ _ _ _⟩
    · clear hfb
      go_enter Tryz.func34, Tryz.ntmps34
      go_wp2_with (go_at_call 64; with_reducible refine rfault_calls.mono ?_; rintro e w1 ⟨rfl, he⟩; have hk1 := KeepBR.ext he hk0; clear hk0 he)
      have HK := Aside.mk hk1
      refine bodyPost_ret (v := .agg #[.int .i64 f, .bool false, .slice none 0 0, .slice none 0 0]) (by simp [results, Tryz.results34, go_sem, hk1]) rfl ⟨_, rfl, RO.fq _ _ _, ext_set4 HK.out.1.out (by omega) _ _ _ _⟩
  · obtain ⟨x, hnx⟩ : ∃ x, val (xs.take most) = x := ⟨_, rfl⟩
    obtain ⟨y, hny⟩ : ∃ y, val (ys.take most) = y := ⟨_, rfl⟩
    rw [hnx] at hlx
    rw [hny] at hly
    have HNX := Aside.mk hnx
    have HNY := Aside.mk hny
    have hq1 : ratio neg x (den1 y) = q := by rw [← hq, tameq, if_neg hf, hnx, hny]
    have HMO : Aside (most ≤ 1073741824) := ⟨by omega⟩
    have HLA : Aside ((dig x).length < 1073741824) := ⟨by omega⟩
    have h4 : (f == 4) = false := beq_eq_false_iff_ne.2 (fun h => hf (.inl h))
    have h11 : (f == 11) = false := beq_eq_false_iff_ne.2 (fun h => hf (.inr h))
    obtain ⟨ly, hl⟩ : ∃ l, (dig y).length = l := ⟨_, rfl⟩
    have HLY := Aside.mk hl
    rcases Nat.eq_zero_or_pos y with h0 | h0
    · subst h0
      have HQ : Aside (ratio neg x 1 = q) := ⟨hq1⟩
      have HLB : Aside ((dig 1).length < 1073741824) := ⟨by rw [dig_one]; decide⟩
      have hl0 : ly = 0 := by rw [← hl, dig_zero]; rfl
      subst hl0
      clear hq hq1 hf hlx hly hm hnx hny hl
      go_enter Tryz.func34, Tryz.ntmps34
      go_wp2_with (go_at_call 46; with_reducible refine (natural_law (HY.out.ext hk0.1.out) rfl HMO.out HNY.out).mono ?_; rintro e w1 ⟨r, rfl, hr, he⟩; have hk1 := KeepBR.ext he hk0; have HR1 := Aside.mk hr.rv; obtain ⟨A1, c1, rfl, _⟩ := hr.form; clear hk0 hr he; (rw [HLY.out] at HR1 ⊢))
      have HR2 := Aside.mk (RV.ext (lit1r (w := w1) rfl) (Ext.refl _).drew)
      have hkd := KeepBR.ext (((Ext.refl _).alloc (.cells #[.int .u32 1] 46)).drew) hk1
      go_region_held (fun w' => KeepBR w (.int .i64 f) (.bool neg) (.slice AX nx cx) (.slice AY ny cy) w') (first | assumption | exact KeepBR.ext (by assumption) (by assumption) | exact (((KeepBR.set (by assumption) _ _).set _ _).set _ _).set _ _) (first | (go_at_call 46; with_reducible refine (natural_law (HX.out.ext (Aside.out (And.left (show KeepBR w (.int .i64 f) (.bool neg) (.slice AX nx cx) (.slice AY ny cy) _ from by assumption)))) rfl HMO.out HNX.out).mono ?_; rintro e w5 ⟨r, rfl, hr, he5⟩; have HR5 := Aside.mk hr.rv; have HE5 := Aside.mk he5; obtain ⟨A5, c5, rfl, _⟩ := hr.form; clear hr) | (go_at_call 24; with_reducible refine (rratio_calls HR5.out (HR2.out.ext HE5.out) HLA.out HLB.out HQ.out).mono ?_; rintro e w6 ⟨r, rfl, hr, he6⟩; have HR6 := Aside.mk hr; obtain ⟨A6, c6, B6, d6, rfl⟩ := hr.form; clear hr))
      have hk5 := KeepBR.ext he5 hkd
      have hk6 := KeepBR.ext he6 hk5
      have hz : w.heap.size + 1 < w5.heap.size := World.block_lt_of_cell? _ _ hk5.2.2.1.1
      have HK := Aside.mk hk6
      have HZ := Aside.mk hz
      clear hk5 hkd hz
      go_wp2
      refine bodyPost_ret (v := .agg #[.int .i64 q.f, .bool q.neg, .slice A6 q.num.length c6, .slice B6 q.den.length d6]) (by simp [results, Tryz.results34, go_sem, hk6]) rfl ⟨_, rfl, (HR6.out.set4 HZ.out _ _ _ _).mono (by have := HZ.out; omega), ext_set4 HK.out.1.out (by omega) _ _ _ _⟩
    · have hd : den1 y = y := if_neg (by omega)
      have HQ : Aside (ratio neg x y = q) := ⟨by rw [← hq1, hd]⟩
      have HLB : Aside ((dig y).length < 1073741824) := ⟨by omega⟩
      have hlp := dig_length_pos h0
      have hly0 : ((ly : Int) == 0) = false := beq_eq_false_iff_ne.2 (by omega)
      clear hq hq1 hf hlx hly hm hnx hny hl h0 hd hlp
      go_enter Tryz.func34, Tryz.ntmps34
      go_wp2_with (go_at_call 46; with_reducible refine (natural_law (HY.out.ext hk0.1.out) rfl HMO.out HNY.out).mono ?_; rintro e w1 ⟨r, rfl, hr, he⟩; have hk1 := KeepBR.ext he hk0; have HR1 := Aside.mk hr.rv; obtain ⟨A1, c1, rfl, _⟩ := hr.form; clear hk0 hr he; (rw [HLY.out] at HR1 ⊢))
      have HR2 := Aside.mk (HR1.out.ext (Ext.refl _).drew)
      have hkd := KeepBR.ext (Ext.refl _).drew hk1
      go_region_held (fun w' => KeepBR w (.int .i64 f) (.bool neg) (.slice AX nx cx) (.slice AY ny cy) w') (first | assumption | exact KeepBR.ext (by assumption) (by assumption) | exact (((KeepBR.set (by assumption) _ _).set _ _).set _ _).set _ _) (first | (go_at_call 46; with_reducible refine (natural_law (HX.out.ext (Aside.out (And.left (show KeepBR w (.int .i64 f) (.bool neg) (.slice AX nx cx) (.slice AY ny cy) _ from by assumption)))) rfl HMO.out HNX.out).mono ?_; rintro e w5 ⟨r, rfl, hr, he5⟩; have HR5 := Aside.mk hr.rv; have HE5 := Aside.mk he5; obtain ⟨A5, c5, rfl, _⟩ := hr.form; clear hr) | (go_at_call 24; with_reducible refine (rratio_calls HR5.out (HR2.out.ext HE5.out) HLA.out HLB.out HQ.out).mono ?_; rintro e w6 ⟨r, rfl, hr, he6⟩; have HR6 := Aside.mk hr; obtain ⟨A6, c6, B6, d6, rfl⟩ := hr.form; clear hr))
      have hk5 := KeepBR.ext he5 hkd
      have hk6 := KeepBR.ext he6 hk5
      have hz : w.heap.size + 1 < w5.heap.size := World.block_lt_of_cell? _ _ hk5.2.2.1.1
      have HK := Aside.mk hk6
      have HZ := Aside.mk hz
      clear hk5 hkd hz
      go_wp2
      refine bodyPost_ret (v := .agg #[.int .i64 q.f, .bool q.neg, .slice A6 q.num.length c6, .slice B6 q.den.length d6]) (by simp [results, Tryz.results34, go_sem, hk6]) rfl ⟨_, rfl, (HR6.out.set4 HZ.out _ _ _ _).mono (by have := HZ.out; omega), ext_set4 HK.out.1.out (by omega) _ _ _ _⟩

theorem KeepBR.first {w w1 : World} {x0 x1 x2 x3 : Value} (h : KeepBR w x0 x1 x2 x3 w1) (v : Value) : KeepBR w v x1 x2 x3 (w1.setCell ⟨w.heap.size, 0, none⟩ v) :=
  ⟨⟨h.1.out.set (Nat.le_refl _) v⟩, ⟨cell_same h.2.1.1, off_other h.2.1.2.1 (by decide), off_other h.2.1.2.2.1 (by decide), off_other h.2.1.2.2.2 (by decide)⟩, ⟨h.2.2.1.set _ _, h.2.2.2.1.set _ _, h.2.2.2.2.1.set _ _, h.2.2.2.2.2.set _ _⟩⟩
set_option maxRecDepth 10000 in
set_option maxHeartbeats 1000000 in
theorem number_calls {w : World} {f : Int} {neg : Bool} {sx sy : Value} {xs ys : List Nat} {most : Nat} {q : Rq} (hx : RL w sx xs) (hy : RL w sy ys) (hm : most ≤ 1000) (hq : tameq 0 neg xs ys most = q) :
    Calls Tryz.prog 55 #[.agg #[.int .i64 f, .bool neg, sx, sy], .int .i64 (most : Int)] w fun e w' => ∃ r, e = .returned r ∧ RO w.heap.size w' r q ∧ Ext w w' := by
  have HX := Aside.mk hx
  have HY := Aside.mk hy
  have HM := Aside.mk hm
  have HQ := Aside.mk hq
  obtain ⟨AX, cx, rfl, _⟩ := hx
  obtain ⟨AY, cy, rfl, _⟩ := hy
  generalize xs.length = nx at *
  generalize ys.length = ny at *
  have hk0 := KeepBR.init w (.int .i64 0) (.bool neg) (.slice AX nx cx) (.slice AY ny cy) (.int .i64 0) (.bool false) (.slice none 0 0) (.slice none 0 0) 26 26
  clear hq hm
  go_enter Tryz.func55, Tryz.ntmps55
  go_wp2_with (go_at_call 34; with_reducible refine (tame_calls (HX.out.ext hk0.1.out) (HY.out.ext hk0.1.out) HM.out HQ.out).mono ?_; rintro e w3 ⟨r, rfl, hr, he⟩; have hz : w.heap.size + 1 < _ := World.block_lt_of_cell? _ _ hk0.2.2.1.1; have hk3 := KeepBR.ext he hk0; have HR3 := Aside.mk hr; have HZ := Aside.mk hz; obtain ⟨A3, c3, B3, d3, rfl⟩ := hr.form; clear hk0 hr he hz)
  have HK := Aside.mk hk3
  refine bodyPost_ret (v := .agg #[.int .i64 q.f, .bool q.neg, .slice A3 q.num.length c3, .slice B3 q.den.length d3]) (by simp [results, Tryz.results55, go_sem, hk3]) rfl ⟨_, rfl, (HR3.out.set4 HZ.out _ _ _ _).mono (by have := HZ.out; omega), ext_set4 HK.out.1.out (by omega) _ _ _ _⟩
/-- A result is valid, without an error. -/
theorem good_true {w : World} {u : Value} {q : Rq} (hu : RR w u q) (hq : okq q = true) :
    Calls Tryz.prog 44 #[u, .int .i64 0] w fun e w' => e = .returned (.bool true) ∧ Ext w w' := by
  have HU := Aside.mk hu
  have HQ := Aside.mk hq
  obtain ⟨A, ca, B, cb, rfl⟩ := hu.form
  have hk0 := KeepB.init w (.int .i64 q.f) (.bool q.neg) (.slice A q.num.length ca) (.slice B q.den.length cb) 26
  clear hu hq
  go_enter Tryz.func44, Tryz.ntmps44
  go_wp2_with (go_at_call 27; with_reducible refine (risrat_calls (HU.out.ext hk0.1.out) HQ.out).mono ?_; rintro e w1 ⟨rfl, he⟩; have hk1 := KeepB.ext he hk0; clear hk0 he)
  go_ret
  exact ⟨rfl, hk1.1.out⟩
end Go.Proofs.YtgfkachfbnbikaaGreatDoor

namespace Go.Proofs.YtgfkachfbnbikaaGreatDoor
open Go.RowKit

theorem IsNum.ok {q : Rq} {a b : Nat} (k : IsNum q a b) : okq q = true := by
  have h1 := k.f
  have h2 := k.num
  have h3 := k.den
  have hb := dig_length_pos k.pos
  have hn : (q.neg && decide ((dig a).length = 0)) = false := by
    cases hq : q.neg
    · rfl
    · have := dig_length_pos (k.neg hq)
      rw [decide_eq_false (by omega)]; rfl
  unfold okq
  rw [if_pos h1, h2, h3, natErr_dig0 (Nat.le_trans k.la (by decide)), natErr_dig0 (Nat.le_trans k.lb (by decide)), val_dig, val_dig, isLong_false.2 k.la, isLong_false.2 k.lb, hn, decide_eq_false (show ¬ (dig b).length = 0 by omega), k.gcd]
  rfl
theorem ratio_is {n : Bool} {x y : Nat} (hy : 0 < y) (hx : (dig x).length ≤ 128) (hl : (dig y).length ≤ 128) : IsNum (ratio n x y) (x / Nat.gcd x y) (y / Nat.gcd x y) := by
  have hg : 0 < Nat.gcd x y := Nat.gcd_pos_of_pos_right _ hy
  have lx := Nat.le_trans (dig_len_mono (Nat.div_le_self x (Nat.gcd x y))) hx
  have ly := Nat.le_trans (dig_len_mono (Nat.div_le_self y (Nat.gcd x y))) hl
  have e : ratio n x y = ⟨0, n && decide (0 < x), dig (x / Nat.gcd x y), dig (y / Nat.gcd x y)⟩ := by
    unfold ratio
    rw [if_neg (by omega), isLong_false.2 lx, isLong_false.2 ly]; rfl
  rw [e]
  refine ⟨rfl, rfl, rfl, lx, ly, Nat.div_pos (Nat.le_of_dvd hy (Nat.gcd_dvd_right _ _)) hg, ?_, ?_⟩
  · rw [Nat.gcd_div (Nat.gcd_dvd_left _ _) (Nat.gcd_dvd_right _ _), Nat.div_self hg]
  · intro h
    simp only [Bool.and_eq_true, decide_eq_true_eq] at h
    exact Nat.div_pos (Nat.le_of_dvd h.2 (Nat.gcd_dvd_left _ _)) hg
theorem ratio_whole {n : Bool} {m : Nat} (hm : (dig m).length ≤ 128) : ratio n m 1 = ⟨0, n && decide (0 < m), dig m, dig 1⟩ := by
  unfold ratio
  rw [Nat.gcd_one_right, Nat.div_one, if_neg (by decide), isLong_false.2 hm, isLong_false.2 (by rw [dig_one]; decide)]; rfl
theorem whole_is {n : Bool} {m : Nat} (hm : (dig m).length ≤ 128) : IsNum ⟨0, n && decide (0 < m), dig m, dig 1⟩ m 1 :=
  ⟨rfl, rfl, rfl, hm, by rw [dig_one]; decide, by decide, Nat.gcd_one_right _, fun h => by simp only [Bool.and_eq_true, decide_eq_true_eq] at h; exact h.2⟩
/-- The whole number that Floor finds. -/
def flo (n : Bool) (p d : Nat) : Nat := if n = true ∧ 0 < p % d then p / d + 1 else p / d
theorem flo_less {n : Bool} {p d : Nat} (hd : 0 < d) (hn : n = true → 0 < p) : lessq n p (n && decide (0 < flo n p d)) (flo n p d * d) = false := by
  have h1 := Nat.div_add_mod p d
  have h2 := Nat.mod_lt p hd
  rw [Nat.mul_comm] at h1
  unfold flo
  cases n
  · rw [if_neg (by simp)]
    simp [lessq]; omega
  · have hp := hn rfl
    by_cases h : 0 < p % d
    · rw [if_pos ⟨rfl, h⟩]
      have e : (p / d + 1) * d = p / d * d + d := by rw [Nat.add_mul, Nat.one_mul]
      simp [lessq]; omega
    · rw [if_neg (by simpa using h)]
      have hq : 0 < p / d := by
        rcases Nat.eq_zero_or_pos (p / d) with h0 | h0
        · rw [h0, Nat.zero_mul] at h1; omega
        · exact h0
      rw [decide_eq_true hq]
      simp [lessq]; omega
/-- The next whole number, with its sign. -/
def nxt (n : Bool) (m : Nat) : Bool × Nat := ssum (n && decide (0 < m)) (m * 1) false (1 * 1)
theorem nxt_less {n : Bool} {p d : Nat} (hd : 0 < d) (hn : n = true → 0 < p) : lessq n p ((nxt n (flo n p d)).1 && decide (0 < (nxt n (flo n p d)).2)) ((nxt n (flo n p d)).2 * d) = true := by
  have h1 := Nat.div_add_mod p d
  have h2 := Nat.mod_lt p hd
  rw [Nat.mul_comm] at h1
  cases n
  · have e : flo false p d = p / d := by unfold flo; rw [if_neg (by simp)]
    have e2 : nxt false (p / d) = (false, p / d + 1) := by simp [nxt, ssum]
    rw [e, e2]
    have e3 : (p / d + 1) * d = p / d * d + d := by rw [Nat.add_mul, Nat.one_mul]
    simp [lessq]; omega
  · have hp := hn rfl
    obtain ⟨m, hm⟩ : ∃ m, flo true p d = m + 1 ∧ m * d < p := by
      unfold flo
      by_cases h : 0 < p % d
      · rw [if_pos ⟨rfl, h⟩]
        exact ⟨p / d, rfl, by omega⟩
      · rw [if_neg (by simpa using h)]
        have hq : 0 < p / d := by
          rcases Nat.eq_zero_or_pos (p / d) with h0 | h0
          · rw [h0, Nat.zero_mul] at h1; omega
          · exact h0
        obtain ⟨k, hk⟩ : ∃ k, p / d = k + 1 := ⟨p / d - 1, by omega⟩
        rw [hk, Nat.add_mul, Nat.one_mul] at h1
        exact ⟨k, hk, by omega⟩
    rw [hm.1]
    have e2 : nxt true (m + 1) = (true, m) := by
      unfold nxt ssum
      rw [decide_eq_true (show 0 < m + 1 by omega)]
      rw [if_neg (by simp), if_neg (by omega)]
      simp
    rw [e2]
    rcases Nat.eq_zero_or_pos m with h0 | h0
    · subst h0; simp [lessq]
    · rw [decide_eq_true h0]
      simp [lessq]; omega
theorem flo_le {n : Bool} {p d : Nat} : flo n p d ≤ p + 1 := by
  unfold flo
  have := Nat.div_le_self p d
  split <;> omega
theorem nxt_le {n : Bool} {m : Nat} : (nxt n m).2 ≤ m + 1 := by
  unfold nxt ssum
  split
  · simp
  · split
    · simp; omega
    · simp; omega
end Go.Proofs.YtgfkachfbnbikaaGreatDoor
