/- Contracts of package frac: sum, opposite, and what is computed of two numbers. Contracts of package frac: the closures of Mul and Div. Contracts of package frac: Add, Mul, Div. -/
import Derived.Test.YtgfkachfbnbikaaGreatDoorMi
namespace Go.Proofs.YtgfkachfbnbikaaGreatDoor
open Go.RowKit

theorem len_mul {a b m n : Nat} (ha : (dig a).length ≤ m) (hb : (dig b).length ≤ n) : (dig (a * b)).length ≤ m + n := by
  apply dig_length_le
  rw [Nat.pow_add]
  have h1 := lt_of_dig_length ha
  have h2 := lt_of_dig_length hb
  rcases Nat.eq_zero_or_pos b with h | h
  · subst h; rw [Nat.mul_zero]; exact Nat.mul_pos (Bpos m) (Bpos n)
  · exact Nat.lt_of_lt_of_le (Nat.mul_lt_mul_of_pos_right h1 h) (Nat.mul_le_mul_left _ (Nat.le_of_lt h2))
theorem len_add {a b m : Nat} (ha : (dig a).length ≤ m) (hb : (dig b).length ≤ m) : (dig (a + b)).length ≤ m + 1 := by
  apply dig_length_le
  rw [Nat.pow_succ]
  have h1 := lt_of_dig_length ha
  have h2 := lt_of_dig_length hb
  omega
theorem len_ssum {n1 n2 : Bool} {a b m : Nat} (ha : (dig a).length ≤ m) (hb : (dig b).length ≤ m) : (dig (ssum n1 a n2 b).2).length ≤ m + 1 := by
  unfold ssum
  split
  · exact len_add ha hb
  · split
    · exact Nat.le_trans (dig_len_mono (Nat.sub_le b a)) (by omega)
    · exact Nat.le_trans (dig_len_mono (Nat.sub_le a b)) (by omega)

theorem leastq_zero {a b : Int} (h : leastq a b = 0) : a = 0 ∧ b = 0 := by
  unfold leastq at h
  split at h <;> omega

/-- A valid Rat that is no fault. -/
structure IsNum (q : Rq) (a b : Nat) : Prop where
  f : q.f = 0
  num : q.num = dig a
  den : q.den = dig b
  la : (dig a).length ≤ 128
  lb : (dig b).length ≤ 128
  pos : 0 < b
  gcd : Nat.gcd a b = 1
  neg : q.neg = true → 0 < a
theorem okq_num {q : Rq} {xs ys : List Nat} (hx : q.num = xs) (hy : q.den = ys) (hdx : Ds xs) (hdy : Ds ys) (h : okq q = true) (hf : q.f = 0) : IsNum q (val xs) (val ys) := by
  unfold okq at h
  rw [if_pos hf, hx, hy] at h
  simp only [Bool.and_eq_true, decide_eq_true_eq, Bool.not_eq_true', beq_iff_eq] at h
  obtain ⟨⟨⟨⟨⟨⟨h1, h2⟩, h3⟩, h4⟩, h5⟩, h6⟩, h7⟩ := h
  have e1 := (natErr_zero hdx h1).2
  have e2 := (natErr_zero hdy h2).2
  refine ⟨hf, by rw [hx]; exact e1, by rw [hy]; exact e2, isLong_false.1 h3, isLong_false.1 h4, ?_, h7, ?_⟩
  · rcases Nat.eq_zero_or_pos (val ys) with h0 | h0
    · rw [h0, dig_zero] at e2; rw [e2] at h5; simp at h5
    · exact h0
  · intro hn
    rcases Nat.eq_zero_or_pos (val xs) with h0 | h0
    · rw [h0, dig_zero] at e1; rw [e1, hn] at h6; simp at h6
    · exact h0
theorem RR.ds {w : World} {v : Value} {q : Rq} (h : RR w v q) : Ds q.num ∧ Ds q.den := by
  obtain ⟨x, y, rfl, h1, h2⟩ := h
  exact ⟨h1.dg.2, h2.dg.2⟩

theorem NV.rv {w : World} {v : Value} {a : Nat} (h : NV w v a) : RV w v (dig a) := h.1

/-- The sum of two numbers. -/
def sumq (n1 : Bool) (a b : Nat) (n2 : Bool) (c d : Nat) : Rq := ratio (ssum n1 (a * d) n2 (c * b)).1 (ssum n1 (a * d) n2 (c * b)).2 (b * d)

set_option maxRecDepth 10000 in
set_option maxHeartbeats 4000000 in
theorem sum_calls {w : World} {u v : Value} {f1 f2 : Int} {n1 n2 : Bool} {a b c d : Nat} (hu : RR w u ⟨f1, n1, dig a, dig b⟩) (hv : RR w v ⟨f2, n2, dig c, dig d⟩) (ha : (dig a).length ≤ 128) (hb : (dig b).length ≤ 128) (hc : (dig c).length ≤ 128) (hd : (dig d).length ≤ 128) :
    Calls Tryz.prog 95 #[u, v] w fun e w' => ∃ r, e = .returned r ∧ RO w.heap.size w' r (sumq n1 a b n2 c d) ∧ Ext w w' := by
  obtain ⟨x, y, rfl, hxa, hya⟩ := hu
  obtain ⟨x', y', rfl, hxb, hyb⟩ := hv
  dsimp only at *
  have HXA := Aside.mk (NV.of hxa (by omega))
  have HYA := Aside.mk (NV.of hya (by omega))
  have HXB := Aside.mk (NV.of hxb (by omega))
  have HYB := Aside.mk (NV.of hyb (by omega))
  have HL1 : Aside ((dig (a * d)).length ≤ 256) := ⟨len_mul ha hd⟩
  have HL2 : Aside ((dig (c * b)).length ≤ 256) := ⟨len_mul hc hb⟩
  have HL3 : Aside ((dig (b * d)).length ≤ 256) := ⟨len_mul hb hd⟩
  have HL4 : Aside ((dig (ssum n1 (a * d) n2 (c * b)).2).length ≤ 257) := ⟨len_ssum HL1.out HL2.out⟩
  obtain ⟨s1, hs1⟩ : ∃ s, (ssum n1 (a * d) n2 (c * b)).1 = s := ⟨_, rfl⟩
  obtain ⟨q, hq⟩ : ∃ q, sumq n1 a b n2 c d = q := ⟨_, rfl⟩
  have HQ : Aside (ratio (ssum n1 (a * d) n2 (c * b)).1 (ssum n1 (a * d) n2 (c * b)).2 (b * d) = q) := ⟨hq⟩
  rw [hq]
  obtain ⟨A, ca, rfl, _⟩ := hxa
  obtain ⟨B, cb, rfl, _⟩ := hya
  obtain ⟨C, cc, rfl, _⟩ := hxb
  obtain ⟨D, cd, rfl, _⟩ := hyb
  clear ha hb hc hd hs1 hq
  generalize (dig a).length = lxa at *
  generalize (dig b).length = lya at *
  generalize (dig c).length = lxb at *
  generalize (dig d).length = lyb at *
  go_enter Tryz.func95, Tryz.ntmps95
  go_wp2
  have hk0 := (KeepM.init w (.int .i64 f1) (.bool n1) (.slice A lxa ca) (.slice B lya cb) (.int .i64 f2) (.bool n2) (.slice C lxb cc) (.slice D lyb cd) (.int .i64 0) (.bool false) (.slice none 0 0) (.slice none 0 0) 26 26 26).ext ((Ext.refl _).drew)
  go_region_held (fun w' => KeepM w (.int .i64 f1) (.bool n1) (.slice A lxa ca) (.slice B lya cb) (.int .i64 f2) (.bool n2) (.slice C lxb cc) (.slice D lyb cd) w')
    (first | assumption | exact KeepM.ext (by assumption) (by assumption) | exact (((KeepM.set (by assumption) _ _).set _ _).set _ _).set _ _) (first | (go_at_call 116; with_reducible refine (whole_of (HXA.out.ext (Aside.out (And.left (show KeepM w (.int .i64 f1) (.bool n1) (.slice A lxa ca) (.slice B lya cb) (.int .i64 f2) (.bool n2) (.slice C lxb cc) (.slice D lyb cd) _ from by assumption)))).rv (HYA.out.ext (Aside.out (And.left (show KeepM w (.int .i64 f1) (.bool n1) (.slice A lxa ca) (.slice B lya cb) (.int .i64 f2) (.bool n2) (.slice C lxb cc) (.slice D lyb cd) _ from by assumption)))).rv).mono ?_; rintro e w1 ⟨rfl, he1⟩) | (go_at_call 116; with_reducible refine (whole_of (HXB.out.ext (Aside.out (And.left (show KeepM w (.int .i64 f1) (.bool n1) (.slice A lxa ca) (.slice B lya cb) (.int .i64 f2) (.bool n2) (.slice C lxb cc) (.slice D lyb cd) _ from by assumption)))).rv (HYB.out.ext (Aside.out (And.left (show KeepM w (.int .i64 f1) (.bool n1) (.slice A lxa ca) (.slice B lya cb) (.int .i64 f2) (.bool n2) (.slice C lxb cc) (.slice D lyb cd) _ from by assumption)))).rv).mono ?_; rintro e w3 ⟨rfl, he3⟩; have HE3 := Aside.mk he3) | (go_at_call 117; with_reducible refine (whole_times (HXA.out.ext (Aside.out (And.left (show KeepM w (.int .i64 f1) (.bool n1) (.slice A lxa ca) (.slice B lya cb) (.int .i64 f2) (.bool n2) (.slice C lxb cc) (.slice D lyb cd) _ from by assumption)))) (HYB.out.ext (Aside.out (And.left (show KeepM w (.int .i64 f1) (.bool n1) (.slice A lxa ca) (.slice B lya cb) (.int .i64 f2) (.bool n2) (.slice C lxb cc) (.slice D lyb cd) _ from by assumption))))).mono ?_; rintro e w2 ⟨r, rfl, hr, he2⟩; have HR2 := Aside.mk hr; obtain ⟨A2, c2, rfl, _⟩ := hr.form; clear hr) | (go_at_call 117; with_reducible refine (whole_times (HXB.out.ext (Aside.out (And.left (show KeepM w (.int .i64 f1) (.bool n1) (.slice A lxa ca) (.slice B lya cb) (.int .i64 f2) (.bool n2) (.slice C lxb cc) (.slice D lyb cd) _ from by assumption)))) (HYA.out.ext (Aside.out (And.left (show KeepM w (.int .i64 f1) (.bool n1) (.slice A lxa ca) (.slice B lya cb) (.int .i64 f2) (.bool n2) (.slice C lxb cc) (.slice D lyb cd) _ from by assumption))))).mono ?_; rintro e w4 ⟨r, rfl, hr, he4⟩; have HR4 := Aside.mk hr; have HE4 := Aside.mk he4; obtain ⟨A4, c4, rfl, _⟩ := hr.form; clear hr) | (go_at_call 105; with_reducible refine (whole_plus (NV.of (HR2.out.ext (HE3.out.trans HE4.out)).rv (Nat.le_trans HL1.out (by decide))) (NV.of HR4.out.rv (Nat.le_trans HL2.out (by decide)))).mono ?_; rintro e w5 ⟨r, rfl, hr, he5⟩; have HR5 := Aside.mk hr; have HE5 := Aside.mk he5; obtain ⟨A5, c5, rfl, _⟩ := hr.form; clear hr) | (go_at_call 100; with_reducible refine (Mul_calls (HYA.out.ext (Aside.out (And.left (show KeepM w (.int .i64 f1) (.bool n1) (.slice A lxa ca) (.slice B lya cb) (.int .i64 f2) (.bool n2) (.slice C lxb cc) (.slice D lyb cd) _ from by assumption)))) (HYB.out.ext (Aside.out (And.left (show KeepM w (.int .i64 f1) (.bool n1) (.slice A lxa ca) (.slice B lya cb) (.int .i64 f2) (.bool n2) (.slice C lxb cc) (.slice D lyb cd) _ from by assumption))))).mono ?_; rintro e w6 ⟨r, rfl, hr, he6⟩; have HR6 := Aside.mk hr; have HE6 := Aside.mk he6; obtain ⟨A6, c6, rfl, _⟩ := hr.form; clear hr) | (go_at_call 86; refine natural_calls.mono ?_; rintro e w' ⟨rfl, rfl⟩) | (go_at_call 67; with_reducible refine (quotient_q (NV.of (HR5.out.ext HE6.out).rv (Nat.le_trans HL4.out (by decide))) (NV.of HR6.out.rv (Nat.le_trans HL3.out (by decide))) HQ.out).mono ?_; rintro e w7 ⟨r, rfl, hr, he7⟩; have HR7 := Aside.mk hr; obtain ⟨A7, c7, B7, d7, rfl⟩ := hr.form; clear hr))
  have hk6 := KeepM.ext he6 (KeepM.ext he5 (KeepM.ext he4 (KeepM.ext he3 (KeepM.ext he2 (KeepM.ext he1 hk0)))))
  have hk7 := KeepM.ext he7 hk6
  have hz : w.heap.size + 2 < w6.heap.size := World.block_lt_of_cell? _ _ hk6.2.2.2.1.1
  have HK := Aside.mk hk7
  have HZ := Aside.mk hz
  clear hk0 hk6 hz
  go_wp2
  refine bodyPost_ret (v := .agg #[.int .i64 q.f, .bool q.neg, .slice A7 q.num.length c7, .slice B7 q.den.length d7]) (by simp [results, Tryz.results95, go_sem, hk7]) rfl ⟨_, rfl, (HR7.out.set4 HZ.out _ _ _ _).mono (by have := HZ.out; omega), ext_set4 HK.out.1.out (by omega) _ _ _ _⟩
end Go.Proofs.YtgfkachfbnbikaaGreatDoor

namespace Go.Proofs.YtgfkachfbnbikaaGreatDoor
open Go.RowKit

set_option maxRecDepth 10000 in
set_option maxHeartbeats 4000000 in
theorem mul1_calls {w : World} {u v : Value} {f1 f2 : Int} {n1 n2 : Bool} {a b c d : Nat} (hu : RR w u ⟨f1, n1, dig a, dig b⟩) (hv : RR w v ⟨f2, n2, dig c, dig d⟩) (ha : (dig a).length ≤ 128) (hb : (dig b).length ≤ 128) (hc : (dig c).length ≤ 128) (hd : (dig d).length ≤ 128) :
    Calls Tryz.prog 99 #[u, v] w fun e w' => ∃ r, e = .returned r ∧ RO w.heap.size w' r (ratio (n1 != n2) (a * c) (b * d)) ∧ Ext w w' := by
  obtain ⟨x, y, rfl, hxa, hya⟩ := hu
  obtain ⟨x', y', rfl, hxb, hyb⟩ := hv
  dsimp only at *
  have HXA := Aside.mk (NV.of hxa (by omega))
  have HYA := Aside.mk (NV.of hya (by omega))
  have HXB := Aside.mk (NV.of hxb (by omega))
  have HYB := Aside.mk (NV.of hyb (by omega))
  have HL1 : Aside ((dig (a * c)).length ≤ 256) := ⟨len_mul ha hc⟩
  have HL2 : Aside ((dig (b * d)).length ≤ 256) := ⟨len_mul hb hd⟩
  rw [show (n1 != n2) = (!n1 == n2) from by cases n1 <;> cases n2 <;> rfl]
  obtain ⟨q, hq⟩ : ∃ q, ratio (!n1 == n2) (a * c) (b * d) = q := ⟨_, rfl⟩
  have HQ := Aside.mk hq
  rw [hq]
  obtain ⟨A, ca, rfl, _⟩ := hxa
  obtain ⟨B, cb, rfl, _⟩ := hya
  obtain ⟨C, cc, rfl, _⟩ := hxb
  obtain ⟨D, cd, rfl, _⟩ := hyb
  clear ha hb hc hd hq
  generalize (dig a).length = lxa at *
  generalize (dig b).length = lya at *
  generalize (dig c).length = lxb at *
  generalize (dig d).length = lyb at *
  go_enter Tryz.func99, Tryz.ntmps99
  go_wp2
  have hk0 := (KeepM.init w (.int .i64 f1) (.bool n1) (.slice A lxa ca) (.slice B lya cb) (.int .i64 f2) (.bool n2) (.slice C lxb cc) (.slice D lyb cd) (.int .i64 0) (.bool false) (.slice none 0 0) (.slice none 0 0) 26 26 26).ext ((Ext.refl _).drew)
  go_region_held (fun w' => KeepM w (.int .i64 f1) (.bool n1) (.slice A lxa ca) (.slice B lya cb) (.int .i64 f2) (.bool n2) (.slice C lxb cc) (.slice D lyb cd) w')
    (first | assumption | exact KeepM.ext (by assumption) (by assumption) | exact (((KeepM.set (by assumption) _ _).set _ _).set _ _).set _ _) (first | (go_at_call 100; with_reducible refine (Mul_calls (HXA.out.ext (Aside.out (And.left (show KeepM w (.int .i64 f1) (.bool n1) (.slice A lxa ca) (.slice B lya cb) (.int .i64 f2) (.bool n2) (.slice C lxb cc) (.slice D lyb cd) _ from by assumption)))) (HXB.out.ext (Aside.out (And.left (show KeepM w (.int .i64 f1) (.bool n1) (.slice A lxa ca) (.slice B lya cb) (.int .i64 f2) (.bool n2) (.slice C lxb cc) (.slice D lyb cd) _ from by assumption))))).mono ?_; rintro e w5 ⟨r, rfl, hr, he5⟩; have HR5 := Aside.mk hr; obtain ⟨A5, c5, rfl, _⟩ := hr.form; clear hr) | (go_at_call 100; with_reducible refine (Mul_calls (HYA.out.ext (Aside.out (And.left (show KeepM w (.int .i64 f1) (.bool n1) (.slice A lxa ca) (.slice B lya cb) (.int .i64 f2) (.bool n2) (.slice C lxb cc) (.slice D lyb cd) _ from by assumption)))) (HYB.out.ext (Aside.out (And.left (show KeepM w (.int .i64 f1) (.bool n1) (.slice A lxa ca) (.slice B lya cb) (.int .i64 f2) (.bool n2) (.slice C lxb cc) (.slice D lyb cd) _ from by assumption))))).mono ?_; rintro e w6 ⟨r, rfl, hr, he6⟩; have HR6 := Aside.mk hr; have HE6 := Aside.mk he6; obtain ⟨A6, c6, rfl, _⟩ := hr.form; clear hr) | (go_at_call 86; refine natural_calls.mono ?_; rintro e w' ⟨rfl, rfl⟩) | (go_at_call 67; with_reducible refine (quotient_q (NV.of (HR5.out.ext HE6.out).rv (Nat.le_trans HL1.out (by decide))) (NV.of HR6.out.rv (Nat.le_trans HL2.out (by decide))) HQ.out).mono ?_; rintro e w7 ⟨r, rfl, hr, he7⟩; have HR7 := Aside.mk hr; obtain ⟨A7, c7, B7, d7, rfl⟩ := hr.form; clear hr))
  have hk6 := KeepM.ext he6 (KeepM.ext he5 hk0)
  have hk7 := KeepM.ext he7 hk6
  have hz : w.heap.size + 2 < w6.heap.size := World.block_lt_of_cell? _ _ hk6.2.2.2.1.1
  have HK := Aside.mk hk7
  have HZ := Aside.mk hz
  clear hk0 hk6 hz
  go_wp2
  refine bodyPost_ret (v := .agg #[.int .i64 q.f, .bool q.neg, .slice A7 q.num.length c7, .slice B7 q.den.length d7]) (by simp [results, Tryz.results99, go_sem, hk7]) rfl ⟨_, rfl, (HR7.out.set4 HZ.out _ _ _ _).mono (by have := HZ.out; omega), ext_set4 HK.out.1.out (by omega) _ _ _ _⟩

set_option maxRecDepth 10000 in
set_option maxHeartbeats 4000000 in
theorem div1_calls {w : World} {u v : Value} {f1 f2 : Int} {n1 n2 : Bool} {a b c d : Nat} (hu : RR w u ⟨f1, n1, dig a, dig b⟩) (hv : RR w v ⟨f2, n2, dig c, dig d⟩) (ha : (dig a).length ≤ 128) (hb : (dig b).length ≤ 128) (hc : (dig c).length ≤ 128) (hd : (dig d).length ≤ 128) :
    Calls Tryz.prog 101 #[u, v] w fun e w' => ∃ r, e = .returned r ∧ RO w.heap.size w' r (ratio (n1 != n2) (a * d) (b * c)) ∧ Ext w w' := by
  obtain ⟨x, y, rfl, hxa, hya⟩ := hu
  obtain ⟨x', y', rfl, hxb, hyb⟩ := hv
  dsimp only at *
  have HXA := Aside.mk (NV.of hxa (by omega))
  have HYA := Aside.mk (NV.of hya (by omega))
  have HXB := Aside.mk (NV.of hxb (by omega))
  have HYB := Aside.mk (NV.of hyb (by omega))
  have HL1 : Aside ((dig (a * d)).length ≤ 256) := ⟨len_mul ha hd⟩
  have HL2 : Aside ((dig (b * c)).length ≤ 256) := ⟨len_mul hb hc⟩
  rw [show (n1 != n2) = (!n1 == n2) from by cases n1 <;> cases n2 <;> rfl]
  obtain ⟨q, hq⟩ : ∃ q, ratio (!n1 == n2) (a * d) (b * c) = q := ⟨_, rfl⟩
  have HQ := Aside.mk hq
  rw [hq]
  obtain ⟨A, ca, rfl, _⟩ := hxa
  obtain ⟨B, cb, rfl, _⟩ := hya
  obtain ⟨C, cc, rfl, _⟩ := hxb
  obtain ⟨D, cd, rfl, _⟩ := hyb
  clear ha hb hc hd hq
  generalize (dig a).length = lxa at *
  generalize (dig b).length = lya at *
  generalize (dig c).length = lxb at *
  generalize (dig d).length = lyb at *
  go_enter Tryz.func101, Tryz.ntmps101
  go_wp2
  have hk0 := (KeepM.init w (.int .i64 f1) (.bool n1) (.slice A lxa ca) (.slice B lya cb) (.int .i64 f2) (.bool n2) (.slice C lxb cc) (.slice D lyb cd) (.int .i64 0) (.bool false) (.slice none 0 0) (.slice none 0 0) 26 26 26).ext ((Ext.refl _).drew)
  go_region_held (fun w' => KeepM w (.int .i64 f1) (.bool n1) (.slice A lxa ca) (.slice B lya cb) (.int .i64 f2) (.bool n2) (.slice C lxb cc) (.slice D lyb cd) w')
    (first | assumption | exact KeepM.ext (by assumption) (by assumption) | exact (((KeepM.set (by assumption) _ _).set _ _).set _ _).set _ _) (first | (go_at_call 100; with_reducible refine (Mul_calls (HXA.out.ext (Aside.out (And.left (show KeepM w (.int .i64 f1) (.bool n1) (.slice A lxa ca) (.slice B lya cb) (.int .i64 f2) (.bool n2) (.slice C lxb cc) (.slice D lyb cd) _ from by assumption)))) (HYB.out.ext (Aside.out (And.left (show KeepM w (.int .i64 f1) (.bool n1) (.slice A lxa ca) (.slice B lya cb) (.int .i64 f2) (.bool n2) (.slice C lxb cc) (.slice D lyb cd) _ from by assumption))))).mono ?_; rintro e w5 ⟨r, rfl, hr, he5⟩; have HR5 := Aside.mk hr; obtain ⟨A5, c5, rfl, _⟩ := hr.form; clear hr) | (go_at_call 100; with_reducible refine (Mul_calls (HYA.out.ext (Aside.out (And.left (show KeepM w (.int .i64 f1) (.bool n1) (.slice A lxa ca) (.slice B lya cb) (.int .i64 f2) (.bool n2) (.slice C lxb cc) (.slice D lyb cd) _ from by assumption)))) (HXB.out.ext (Aside.out (And.left (show KeepM w (.int .i64 f1) (.bool n1) (.slice A lxa ca) (.slice B lya cb) (.int .i64 f2) (.bool n2) (.slice C lxb cc) (.slice D lyb cd) _ from by assumption))))).mono ?_; rintro e w6 ⟨r, rfl, hr, he6⟩; have HR6 := Aside.mk hr; have HE6 := Aside.mk he6; obtain ⟨A6, c6, rfl, _⟩ := hr.form; clear hr) | (go_at_call 86; refine natural_calls.mono ?_; rintro e w' ⟨rfl, rfl⟩) | (go_at_call 67; with_reducible refine (quotient_q (NV.of (HR5.out.ext HE6.out).rv (Nat.le_trans HL1.out (by decide))) (NV.of HR6.out.rv (Nat.le_trans HL2.out (by decide))) HQ.out).mono ?_; rintro e w7 ⟨r, rfl, hr, he7⟩; have HR7 := Aside.mk hr; obtain ⟨A7, c7, B7, d7, rfl⟩ := hr.form; clear hr))
  have hk6 := KeepM.ext he6 (KeepM.ext he5 hk0)
  have hk7 := KeepM.ext he7 hk6
  have hz : w.heap.size + 2 < w6.heap.size := World.block_lt_of_cell? _ _ hk6.2.2.2.1.1
  have HK := Aside.mk hk7
  have HZ := Aside.mk hz
  clear hk0 hk6 hz
  go_wp2
  refine bodyPost_ret (v := .agg #[.int .i64 q.f, .bool q.neg, .slice A7 q.num.length c7, .slice B7 q.den.length d7]) (by simp [results, Tryz.results101, go_sem, hk7]) rfl ⟨_, rfl, (HR7.out.set4 HZ.out _ _ _ _).mono (by have := HZ.out; omega), ext_set4 HK.out.1.out (by omega) _ _ _ _⟩
end Go.Proofs.YtgfkachfbnbikaaGreatDoor

namespace Go.Proofs.YtgfkachfbnbikaaGreatDoor
open Go.RowKit

theorem okq_ds {q : Rq} (h : okq q = true) (hf : q.f = 0) (hd : Ds q.num ∧ Ds q.den) : IsNum q (val q.num) (val q.den) := okq_num rfl rfl hd.1 hd.2 h hf
theorem RR.num {w : World} {v : Value} {q : Rq} {a b : Nat} (h : RR w v q) (k : IsNum q a b) : RR w v ⟨q.f, q.neg, dig a, dig b⟩ := by
  have e : (⟨q.f, q.neg, dig a, dig b⟩ : Rq) = q := by cases q; simp only [Rq.mk.injEq, true_and]; exact ⟨k.num.symm, k.den.symm⟩
  rw [e]; exact h


/-- What is known of a callee that makes the Rat of two numbers. -/
structure MadeBy (F : FuncId) (a b res : Rq) : Prop where
  runs : ∀ args w, Sem.run Tryz.prog (callFunc F args) w = .ok (.enter F args) w
  calls : ∀ w u v, RR w u a → RR w v b → okq a = true → okq b = true → leastq a.f b.f = 0 → Calls Tryz.prog F #[u, v] w fun e w' => ∃ r, e = .returned r ∧ RO w.heap.size w' r res ∧ Ext w w'
theorem MadeBy.mk_ {F : FuncId} {a b res : Rq} (h : MadeBy F a b res) {w0 w : World} {u v : Value} (ha : RR w u a) (hb : RR w v b) (_ : Ext w0 w) {m : Rq × Int} (hm : madeq a b res = m) :
    Calls Tryz.prog 94 #[u, v, .func (.func F) #[] #[]] w fun e w' => ∃ r, e = .returned (.tuple #[r, .int .i64 m.2]) ∧ RO w.heap.size w' r m.1 ∧ Ext w w' := by
  subst hm
  exact made_calls h.runs ha hb fun h1 h2 h3 w' he => h.calls w' u v (ha.ext he) (hb.ext he) h1 h2 h3

theorem sum_by (a b : Rq) : MadeBy 95 a b (sumq a.neg (val a.num) (val a.den) b.neg (val b.num) (val b.den)) where
  runs := by intro args w; simp [go_sem]
  calls := by
    intro w u v ha hb h1 h2 h3
    obtain ⟨f1, f2⟩ := leastq_zero h3
    have ka := okq_ds h1 f1 ha.ds
    have kb := okq_ds h2 f2 hb.ds
    exact sum_calls (ha.num ka) (hb.num kb) ka.la ka.lb kb.la kb.lb
theorem mul_by (a b : Rq) : MadeBy 99 a b (ratio (a.neg != b.neg) (val a.num * val b.num) (val a.den * val b.den)) where
  runs := by intro args w; simp [go_sem]
  calls := by
    intro w u v ha hb h1 h2 h3
    obtain ⟨f1, f2⟩ := leastq_zero h3
    have ka := okq_ds h1 f1 ha.ds
    have kb := okq_ds h2 f2 hb.ds
    exact mul1_calls (ha.num ka) (hb.num kb) ka.la ka.lb kb.la kb.lb
theorem div_by (a b : Rq) : MadeBy 101 a b (ratio (a.neg != b.neg) (val a.num * val b.den) (val a.den * val b.num)) where
  runs := by intro args w; simp [go_sem]
  calls := by
    intro w u v ha hb h1 h2 h3
    obtain ⟨f1, f2⟩ := leastq_zero h3
    have ka := okq_ds h1 f1 ha.ds
    have kb := okq_ds h2 f2 hb.ds
    exact div1_calls (ha.num ka) (hb.num kb) ka.la ka.lb kb.la kb.lb

set_option maxRecDepth 10000 in
set_option maxHeartbeats 1000000 in
theorem Add2_calls {w : World} {u v : Value} {a b : Rq} (ha : RR w u a) (hb : RR w v b) {m : Rq × Int} (hm : madeq a b (sumq a.neg (val a.num) (val a.den) b.neg (val b.num) (val b.den)) = m) :
    Calls Tryz.prog 35 #[u, v] w fun e w' => ∃ r, e = .returned (.tuple #[r, .int .i64 m.2]) ∧ RO w.heap.size w' r m.1 ∧ Ext w w' := by
  have HA := Aside.mk ha; have HB := Aside.mk hb; obtain ⟨A, ca, B, cb, rfl⟩ := ha.form; obtain ⟨C, cc, D, cd, rfl⟩ := hb.form; obtain ⟨fa, na, xa, ya⟩ := a; obtain ⟨fb, nb, xb, yb⟩ := b; dsimp only at *; clear ha hb
  have HM := Aside.mk hm
  clear hm
  generalize xa.length = lxa at *; generalize ya.length = lya at *; generalize xb.length = lxb at *; generalize yb.length = lyb at *; have hk0 := KeepM.init w (.int .i64 fa) (.bool na) (.slice A lxa ca) (.slice B lya cb) (.int .i64 fb) (.bool nb) (.slice C lxb cc) (.slice D lyb cd) (.int .i64 0) (.bool false) (.slice none 0 0) (.slice none 0 0) 26 26 26
  go_enter Tryz.func35, Tryz.ntmps35
  go_wp2_with (go_at_call 94; refine ((sum_by ⟨fa, na, xa, ya⟩ ⟨fb, nb, xb, yb⟩).mk_ (HA.out.ext hk0.1.out) (HB.out.ext hk0.1.out) hk0.1.out HM.out).mono ?_; rintro e w3 ⟨r, rfl, hr, he⟩; have hz : w.heap.size + 2 < _ := World.block_lt_of_cell? _ _ hk0.2.2.2.1.1; have hk3 := KeepM.ext he hk0; have HR3 := Aside.mk hr; have HZ := Aside.mk hz; obtain ⟨A3, c3, B3, d3, rfl⟩ := hr.form; clear hk0 hr he hz)
  have HK := Aside.mk hk3
  refine bodyPost_ret (v := .tuple #[.agg #[.int .i64 m.1.f, .bool m.1.neg, .slice A3 m.1.num.length c3, .slice B3 m.1.den.length d3], .int .i64 m.2]) (by simp [results, Tryz.results35, go_sem, hk3]) rfl ⟨_, rfl, (HR3.out.set4 HZ.out _ _ _ _).mono (by have := HZ.out; omega), ext_set4 HK.out.1.out (by omega) _ _ _ _⟩
set_option maxRecDepth 10000 in
set_option maxHeartbeats 1000000 in
theorem Mul2_calls {w : World} {u v : Value} {a b : Rq} (ha : RR w u a) (hb : RR w v b) {m : Rq × Int} (hm : madeq a b (ratio (a.neg != b.neg) (val a.num * val b.num) (val a.den * val b.den)) = m) :
    Calls Tryz.prog 39 #[u, v] w fun e w' => ∃ r, e = .returned (.tuple #[r, .int .i64 m.2]) ∧ RO w.heap.size w' r m.1 ∧ Ext w w' := by
  have HA := Aside.mk ha; have HB := Aside.mk hb; obtain ⟨A, ca, B, cb, rfl⟩ := ha.form; obtain ⟨C, cc, D, cd, rfl⟩ := hb.form; obtain ⟨fa, na, xa, ya⟩ := a; obtain ⟨fb, nb, xb, yb⟩ := b; dsimp only at *; clear ha hb
  have HM := Aside.mk hm
  clear hm
  generalize xa.length = lxa at *; generalize ya.length = lya at *; generalize xb.length = lxb at *; generalize yb.length = lyb at *; have hk0 := KeepM.init w (.int .i64 fa) (.bool na) (.slice A lxa ca) (.slice B lya cb) (.int .i64 fb) (.bool nb) (.slice C lxb cc) (.slice D lyb cd) (.int .i64 0) (.bool false) (.slice none 0 0) (.slice none 0 0) 26 26 26
  go_enter Tryz.func39, Tryz.ntmps39
  go_wp2_with (go_at_call 94; refine ((mul_by ⟨fa, na, xa, ya⟩ ⟨fb, nb, xb, yb⟩).mk_ (HA.out.ext hk0.1.out) (HB.out.ext hk0.1.out) hk0.1.out HM.out).mono ?_; rintro e w3 ⟨r, rfl, hr, he⟩; have hz : w.heap.size + 2 < _ := World.block_lt_of_cell? _ _ hk0.2.2.2.1.1; have hk3 := KeepM.ext he hk0; have HR3 := Aside.mk hr; have HZ := Aside.mk hz; obtain ⟨A3, c3, B3, d3, rfl⟩ := hr.form; clear hk0 hr he hz)
  have HK := Aside.mk hk3
  refine bodyPost_ret (v := .tuple #[.agg #[.int .i64 m.1.f, .bool m.1.neg, .slice A3 m.1.num.length c3, .slice B3 m.1.den.length d3], .int .i64 m.2]) (by simp [results, Tryz.results39, go_sem, hk3]) rfl ⟨_, rfl, (HR3.out.set4 HZ.out _ _ _ _).mono (by have := HZ.out; omega), ext_set4 HK.out.1.out (by omega) _ _ _ _⟩
set_option maxRecDepth 10000 in
set_option maxHeartbeats 1000000 in
theorem Div2_calls {w : World} {u v : Value} {a b : Rq} (ha : RR w u a) (hb : RR w v b) {m : Rq × Int} (hm : madeq a b (ratio (a.neg != b.neg) (val a.num * val b.den) (val a.den * val b.num)) = m) :
    Calls Tryz.prog 40 #[u, v] w fun e w' => ∃ r, e = .returned (.tuple #[r, .int .i64 m.2]) ∧ RO w.heap.size w' r m.1 ∧ Ext w w' := by
  have HA := Aside.mk ha; have HB := Aside.mk hb; obtain ⟨A, ca, B, cb, rfl⟩ := ha.form; obtain ⟨C, cc, D, cd, rfl⟩ := hb.form; obtain ⟨fa, na, xa, ya⟩ := a; obtain ⟨fb, nb, xb, yb⟩ := b; dsimp only at *; clear ha hb
  have HM := Aside.mk hm
  clear hm
  generalize xa.length = lxa at *; generalize ya.length = lya at *; generalize xb.length = lxb at *; generalize yb.length = lyb at *; have hk0 := KeepM.init w (.int .i64 fa) (.bool na) (.slice A lxa ca) (.slice B lya cb) (.int .i64 fb) (.bool nb) (.slice C lxb cc) (.slice D lyb cd) (.int .i64 0) (.bool false) (.slice none 0 0) (.slice none 0 0) 26 26 26
  go_enter Tryz.func40, Tryz.ntmps40
  go_wp2_with (go_at_call 94; refine ((div_by ⟨fa, na, xa, ya⟩ ⟨fb, nb, xb, yb⟩).mk_ (HA.out.ext hk0.1.out) (HB.out.ext hk0.1.out) hk0.1.out HM.out).mono ?_; rintro e w3 ⟨r, rfl, hr, he⟩; have hz : w.heap.size + 2 < _ := World.block_lt_of_cell? _ _ hk0.2.2.2.1.1; have hk3 := KeepM.ext he hk0; have HR3 := Aside.mk hr; have HZ := Aside.mk hz; obtain ⟨A3, c3, B3, d3, rfl⟩ := hr.form; clear hk0 hr he hz)
  have HK := Aside.mk hk3
  refine bodyPost_ret (v := .tuple #[.agg #[.int .i64 m.1.f, .bool m.1.neg, .slice A3 m.1.num.length c3, .slice B3 m.1.den.length d3], .int .i64 m.2]) (by simp [results, Tryz.results40, go_sem, hk3]) rfl ⟨_, rfl, (HR3.out.set4 HZ.out _ _ _ _).mono (by have := HZ.out; omega), ext_set4 HK.out.1.out (by omega) _ _ _ _⟩
end Go.Proofs.YtgfkachfbnbikaaGreatDoor
