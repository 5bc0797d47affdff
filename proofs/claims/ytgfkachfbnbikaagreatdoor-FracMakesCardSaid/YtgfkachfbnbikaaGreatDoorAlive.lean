/- What every right program knows of a few numbers: fluxionlaw02.alive returns true. -/
import Derived.Test.YtgfkachfbnbikaaGreatDoorFracJ
import Derived.Test.YtgfkachfbnbikaaGreatDoorFracR
namespace Go.Proofs.YtgfkachfbnbikaaGreatDoor
open Go.RowKit

theorem len1 {a : Nat} (h : a < 4294967296) : (dig a).length ≤ 1 := dig_length_le (by simpa using h)
theorem isLong_small {a : Nat} (h : a < 4294967296) : isLong a = false := isLong_false.2 (Nat.le_trans (len1 h) (by decide))
theorem okq_mk {neg : Bool} {a b : Nat} (ha : (dig a).length ≤ 128) (hb : (dig b).length ≤ 128) (hb0 : 0 < b) (hg : Nat.gcd a b = 1) (hn : neg = true → 0 < a) : okq ⟨0, neg, dig a, dig b⟩ = true := by
  unfold okq
  rw [if_pos rfl]
  simp only [natErr_dig0 (show (dig a).length ≤ 512 by omega), natErr_dig0 (show (dig b).length ≤ 512 by omega), val_dig, isLong_false.2 ha, isLong_false.2 hb, hg]
  have h1 : decide ((dig b).length = 0) = false := by
    apply decide_eq_false; intro h
    have := dig_nil_iff.1 (List.eq_nil_of_length_eq_zero h); omega
  rw [h1]
  cases neg
  · rfl
  · have h2 : decide ((dig a).length = 0) = false := by
      apply decide_eq_false; intro h
      have := dig_nil_iff.1 (List.eq_nil_of_length_eq_zero h)
      have := hn rfl; omega
    rw [h2]; rfl
theorem okq_small {neg : Bool} {a b : Nat} (ha : a < 4294967296) (hb : b < 4294967296) (ha0 : 0 < a) (hb0 : 0 < b) (hg : Nat.gcd a b = 1) : okq ⟨0, neg, dig a, dig b⟩ = true :=
  okq_mk (Nat.le_trans (len1 ha) (by decide)) (Nat.le_trans (len1 hb) (by decide)) hb0 hg (fun _ => ha0)
theorem ratio_small {neg : Bool} {a b g c d : Nat} (hb : b ≠ 0) (hg : Nat.gcd a b = g) (hc : a / g = c) (hd : b / g = d) (ha : 0 < a) (hcs : c < 4294967296) (hds : d < 4294967296) : ratio neg a b = ⟨0, neg, dig c, dig d⟩ := by
  unfold ratio
  rw [if_neg hb, hg, hc, hd, isLong_small hcs, isLong_small hds, decide_eq_true ha, Bool.and_true]; rfl

theorem box_of {F : FuncId} {args : Array Value} {w : World} {m : Rq × Int} {f : Int} {neg : Bool} {xs ys : List Nat}
    (h : Calls Tryz.prog F args w fun e w' => ∃ r, e = .returned (.tuple #[r, .int .i64 m.2]) ∧ RO w.heap.size w' r m.1 ∧ Ext w w') (hm : m = (⟨f, neg, xs, ys⟩, 0)) :
    Calls Tryz.prog F args w fun e w' => ∃ A c B d, e = .returned (.tuple #[.agg #[.int .i64 f, .bool neg, .slice A xs.length c, .slice B ys.length d], .int .i64 0]) ∧ Aside (RR w' (.agg #[.int .i64 f, .bool neg, .slice A xs.length c, .slice B ys.length d]) ⟨f, neg, xs, ys⟩) ∧ Ext w w' := by
  subst hm
  refine h.mono ?_
  rintro e w' ⟨r, rfl, hr, he⟩
  obtain ⟨A, c, B, d, rfl⟩ := hr.form
  exact ⟨A, c, B, d, rfl, ⟨hr.rr⟩, he⟩

theorem of_box {w : World} {n d : Int} (h1 : -9223372036854775808 ≤ n) (h2 : n ≤ 9223372036854775807) (h3 : -9223372036854775808 ≤ d) (h4 : d ≤ 9223372036854775807) {m : Rq × Int} (hm : (ratio (decide (n < 0) != decide (d < 0)) n.natAbs d.natAbs, 0) = m) :
    Calls Tryz.prog 16 #[.int .i64 n, .int .i64 d] w fun e w' => ∃ r, e = .returned (.tuple #[r, .int .i64 m.2]) ∧ RO w.heap.size w' r m.1 ∧ Ext w w' := by
  subst hm
  exact Of_calls h1 h2 h3 h4
theorem al1 {w : World} : Calls Tryz.prog 16 #[.int .i64 6, .int .i64 (-4)] w fun e w' => ∃ A c B d, e = .returned (.tuple #[.agg #[.int .i64 0, .bool true, .slice A (dig 3).length c, .slice B (dig 2).length d], .int .i64 0]) ∧ Aside (RR w' (.agg #[.int .i64 0, .bool true, .slice A (dig 3).length c, .slice B (dig 2).length d]) ⟨0, true, dig 3, dig 2⟩) ∧ Ext w w' :=
  box_of (of_box (by omega) (by omega) (by omega) (by omega) rfl) (by
    rw [show (decide ((6 : Int) < 0) != decide ((-4 : Int) < 0)) = true from rfl, ratio_small (g := 2) (c := 3) (d := 2) (by decide) rfl rfl rfl (by decide) (by decide) (by decide)])
theorem al2 {w : World} : Calls Tryz.prog 16 #[.int .i64 1, .int .i64 0] w fun e w' => ∃ A c B d, e = .returned (.tuple #[.agg #[.int .i64 11, .bool false, .slice A 0 c, .slice B 0 d], .int .i64 0]) ∧ Aside (RR w' (.agg #[.int .i64 11, .bool false, .slice A 0 c, .slice B 0 d]) ⟨11, false, [], []⟩) ∧ Ext w w' :=
  box_of (of_box (by omega) (by omega) (by omega) (by omega) rfl) rfl
theorem al3 {w : World} (hg : Glob w) : Calls Tryz.prog 29 #[.string ⟨#[49, 47, 50]⟩] w fun e w' => ∃ A c B d, e = .returned (.tuple #[.agg #[.int .i64 0, .bool false, .slice A (dig 1).length c, .slice B (dig 2).length d], .int .i64 0]) ∧ Aside (RR w' (.agg #[.int .i64 0, .bool false, .slice A (dig 1).length c, .slice B (dig 2).length d]) ⟨0, false, dig 1, dig 2⟩) ∧ Ext w w' :=
  box_of (parse_calls hg (by decide) rfl) (by
    show fparts false [49] true [50] = _
    unfold fparts
    rw [if_neg (by decide), show dval [49] = 1 from rfl, show dval [50] = 2 from rfl, okq_small (by decide) (by decide) (by decide) (by decide) rfl]; rfl)
theorem al4 {w : World} (hg : Glob w) : Calls Tryz.prog 29 #[.string ⟨#[49, 47, 51]⟩] w fun e w' => ∃ A c B d, e = .returned (.tuple #[.agg #[.int .i64 0, .bool false, .slice A (dig 1).length c, .slice B (dig 3).length d], .int .i64 0]) ∧ Aside (RR w' (.agg #[.int .i64 0, .bool false, .slice A (dig 1).length c, .slice B (dig 3).length d]) ⟨0, false, dig 1, dig 3⟩) ∧ Ext w w' :=
  box_of (parse_calls hg (by decide) rfl) (by
    show fparts false [49] true [51] = _
    unfold fparts
    rw [if_neg (by decide), show dval [49] = 1 from rfl, show dval [51] = 3 from rfl, okq_small (by decide) (by decide) (by decide) (by decide) rfl]; rfl)
theorem al5 {w : World} {u v : Value} (hu : RR w u ⟨0, false, dig 1, dig 2⟩) (hv : RR w v ⟨0, false, dig 1, dig 3⟩) : Calls Tryz.prog 35 #[u, v] w fun e w' => ∃ A c B d, e = .returned (.tuple #[.agg #[.int .i64 0, .bool false, .slice A (dig 5).length c, .slice B (dig 6).length d], .int .i64 0]) ∧ Aside (RR w' (.agg #[.int .i64 0, .bool false, .slice A (dig 5).length c, .slice B (dig 6).length d]) ⟨0, false, dig 5, dig 6⟩) ∧ Ext w w' :=
  box_of (Add2_calls hu hv rfl) (by
    unfold madeq
    rw [okq_small (by decide) (by decide) (by decide) (by decide) rfl, okq_small (by decide) (by decide) (by decide) (by decide) rfl]
    simp only [val_dig, Bool.and_self, if_true, leastq]
    show (ratio false 5 6, (0 : Int)) = _
    rw [ratio_small (g := 1) (c := 5) (d := 6) (by decide) rfl rfl rfl (by decide) (by decide) (by decide)])
theorem al6 {w : World} (hg : Glob w) : Calls Tryz.prog 30 #[.string ⟨#[48, 46, 50, 53, 48]⟩] w fun e w' => ∃ A c B d, e = .returned (.tuple #[.agg #[.int .i64 0, .bool false, .slice A (dig 1).length c, .slice B (dig 4).length d], .int .i64 0]) ∧ Aside (RR w' (.agg #[.int .i64 0, .bool false, .slice A (dig 1).length c, .slice B (dig 4).length d]) ⟨0, false, dig 1, dig 4⟩) ∧ Ext w w' :=
  box_of (decimal_calls hg (by decide) rfl) (by
    show fdecParts [48] [50, 53] = _
    unfold fdecParts
    show (if (ratio false 25 100).f = 0 then (ratio false 25 100, 0) else (fq 4, 0)) = _
    rw [ratio_small (g := 25) (c := 1) (d := 4) (by decide) rfl rfl rfl (by decide) (by decide) (by decide)]; rfl)
theorem tx_num {w : World} {v : Value} {neg : Bool} {a b : Nat} (hg : Glob w) (h : RR w v ⟨0, neg, dig a, dig b⟩) (ha : a < 4294967296) (hb : b < 4294967296) (ha0 : 0 < a) (hb0 : 0 < b) (hgc : Nat.gcd a b = 1) {t : ByteArray} (ht : (⟨(ntext neg a b).toArray⟩ : ByteArray) = t) :
    Calls Tryz.prog 26 #[v] w fun e w' => e = .returned (.tuple #[.string t, .int .i64 0]) ∧ Ext w w' := by
  subst ht
  exact text_num hg h (okq_small ha hb ha0 hb0 hgc) (Nat.le_trans (len1 ha) (by decide)) (Nat.le_trans (len1 hb) (by decide)) hb0
theorem d10_one {a : Nat} (h : a < 10) (h0 : a ≠ 0) : dtext a = [chr a] := by
  unfold dtext
  rw [if_neg h0, d10_pos h0, show a / 10 = 0 from by omega, d10_zero, Nat.mod_eq_of_lt h]; rfl
theorem tx1 : (⟨(ntext false 5 6).toArray⟩ : ByteArray) = ⟨#[53, 47, 54]⟩ := by unfold ntext; rw [d10_one (by decide) (by decide), d10_one (by decide) (by decide)]; rfl
theorem tx2 : (⟨(ntext true 3 2).toArray⟩ : ByteArray) = ⟨#[45, 51, 47, 50]⟩ := by unfold ntext; rw [d10_one (by decide) (by decide), d10_one (by decide) (by decide)]; rfl
theorem tx3 : (⟨(ntext false 1 4).toArray⟩ : ByteArray) = ⟨#[49, 47, 52]⟩ := by unfold ntext; rw [d10_one (by decide) (by decide), d10_one (by decide) (by decide)]; rfl
theorem tz {w : World} {v : Value} (hg : Glob w) (h : RR w v ⟨11, false, [], []⟩) : Calls Tryz.prog 26 #[v] w fun e w' => e = .returned (.tuple #[.string ⟨#[33, 122, 101, 114, 111]⟩, .int .i64 0]) ∧ Ext w w' :=
  text_fault hg h rfl (by decide)

set_option maxRecDepth 10000 in
set_option maxHeartbeats 4000000 in
theorem alive_calls {w : World} (hg : Glob w) : Calls Tryz.prog 23 #[] w fun e w' => e = .returned (.bool true) ∧ Ext w w' := by
  have HG := Aside.mk hg
  clear hg
  go_enter Tryz.func23, Tryz.ntmps23
  go_wp2_with (first | (go_at_call 16; with_reducible refine al1.mono ?_; rintro e w1 ⟨A1, c1, B1, d1, rfl, R1, f1⟩; have k1 := KeepB.init w1 (.int .i64 0) (.bool true) (.slice A1 (dig 3).length c1) (.slice B1 (dig 2).length d1) 26; have F1 := Aside.mk f1; clear f1) | (go_at_call 16; with_reducible refine al2.mono ?_; rintro e w2 ⟨A2, c2, B2, d2, rfl, R2, f2⟩; have k2 := KeepB.init w2 (.int .i64 11) (.bool false) (.slice A2 0 c2) (.slice B2 0 d2) 26; have q1 := KeepB.ext (f2.trans k2.1.out) k1; have F2 := Aside.mk (F1.out.trans q1.1.out); clear f2 k1) | (go_at_call 29; with_reducible refine (al3 (HG.out.ext (F1.out.trans q1.1.out))).mono ?_; rintro e w3 ⟨A3, c3, B3, d3, rfl, R3, f3⟩; have k3 := KeepB.init w3 (.int .i64 0) (.bool false) (.slice A3 (dig 1).length c3) (.slice B3 (dig 2).length d3) 26; have r1 := KeepB.ext (f3.trans k3.1.out) q1; have q2 := KeepB.ext (f3.trans k3.1.out) k2; clear f3 q1 k2) | (go_at_call 29; with_reducible refine (al4 (HG.out.ext (F1.out.trans r1.1.out))).mono ?_; rintro e w4 ⟨A4, c4, B4, d4, rfl, R4, f4⟩; have k4 := KeepB.init w4 (.int .i64 0) (.bool false) (.slice A4 (dig 1).length c4) (.slice B4 (dig 3).length d4) 26; have s1 := KeepB.ext (f4.trans k4.1.out) r1; have r2 := KeepB.ext (f4.trans k4.1.out) q2; have q3 := KeepB.ext (f4.trans k4.1.out) k3; clear f4 r1 q2 k3) | (go_at_call 35; with_reducible refine (al5 (R3.out.ext q3.1.out) (R4.out.ext k4.1.out)).mono ?_; rintro e w5 ⟨A5, c5, B5, d5, rfl, R5, f5⟩; have k5 := KeepB.init w5 (.int .i64 0) (.bool false) (.slice A5 (dig 5).length c5) (.slice B5 (dig 6).length d5) 26; have t1 := KeepB.ext (f5.trans k5.1.out) s1; have s2 := KeepB.ext (f5.trans k5.1.out) r2; clear f5 s1 r2 q3 k4) | (go_at_call 26; with_reducible refine (tx_num (HG.out.ext (F1.out.trans t1.1.out)) (R5.out.ext k5.1.out) (by decide) (by decide) (by decide) (by decide) rfl tx1).mono ?_; rintro e w6 ⟨rfl, f6⟩; have u1 := KeepB.ext f6 t1; have t2 := KeepB.ext f6 s2; clear f6 t1 s2 k5) | (go_at_call 26; with_reducible refine (tx_num (HG.out.ext (F1.out.trans u1.1.out)) (R1.out.ext u1.1.out) (by decide) (by decide) (by decide) (by decide) rfl tx2).mono ?_; rintro e w7 ⟨rfl, f7⟩; have F7 := Aside.mk (F1.out.trans (u1.1.out.trans f7)); have u2 := KeepB.ext f7 t2; clear f7 u1 t2) | (go_at_call 26; with_reducible refine (tz (HG.out.ext F7.out) (R2.out.ext u2.1.out)).mono ?_; rintro e w8 ⟨rfl, f8⟩; have F8 := Aside.mk (F7.out.trans f8); clear f8 u2) | (go_at_call 30; with_reducible refine (al6 (HG.out.ext F8.out)).mono ?_; rintro e w9 ⟨A9, c9, B9, d9, rfl, R9, f9⟩; have k9 := KeepB.init w9 (.int .i64 0) (.bool false) (.slice A9 (dig 1).length c9) (.slice B9 (dig 4).length d9) 26; have F9 := Aside.mk (F8.out.trans f9); clear f9) | (go_at_call 26; with_reducible refine (tx_num (HG.out.ext (F9.out.trans k9.1.out)) (R9.out.ext k9.1.out) (by decide) (by decide) (by decide) (by decide) rfl tx3).mono ?_; rintro e w10 ⟨rfl, f10⟩; have F10 := Aside.mk (F9.out.trans (k9.1.out.trans f10)); clear f10 k9))
  go_ret
  exact ⟨rfl, F10.out⟩
end Go.Proofs.YtgfkachfbnbikaaGreatDoor
