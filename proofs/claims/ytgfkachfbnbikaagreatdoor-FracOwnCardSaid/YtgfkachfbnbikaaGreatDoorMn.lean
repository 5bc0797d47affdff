/- What every right program knows of a few numbers: fluxionlaw02.alive returns true. The law FracMakes: it returns true. Contract of fluxionlaw02.rat. Boxes of a law: what a region that draws, calls, makes variables and stores leaves. A region whose operations come in any order the edges allow: one invariant, each operation once. -/
import Derived.Test.YtgfkachfbnbikaaGreatDoorMk
import Derived.Test.YtgfkachfbnbikaaGreatDoorMm
import Derived.Test.YtgfkachfbnbikaaGreatDoorMj
import Derived.Deep.RegionHeld
import Derived.Deep.DeepCutAuto
namespace Go.Proofs.YtgfkachfbnbikaaGreatDoor
open Go.RowKit

theorem len1 {a : Nat} (h : a < 4294967296) : (dig a).length ≤ 1 := dig_length_le (by simpa using h)
theorem isLong_small {a : Nat} (h : a < 4294967296) : isLong a = false := isLong_false.2 (Nat.le_trans (len1 h) (by decide))
theorem okq_mk {neg : Bool} {a b : Nat} (ha : (dig a).length ≤ 128) (hb : (dig b).length ≤ 128) (hb0 : 0 < b) (hg : Nat.gcd a b = 1) (hn : neg = true → 0 < a) : okq ⟨0, neg, dig a, dig b⟩ = true := by
  unfold okq
  rw [if_pos rfl]
  simp only [natErr_dig0 (show (dig a).length ≤ 512 by omega), natErr_dig0 (show (dig b).length ≤ 512 by omega), val_dig, isLong_false.2 ha, isLong_false.2 hb, hg]
  have h1 : decide ((dig b).length = 0) = false := by
    apply decide_eq_false; intro h
    have := dig_nil_iff.1 (List.eq_nil_of_length_eq_zero h); omega
  rw [h1]
  cases neg
  · rfl
  · have h2 : decide ((dig a).length = 0) = false := by
      apply decide_eq_false; intro h
      have := dig_nil_iff.1 (List.eq_nil_of_length_eq_zero h)
      have := hn rfl; omega
    rw [h2]; rfl
theorem okq_small {neg : Bool} {a b : Nat} (ha : a < 4294967296) (hb : b < 4294967296) (ha0 : 0 < a) (hb0 : 0 < b) (hg : Nat.gcd a b = 1) : okq ⟨0, neg, dig a, dig b⟩ = true :=
  okq_mk (Nat.le_trans (len1 ha) (by decide)) (Nat.le_trans (len1 hb) (by decide)) hb0 hg (fun _ => ha0)
theorem ratio_small {neg : Bool} {a b g c d : Nat} (hb : b ≠ 0) (hg : Nat.gcd a b = g) (hc : a / g = c) (hd : b / g = d) (ha : 0 < a) (hcs : c < 4294967296) (hds : d < 4294967296) : ratio neg a b = ⟨0, neg, dig c, dig d⟩ := by
  unfold ratio
  rw [if_neg hb, hg, hc, hd, isLong_small hcs, isLong_small hds, decide_eq_true ha, Bool.and_true]; rfl

theorem box_of {F : FuncId} {args : Array Value} {w : World} {m : Rq × Int} {f : Int} {neg : Bool} {xs ys : List Nat}
    (h : Calls Tryz.prog F args w fun e w' => ∃ r, e = .returned (.tuple #[r, .int .i64 m.2]) ∧ RO w.heap.size w' r m.1 ∧ Ext w w') (hm : m = (⟨f, neg, xs, ys⟩, 0)) :
    Calls Tryz.prog F args w fun e w' => ∃ A c B d, e = .returned (.tuple #[.agg #[.int .i64 f, .bool neg, .slice A xs.length c, .slice B ys.length d], .int .i64 0]) ∧ Aside (RR w' (.agg #[.int .i64 f, .bool neg, .slice A xs.length c, .slice B ys.length d]) ⟨f, neg, xs, ys⟩) ∧ Ext w w' := by
  subst hm
  refine h.mono ?_
  rintro e w' ⟨r, rfl, hr, he⟩
  obtain ⟨A, c, B, d, rfl⟩ := hr.form
  exact ⟨A, c, B, d, rfl, ⟨hr.rr⟩, he⟩

theorem of_box {w : World} {n d : Int} (h1 : -9223372036854775808 ≤ n) (h2 : n ≤ 9223372036854775807) (h3 : -9223372036854775808 ≤ d) (h4 : d ≤ 9223372036854775807) {m : Rq × Int} (hm : (ratio (decide (n < 0) != decide (d < 0)) n.natAbs d.natAbs, 0) = m) :
    Calls Tryz.prog 16 #[.int .i64 n, .int .i64 d] w fun e w' => ∃ r, e = .returned (.tuple #[r, .int .i64 m.2]) ∧ RO w.heap.size w' r m.1 ∧ Ext w w' := by
  subst hm
  exact Of_calls h1 h2 h3 h4
theorem al1 {w : World} : Calls Tryz.prog 16 #[.int .i64 6, .int .i64 (-4)] w fun e w' => ∃ A c B d, e = .returned (.tuple #[.agg #[.int .i64 0, .bool true, .slice A (dig 3).length c, .slice B (dig 2).length d], .int .i64 0]) ∧ Aside (RR w' (.agg #[.int .i64 0, .bool true, .slice A (dig 3).length c, .slice B (dig 2).length d]) ⟨0, true, dig 3, dig 2⟩) ∧ Ext w w' :=
  box_of (of_box (by omega) (by omega) (by omega) (by omega) rfl) (by
    rw [show (decide ((6 : Int) < 0) != decide ((-4 : Int) < 0)) = true from rfl, ratio_small (g := 2) (c := 3) (d := 2) (by decide) rfl rfl rfl (by decide) (by decide) (by decide)])
theorem al2 {w : World} : Calls Tryz.prog 16 #[.int .i64 1, .int .i64 0] w fun e w' => ∃ A c B d, e = .returned (.tuple #[.agg #[.int .i64 11, .bool false, .slice A 0 c, .slice B 0 d], .int .i64 0]) ∧ Aside (RR w' (.agg #[.int .i64 11, .bool false, .slice A 0 c, .slice B 0 d]) ⟨11, false, [], []⟩) ∧ Ext w w' :=
  box_of (of_box (by omega) (by omega) (by omega) (by omega) rfl) rfl
theorem al3 {w : World} (hg : Glob w) : Calls Tryz.prog 29 #[.string ⟨#[49, 47, 50]⟩] w fun e w' => ∃ A c B d, e = .returned (.tuple #[.agg #[.int .i64 0, .bool false, .slice A (dig 1).length c, .slice B (dig 2).length d], .int .i64 0]) ∧ Aside (RR w' (.agg #[.int .i64 0, .bool false, .slice A (dig 1).length c, .slice B (dig 2).length d]) ⟨0, false, dig 1, dig 2⟩) ∧ Ext w w' :=
  box_of (parse_calls hg (by decide) rfl) (by
    show fparts false [49] true [50] = _
    unfold fparts
    rw [if_neg (by decide), show dval [49] = 1 from rfl, show dval [50] = 2 from rfl, okq_small (by decide) (by decide) (by decide) (by decide) rfl]; rfl)
theorem al4 {w : World} (hg : Glob w) : Calls Tryz.prog 29 #[.string ⟨#[49, 47, 51]⟩] w fun e w' => ∃ A c B d, e = .returned (.tuple #[.agg #[.int .i64 0, .bool false, .slice A (dig 1).length c, .slice B (dig 3).length d], .int .i64 0]) ∧ Aside (RR w' (.agg #[.int .i64 0, .bool false, .slice A (dig 1).length c, .slice B (dig 3).length d]) ⟨0, false, dig 1, dig 3⟩) ∧ Ext w w' :=
  box_of (parse_calls hg (by decide) rfl) (by
    show fparts false [49] true [51] = _
    unfold fparts
    rw [if_neg (by decide), show dval [49] = 1 from rfl, show dval [51] = 3 from rfl, okq_small (by decide) (by decide) (by decide) (by decide) rfl]; rfl)
theorem al5 {w : World} {u v : Value} (hu : RR w u ⟨0, false, dig 1, dig 2⟩) (hv : RR w v ⟨0, false, dig 1, dig 3⟩) : Calls Tryz.prog 35 #[u, v] w fun e w' => ∃ A c B d, e = .returned (.tuple #[.agg #[.int .i64 0, .bool false, .slice A (dig 5).length c, .slice B (dig 6).length d], .int .i64 0]) ∧ Aside (RR w' (.agg #[.int .i64 0, .bool false, .slice A (dig 5).length c, .slice B (dig 6).length d]) ⟨0, false, dig 5, dig 6⟩) ∧ Ext w w' :=
  box_of (Add2_calls hu hv rfl) (by
    unfold madeq
    rw [okq_small (by decide) (by decide) (by decide) (by decide) rfl, okq_small (by decide) (by decide) (by decide) (by decide) rfl]
    simp only [val_dig, Bool.and_self, if_true, leastq]
    show (ratio false 5 6, (0 : Int)) = _
    rw [ratio_small (g := 1) (c := 5) (d := 6) (by decide) rfl rfl rfl (by decide) (by decide) (by decide)])
theorem al6 {w : World} (hg : Glob w) : Calls Tryz.prog 30 #[.string ⟨#[48, 46, 50, 53, 48]⟩] w fun e w' => ∃ A c B d, e = .returned (.tuple #[.agg #[.int .i64 0, .bool false, .slice A (dig 1).length c, .slice B (dig 4).length d], .int .i64 0]) ∧ Aside (RR w' (.agg #[.int .i64 0, .bool false, .slice A (dig 1).length c, .slice B (dig 4).length d]) ⟨0, false, dig 1, dig 4⟩) ∧ Ext w w' :=
  box_of (decimal_calls hg (by decide) rfl) (by
    show fdecParts [48] [50, 53] = _
    unfold fdecParts
    show (if (ratio false 25 100).f = 0 then (ratio false 25 100, 0) else (fq 4, 0)) = _
    rw [ratio_small (g := 25) (c := 1) (d := 4) (by decide) rfl rfl rfl (by decide) (by decide) (by decide)]; rfl)
theorem tx_num {w : World} {v : Value} {neg : Bool} {a b : Nat} (hg : Glob w) (h : RR w v ⟨0, neg, dig a, dig b⟩) (ha : a < 4294967296) (hb : b < 4294967296) (ha0 : 0 < a) (hb0 : 0 < b) (hgc : Nat.gcd a b = 1) {t : ByteArray} (ht : (⟨(ntext neg a b).toArray⟩ : ByteArray) = t) :
    Calls Tryz.prog 26 #[v] w fun e w' => e = .returned (.tuple #[.string t, .int .i64 0]) ∧ Ext w w' := by
  subst ht
  exact text_num hg h (okq_small ha hb ha0 hb0 hgc) (Nat.le_trans (len1 ha) (by decide)) (Nat.le_trans (len1 hb) (by decide)) hb0
theorem d10_one {a : Nat} (h : a < 10) (h0 : a ≠ 0) : dtext a = [chr a] := by
  unfold dtext
  rw [if_neg h0, d10_pos h0, show a / 10 = 0 from by omega, d10_zero, Nat.mod_eq_of_lt h]; rfl
theorem tx1 : (⟨(ntext false 5 6).toArray⟩ : ByteArray) = ⟨#[53, 47, 54]⟩ := by unfold ntext; rw [d10_one (by decide) (by decide), d10_one (by decide) (by decide)]; rfl
theorem tx2 : (⟨(ntext true 3 2).toArray⟩ : ByteArray) = ⟨#[45, 51, 47, 50]⟩ := by unfold ntext; rw [d10_one (by decide) (by decide), d10_one (by decide) (by decide)]; rfl
theorem tx3 : (⟨(ntext false 1 4).toArray⟩ : ByteArray) = ⟨#[49, 47, 52]⟩ := by unfold ntext; rw [d10_one (by decide) (by decide), d10_one (by decide) (by decide)]; rfl
theorem tz {w : World} {v : Value} (hg : Glob w) (h : RR w v ⟨11, false, [], []⟩) : Calls Tryz.prog 26 #[v] w fun e w' => e = .returned (.tuple #[.string ⟨#[33, 122, 101, 114, 111]⟩, .int .i64 0]) ∧ Ext w w' :=
  text_fault hg h rfl (by decide)

set_option maxRecDepth 10000 in
set_option maxHeartbeats 4000000 in
theorem alive_calls {w : World} (hg : Glob w) : Calls Tryz.prog 23 #[] w fun e w' => e = .returned (.bool true) ∧ Ext w w' := by
  have HG := Aside.mk hg
  clear hg
  go_enter Tryz.func23, Tryz.ntmps23
  go_wp2_with (first | (go_at_call 16; with_reducible refine al1.mono ?_; rintro e w1 ⟨A1, c1, B1, d1, rfl, R1, f1⟩; have k1 := KeepB.init w1 (.int .i64 0) (.bool true) (.slice A1 (dig 3).length c1) (.slice B1 (dig 2).length d1) 26; have F1 := Aside.mk f1; clear f1) | (go_at_call 16; with_reducible refine al2.mono ?_; rintro e w2 ⟨A2, c2, B2, d2, rfl, R2, f2⟩; have k2 := KeepB.init w2 (.int .i64 11) (.bool false) (.slice A2 0 c2) (.slice B2 0 d2) 26; have q1 := KeepB.ext (f2.trans k2.1.out) k1; have F2 := Aside.mk (F1.out.trans q1.1.out); clear f2 k1) | (go_at_call 29; with_reducible refine (al3 (HG.out.ext (F1.out.trans q1.1.out))).mono ?_; rintro e w3 ⟨A3, c3, B3, d3, rfl, R3, f3⟩; have k3 := KeepB.init w3 (.int .i64 0) (.bool false) (.slice A3 (dig 1).length c3) (.slice B3 (dig 2).length d3) 26; have r1 := KeepB.ext (f3.trans k3.1.out) q1; have q2 := KeepB.ext (f3.trans k3.1.out) k2; clear f3 q1 k2) | (go_at_call 29; with_reducible refine (al4 (HG.out.ext (F1.out.trans r1.1.out))).mono ?_; rintro e w4 ⟨A4, c4, B4, d4, rfl, R4, f4⟩; have k4 := KeepB.init w4 (.int .i64 0) (.bool false) (.slice A4 (dig 1).length c4) (.slice B4 (dig 3).length d4) 26; have s1 := KeepB.ext (f4.trans k4.1.out) r1; have r2 := KeepB.ext (f4.trans k4.1.out) q2; have q3 := KeepB.ext (f4.trans k4.1.out) k3; clear f4 r1 q2 k3) | (go_at_call 35; with_reducible refine (al5 (R3.out.ext q3.1.out) (R4.out.ext k4.1.out)).mono ?_; rintro e w5 ⟨A5, c5, B5, d5, rfl, R5, f5⟩; have k5 := KeepB.init w5 (.int .i64 0) (.bool false) (.slice A5 (dig 5).length c5) (.slice B5 (dig 6).length d5) 26; have t1 := KeepB.ext (f5.trans k5.1.out) s1; have s2 := KeepB.ext (f5.trans k5.1.out) r2; clear f5 s1 r2 q3 k4) | (go_at_call 26; with_reducible refine (tx_num (HG.out.ext (F1.out.trans t1.1.out)) (R5.out.ext k5.1.out) (by decide) (by decide) (by decide) (by decide) rfl tx1).mono ?_; rintro e w6 ⟨rfl, f6⟩; have u1 := KeepB.ext f6 t1; have t2 := KeepB.ext f6 s2; clear f6 t1 s2 k5) | (go_at_call 26; with_reducible refine (tx_num (HG.out.ext (F1.out.trans u1.1.out)) (R1.out.ext u1.1.out) (by decide) (by decide) (by decide) (by decide) rfl tx2).mono ?_; rintro e w7 ⟨rfl, f7⟩; have F7 := Aside.mk (F1.out.trans (u1.1.out.trans f7)); have u2 := KeepB.ext f7 t2; clear f7 u1 t2) | (go_at_call 26; with_reducible refine (tz (HG.out.ext F7.out) (R2.out.ext u2.1.out)).mono ?_; rintro e w8 ⟨rfl, f8⟩; have F8 := Aside.mk (F7.out.trans f8); clear f8 u2) | (go_at_call 30; with_reducible refine (al6 (HG.out.ext F8.out)).mono ?_; rintro e w9 ⟨A9, c9, B9, d9, rfl, R9, f9⟩; have k9 := KeepB.init w9 (.int .i64 0) (.bool false) (.slice A9 (dig 1).length c9) (.slice B9 (dig 4).length d9) 26; have F9 := Aside.mk (F8.out.trans f9); clear f9) | (go_at_call 26; with_reducible refine (tx_num (HG.out.ext (F9.out.trans k9.1.out)) (R9.out.ext k9.1.out) (by decide) (by decide) (by decide) (by decide) rfl tx3).mono ?_; rintro e w10 ⟨rfl, f10⟩; have F10 := Aside.mk (F9.out.trans (k9.1.out.trans f10)); clear f10 k9))
  go_ret
  exact ⟨rfl, F10.out⟩
end Go.Proofs.YtgfkachfbnbikaaGreatDoor

namespace Go.Proofs.YtgfkachfbnbikaaGreatDoor
open Go.RowKit

/-- A box of two cells. -/
abbrev KeepT (w : World) (x0 x1 : Value) (w' : World) : Prop :=
  Aside (Ext w w') ∧ w'.cell? ⟨w.heap.size, 0, none⟩ = some x0 ∧ w'.cell? ⟨w.heap.size, 1, none⟩ = some x1
theorem KeepT.ext {w w1 w2 : World} {x0 x1 : Value} (e : Ext w1 w2) (h : KeepT w x0 x1 w1) : KeepT w x0 x1 w2 := ⟨⟨h.1.out.trans e⟩, e.cell h.2.1, e.cell h.2.2⟩
theorem KeepT.init (w : World) (x0 x1 : Value) (t : TypeId) : KeepT w x0 x1 (w.alloc (.cells #[x0, x1] t)) := ⟨⟨(Ext.refl w).alloc _⟩, cell_new rfl rfl, cell_new rfl rfl⟩

theorem RV.eq {w : World} {v : Value} {xs ys : List Nat} (h : RV w v xs) (e : xs = ys) : RV w v ys := e ▸ h
theorem cut516 {w : World} {u : Value} {xs ys : List Nat} (hu : RL w u xs) (hy : xs.take 516 = ys) :
    Calls Tryz.prog 19 #[u, .int .i64 516] w fun e w' => ∃ r, e = .returned r ∧ OV w.heap.size w' r ys ∧ Ext w w' := cut_calls (most := 516) hu rfl (by decide) hy
theorem make_good {w : World} {neg : Bool} {x y : Value} {xs ys : List Nat} {q : Rq} (hx : RV w x xs) (hy : RV w y ys) (h1 : natErr xs = 0) (h2 : natErr ys = 0) (hq : ratio neg (val xs) (val ys) = q) :
    Calls Tryz.prog 20 #[.bool neg, x, y] w fun e w' => ∃ r, e = .returned (.tuple #[r, .int .i64 0]) ∧ RO w.heap.size w' r q ∧ Ext w w' := by
  subst hq
  refine (Make_calls hx hy).mono ?_
  rintro e w' ⟨h, he⟩
  rw [if_pos ⟨h1, h2⟩] at h
  obtain ⟨r, h1, h2⟩ := h
  exact ⟨r, h1, h2, he⟩
theorem make_bad {w : World} {neg : Bool} {x y : Value} {xs ys : List Nat} (hx : RV w x xs) (hy : RV w y ys) (h : ¬ (natErr xs = 0 ∧ natErr ys = 0)) :
    Calls Tryz.prog 20 #[.bool neg, x, y] w fun e w' => e = .returned (.tuple #[.agg #[.int .i64 0, .bool false, .slice none 0 0, .slice none 0 0], .int .i64 5]) ∧ Ext w w' := by
  refine (Make_calls hx hy).mono ?_
  rintro e w' ⟨h', he⟩
  rw [if_neg h] at h'
  exact ⟨h', he⟩

set_option maxRecDepth 10000 in
set_option maxHeartbeats 4000000 in
theorem makes_calls {w : World} {n d : Int} {neg : Bool} {s0 s1 : Value} {xs ys : List Nat} (hg : Glob w) (n1 : -9223372036854775808 ≤ n) (n2 : n ≤ 9223372036854775807) (d1 : -9223372036854775808 ≤ d) (d2 : d ≤ 9223372036854775807) (hx : RL w s0 xs) (hy : RL w s1 ys) :
    Calls Tryz.prog 3 #[.int .i64 n, .int .i64 d, .bool neg, .agg #[s0, s1]] w fun e w' => e = .returned (.bool true) ∧ Ext w w' := by
  have HG := Aside.mk hg
  have N1 := Aside.mk n1
  have N2 := Aside.mk n2
  have D1 := Aside.mk d1
  have D2 := Aside.mk d2
  have HX := Aside.mk hx
  have HY := Aside.mk hy
  obtain ⟨q, hq⟩ : ∃ q, ratio (decide (n < 0) != decide (d < 0)) n.natAbs d.natAbs = q := ⟨_, rfl⟩
  have HQ := Aside.mk hq
  obtain ⟨AX, cx, rfl, _⟩ := hx
  obtain ⟨AY, cy, rfl, _⟩ := hy
  have hk0 := KeepT.init w (.slice AX xs.length cx) (.slice AY ys.length cy) 23
  clear hg n1 n2 d1 d2 hq
  go_enter Tryz.func3, Tryz.ntmps3
  go_wp2_with (go_at_call 16; with_reducible refine (Of_calls N1.out N2.out D1.out D2.out).mono ?_; rw [HQ.out]; rintro e w1 ⟨r, rfl, hr, he⟩; have HT1 := Aside.mk (Ext.trans (Aside.out (And.left hk0)) he); have HR1 := Aside.mk hr.rr; obtain ⟨A1, c1, B1, d1, rfl⟩ := hr.form; have hk1 := KeepT.ext he hk0; clear hk0 hr he)
  have hb1 := KeepB.init w1 (.int .i64 q.f) (.bool q.neg) (.slice A1 q.num.length c1) (.slice B1 q.den.length d1) 26
  have hb1' := KeepB.ext (Ext.refl _).drew hb1
  go_region_held (fun w' => KeepB w1 (.int .i64 q.f) (.bool q.neg) (.slice A1 q.num.length c1) (.slice B1 q.den.length d1) w') (first | assumption | exact KeepB.ext (by assumption) (by assumption)) (first | (go_at_call 18; with_reducible refine (rOf_calls N1.out N2.out D1.out D2.out HQ.out).mono ?_; rintro e w2 ⟨r, rfl, hr, he2⟩; have HR2 := Aside.mk hr.rr; obtain ⟨A2, c2, B2, d2, rfl⟩ := hr.form; clear hr) | (go_at_call 17; with_reducible refine (gives_same (HR1.out.ext (Aside.out (And.left (show KeepB w1 (.int .i64 q.f) (.bool q.neg) (.slice A1 q.num.length c1) (.slice B1 q.den.length d1) _ from by assumption)))) HR2.out).mono ?_; rintro e w3 ⟨rfl, he3⟩))
  have hb3 := KeepB.ext he3 (KeepB.ext he2 hb1')
  have hk3 := KeepT.ext hb3.1.out hk1
  have HT3 := Aside.mk (HT1.out.trans hb3.1.out)
  have hk3' := KeepT.ext (Ext.refl _).drew hk3
  clear hb1 hb1' hb3 hk1 he2 he3
  obtain ⟨la, hla⟩ : ∃ l, xs.take 516 = l := ⟨_, rfl⟩
  obtain ⟨lb, hbs⟩ : ∃ l, ys.take 516 = l := ⟨_, rfl⟩
  have HAS := Aside.mk hla
  have HBS := Aside.mk hbs
  clear hla hbs
  go_wp2
  go_region_held (fun w' => KeepT w (.slice AX xs.length cx) (.slice AY ys.length cy) w') (first | assumption | exact KeepT.ext (by assumption) (by assumption)) (first | (go_at_call 19; with_reducible refine (cut516 (HX.out.ext (Aside.out (And.left (show KeepT w (.slice AX xs.length cx) (.slice AY ys.length cy) _ from by assumption)))) HAS.out).mono ?_; rintro e w4 ⟨r, rfl, hc1, he4⟩; obtain ⟨A3, c3, rfl, _⟩ := hc1.form) | (go_at_call 19; with_reducible refine (cut516 (HY.out.ext (Aside.out (And.left (show KeepT w (.slice AX xs.length cx) (.slice AY ys.length cy) _ from by assumption)))) HBS.out).mono ?_; rintro e w5 ⟨r, rfl, hc2, he5⟩; obtain ⟨A4, c4, rfl, _⟩ := hc2.form))
  have HC1 := Aside.mk (hc1.rv.ext he5)
  have HC2 := Aside.mk hc2.rv
  have HDA := Aside.mk hc1.1.2
  have HDB := Aside.mk hc2.1.2
  have HT5 := Aside.mk (HT3.out.drew.trans (he4.trans he5))
  clear hc1 hc2 he4 he5 hk3 hk3'
  by_cases hgood : natErr la = 0 ∧ natErr lb = 0
  · have HG1 := Aside.mk hgood.1
    have HG2 := Aside.mk hgood.2
    have HBE : Aside (bothErr la lb = 0) := ⟨by unfold bothErr; rw [if_pos hgood.1]; exact hgood.2⟩
    obtain ⟨p, hp⟩ : ∃ p, ratio neg (val la) (val lb) = p := ⟨_, rfl⟩
    have HP := Aside.mk hp
    have HNA := Aside.mk (natErr_zero HDA.out hgood.1)
    have HNB := Aside.mk (natErr_zero HDB.out hgood.2)
    clear hgood hp
    go_wp2_with (first | (go_at_call 20; with_reducible refine (make_good HC1.out HC2.out HG1.out HG2.out HP.out).mono ?_; rintro e w6 ⟨r, rfl, hr, he⟩; have HR6 := Aside.mk hr.rr; obtain ⟨A6, c6, B6, d6, rfl⟩ := hr.form; have hb6 := KeepB.init w6 (.int .i64 p.f) (.bool p.neg) (.slice A6 p.num.length c6) (.slice B6 p.den.length d6) 26; have HT6 := Aside.mk (HT5.out.trans he); have HD1 := Aside.mk ((HC1.out.ext he).eq HNA.out.2); have HD2 := Aside.mk ((HC2.out.ext he).eq HNB.out.2); have HC1' := Aside.mk (HC1.out.ext (he.trans (Aside.out (And.left hb6)))); have HC2' := Aside.mk (HC2.out.ext (he.trans (Aside.out (And.left hb6)))); clear hr he) | (go_at_call 21; with_reducible refine (both_calls HC1'.out HC2'.out).mono ?_; rw [HBE.out]; rintro e w' ⟨rfl, rfl⟩))
    have HLA : Aside ((dig (val la)).length < 1073741824) := ⟨by have := HNA.out; rw [← this.2]; omega⟩
    have HLB : Aside ((dig (val lb)).length < 1073741824) := ⟨by have := HNB.out; rw [← this.2]; omega⟩
    have hb7 := KeepB.ext (Ext.refl _).drew hb6
    clear HC1' HC2'
    go_region_held (fun w' => KeepB w6 (.int .i64 p.f) (.bool p.neg) (.slice A6 p.num.length c6) (.slice B6 p.den.length d6) w') (first | assumption | exact KeepB.ext (by assumption) (by assumption)) (first | (go_at_call 24; with_reducible refine (rratio_calls (HD1.out.ext (Aside.out (And.left (show KeepB w6 (.int .i64 p.f) (.bool p.neg) (.slice A6 p.num.length c6) (.slice B6 p.den.length d6) _ from by assumption)))) (HD2.out.ext (Aside.out (And.left (show KeepB w6 (.int .i64 p.f) (.bool p.neg) (.slice A6 p.num.length c6) (.slice B6 p.den.length d6) _ from by assumption)))) HLA.out HLB.out HP.out).mono ?_; rintro e w7 ⟨r, rfl, hr, he7⟩; have HR7 := Aside.mk hr.rr; obtain ⟨A7, c7, B7, d7, rfl⟩ := hr.form; clear hr) | (go_at_call 17; with_reducible refine (gives_same (HR6.out.ext (Aside.out (And.left (show KeepB w6 (.int .i64 p.f) (.bool p.neg) (.slice A6 p.num.length c6) (.slice B6 p.den.length d6) _ from by assumption)))) HR7.out).mono ?_; rintro e w8 ⟨rfl, he8⟩) | (go_at_call 23; with_reducible refine (alive_calls (HG.out.ext (HT6.out.trans (Aside.out (And.left (show KeepB w6 (.int .i64 p.f) (.bool p.neg) (.slice A6 p.num.length c6) (.slice B6 p.den.length d6) _ from by assumption)))))).mono ?_; rintro e w9 ⟨rfl, he9⟩))
    have hb9 := KeepB.ext he9 (KeepB.ext he8 (KeepB.ext he7 hb7))
    have HE := Aside.mk (HT6.out.trans hb9.1.out)
    clear hb7 hb9 he7 he8 he9
    go_wp2
    go_ret
    exact ⟨rfl, HE.out⟩
  · have HGB := Aside.mk hgood
    have hbe : ∃ m, bothErr la lb = m ∧ m ≠ 0 := ⟨_, rfl, by unfold bothErr; intro h; apply hgood; split at h <;> omega⟩
    obtain ⟨m, hm, hm0⟩ := hbe
    have HBE := Aside.mk hm
    have hm1 : ((m : Int) == 0) = false := beq_eq_false_iff_ne.2 (by omega)
    have hm2 : ((m : Int) != 0) = true := by simp [bne, hm1]
    clear hgood hm hm0
    go_wp2_with (first | (go_at_call 20; with_reducible refine (make_bad HC1.out HC2.out HGB.out).mono ?_; rintro e w6 ⟨rfl, he⟩; have hb6 := KeepB.init w6 (.int .i64 0) (.bool false) (.slice none 0 0) (.slice none 0 0) 26; have HT6 := Aside.mk ((HT5.out.trans he).trans (Aside.out (And.left hb6))); have HC1' := Aside.mk (HC1.out.ext (he.trans (Aside.out (And.left hb6)))); have HC2' := Aside.mk (HC2.out.ext (he.trans (Aside.out (And.left hb6)))); clear he) | (go_at_call 21; with_reducible refine (both_calls HC1'.out HC2'.out).mono ?_; rw [HBE.out]; rintro e w' ⟨rfl, rfl⟩) | (go_at_call 22; with_reducible refine zero_true.mono ?_; rintro e w7 ⟨rfl, he⟩; have HT7 := Aside.mk (HT6.out.trans he); clear he) | (go_at_call 23; with_reducible refine (alive_calls (HG.out.ext HT7.out)).mono ?_; rintro e w8 ⟨rfl, he⟩; have HE := Aside.mk (HT7.out.trans he); clear he))
    go_ret
    exact ⟨rfl, HE.out⟩
end Go.Proofs.YtgfkachfbnbikaaGreatDoor

namespace Go.Proofs.YtgfkachfbnbikaaGreatDoor
open Go.RowKit

theorem cut132 {w : World} {u : Value} {xs ys : List Nat} (hu : RL w u xs) (hy : xs.take 132 = ys) :
    Calls Tryz.prog 19 #[u, .int .i64 132] w fun e w' => ∃ r, e = .returned r ∧ OV w.heap.size w' r ys ∧ Ext w w' := cut_calls (most := 132) hu rfl (by decide) hy
set_option maxRecDepth 10000 in
set_option maxHeartbeats 4000000 in
theorem rat_calls {w : World} {f : Int} {neg : Bool} {sx sy : Value} {xs ys la lb : List Nat} (hx : RL w sx xs) (hy : RL w sy ys) (ha : xs.take 132 = la) (hb : ys.take 132 = lb) :
    Calls Tryz.prog 25 #[.agg #[.int .i64 f, .bool neg, sx, sy]] w fun e w' => ∃ r, e = .returned r ∧ RO w.heap.size w' r ⟨f, neg, la, lb⟩ ∧ Ext w w' := by
  have HX := Aside.mk hx
  have HY := Aside.mk hy
  have HAS := Aside.mk ha
  have HBS := Aside.mk hb
  obtain ⟨AX, cx, rfl, _⟩ := hx
  obtain ⟨AY, cy, rfl, _⟩ := hy
  generalize xs.length = nx at *
  generalize ys.length = ny at *
  clear ha hb
  have hk0 := (KeepBR.init w (.int .i64 f) (.bool neg) (.slice AX nx cx) (.slice AY ny cy) (.int .i64 0) (.bool false) (.slice none 0 0) (.slice none 0 0) 26 26).ext ((Ext.refl _).drew)
  go_enter Tryz.func25, Tryz.ntmps25
  go_wp2
  go_region_held (fun w' => KeepBR w (.int .i64 f) (.bool neg) (.slice AX nx cx) (.slice AY ny cy) w') (first | assumption | exact KeepBR.ext (by assumption) (by assumption) | exact (((KeepBR.set (by assumption) _ _).set _ _).set _ _).set _ _) (first | (go_at_call 19; with_reducible refine (cut132 (HX.out.ext (Aside.out (And.left (show KeepBR w (.int .i64 f) (.bool neg) (.slice AX nx cx) (.slice AY ny cy) _ from by assumption)))) HAS.out).mono ?_; rintro e w4 ⟨r, rfl, hr, he4⟩; have HR4 := Aside.mk hr; obtain ⟨A3, c3, rfl, _⟩ := hr.form; clear hr) | (go_at_call 19; with_reducible refine (cut132 (HY.out.ext (Aside.out (And.left (show KeepBR w (.int .i64 f) (.bool neg) (.slice AX nx cx) (.slice AY ny cy) _ from by assumption)))) HBS.out).mono ?_; rintro e w5 ⟨r, rfl, hr, he5⟩; have HR5 := Aside.mk hr; obtain ⟨A4, c4, rfl, _⟩ := hr.form; clear hr))
  have hk4 := KeepBR.ext he4 hk0
  have hk5 := KeepBR.ext he5 hk4
  have HE5 := Aside.mk he5
  have HZ := Aside.mk (World.block_lt_of_cell? _ _ hk4.2.2.1.1)
  have HZ0 := Aside.mk (World.block_lt_of_cell? _ _ hk0.2.2.1.1)
  have HK := Aside.mk hk5
  clear hk0 hk4 he4 he5
  go_wp2
  refine bodyPost_ret (v := .agg #[.int .i64 f, .bool neg, .slice A3 la.length c3, .slice A4 lb.length c4]) (by simp [results, Tryz.results25, go_sem, hk5]) rfl ⟨_, rfl, ⟨_, _, rfl, ?_, ?_⟩, ?_⟩
  · exact ((HR4.out.ext HE5.out).set4 HZ0.out _ _ _ _).mono (Nat.le_trans (Nat.le_succ _) (Nat.le_of_lt HZ0.out))
  · exact (HR5.out.set4 HZ.out _ _ _ _).mono (Nat.le_trans (Nat.le_succ _) (Nat.le_of_lt HZ.out))
  · exact ext_set4 HK.out.1.out (Nat.le_succ _) _ _ _ _
end Go.Proofs.YtgfkachfbnbikaaGreatDoor

namespace Go.Proofs.YtgfkachfbnbikaaGreatDoor
open Go.RowKit

theorem rat_q {w : World} {f : Int} {neg : Bool} {sx sy : Value} {xs ys : List Nat} {a : Rq} (hx : RL w sx xs) (hy : RL w sy ys) (ha : ⟨f, neg, xs.take 132, ys.take 132⟩ = a) :
    Calls Tryz.prog 25 #[.agg #[.int .i64 f, .bool neg, sx, sy]] w fun e w' => ∃ r, e = .returned r ∧ RO w.heap.size w' r a ∧ Ext w w' := by
  subst ha
  exact rat_calls hx hy rfl rfl
/-- The four cells of a box. -/
abbrev Four (w : World) (g : Nat) (x0 x1 x2 x3 : Value) : Prop := w.cell? ⟨g, 0, none⟩ = some x0 ∧ w.cell? ⟨g, 1, none⟩ = some x1 ∧ w.cell? ⟨g, 2, none⟩ = some x2 ∧ w.cell? ⟨g, 3, none⟩ = some x3
theorem Four.ext {a b : World} (e : Ext a b) {g : Nat} {x0 x1 x2 x3 : Value} (h : Four a g x0 x1 x2 x3) : Four b g x0 x1 x2 x3 := ⟨e.cell h.1, e.cell h.2.1, e.cell h.2.2.1, e.cell h.2.2.2⟩
theorem Four.other {a : World} {g g' : Nat} {x0 x1 x2 x3 : Value} (h : Four a g x0 x1 x2 x3) (hne : g' ≠ g) (j : Nat) (v : Value) : Four (a.setCell ⟨g', j, none⟩ v) g x0 x1 x2 x3 :=
  ⟨cell_other h.1 hne, cell_other h.2.1 hne, cell_other h.2.2.1 hne, cell_other h.2.2.2 hne⟩
/-- A new Rat's box. -/
abbrev FitZ (w : World) (g : Nat) : Prop := Four w g (.int .i64 0) (.bool false) (.slice none 0 0) (.slice none 0 0) ∧ w.frozen? ⟨g, 0, none⟩ = false ∧ w.frozen? ⟨g, 1, none⟩ = false ∧ w.frozen? ⟨g, 2, none⟩ = false ∧ w.frozen? ⟨g, 3, none⟩ = false
abbrev ZBox : Obj := .cells #[.int .i64 0, .bool false, .slice none 0 0, .slice none 0 0] 26
theorem FitZ.ext {a b : World} (e : Ext a b) {g : Nat} (h : FitZ a g) : FitZ b g := by
  have hg := World.block_lt_of_cell? a _ h.1.1
  exact ⟨h.1.ext e, (e.frees g 0 hg).trans h.2.1, (e.frees g 1 hg).trans h.2.2.1, (e.frees g 2 hg).trans h.2.2.2.1, (e.frees g 3 hg).trans h.2.2.2.2⟩
theorem FitZ.new (w : World) {g : Nat} (hg : w.heap.size = g) : FitZ (w.alloc (.cells #[.int .i64 0, .bool false, .slice none 0 0, .slice none 0 0] 26)) g := by
  subst hg
  exact ⟨⟨cell_new rfl rfl, cell_new rfl rfl, cell_new rfl rfl, cell_new rfl rfl⟩, by simp, by simp, by simp, by simp⟩
theorem FitZ.alloc {w : World} {g : Nat} (h : FitZ w g) (o : Obj) : FitZ (w.alloc o) g := h.ext ((Ext.refl w).alloc o)
theorem fz1 {w1 w2 : World} {n : Nat} (e : Ext (w1.alloc (.cells #[.int .i64 0, .bool false, .slice none 0 0, .slice none 0 0] 26)) w2) (hn : w1.heap.size = n) : FitZ w2 n := (FitZ.new w1 hn).ext e
theorem fz2 {w1 w2 : World} {n : Nat} {o : Obj} (e : Ext ((w1.alloc (.cells #[.int .i64 0, .bool false, .slice none 0 0, .slice none 0 0] 26)).alloc o) w2) (hn : w1.heap.size = n) : FitZ w2 n := ((FitZ.new w1 hn).alloc o).ext e
theorem FitZ.other {w : World} {g g' : Nat} (h : FitZ w g) (hne : g' ≠ g) (j : Nat) (v : Value) : FitZ (w.setCell ⟨g', j, none⟩ v) g :=
  ⟨h.1.other hne j v, by rw [World.frozen?_setCell]; exact h.2.1, by rw [World.frozen?_setCell]; exact h.2.2.1, by rw [World.frozen?_setCell]; exact h.2.2.2.1, by rw [World.frozen?_setCell]; exact h.2.2.2.2⟩
/-- Four stores. -/
abbrev set4 (w : World) (g : Nat) (v0 v1 v2 v3 : Value) : World := (((w.setCell ⟨g, 0, none⟩ v0).setCell ⟨g, 1, none⟩ v1).setCell ⟨g, 2, none⟩ v2).setCell ⟨g, 3, none⟩ v3
theorem Four.four {w : World} {g g' : Nat} {x0 x1 x2 x3 : Value} (h : Four w g x0 x1 x2 x3) (hne : g' ≠ g) (v0 v1 v2 v3 : Value) : Four (set4 w g' v0 v1 v2 v3) g x0 x1 x2 x3 :=
  (((h.other hne 0 v0).other hne 1 v1).other hne 2 v2).other hne 3 v3
theorem FitZ.four {w : World} {g g' : Nat} (h : FitZ w g) (hne : g' ≠ g) (v0 v1 v2 v3 : Value) : FitZ (set4 w g' v0 v1 v2 v3) g :=
  (((h.other hne 0 v0).other hne 1 v1).other hne 2 v2).other hne 3 v3
theorem off_other {w : World} {g j j' : Nat} {u v : Value} (h : w.cell? ⟨g, j, none⟩ = some u) (hne : j' ≠ j) : (w.setCell ⟨g, j', none⟩ v).cell? ⟨g, j, none⟩ = some u :=
  (World.cell?_setCell_other w _ _ v (fun e => hne (by injection e))).trans h
theorem set4_four {w : World} {g : Nat} (h : FitZ w g) (v0 v1 v2 v3 : Value) : Four (set4 w g v0 v1 v2 v3) g v0 v1 v2 v3 :=
  ⟨off_other (off_other (off_other (cell_same h.1.1) (by decide)) (by decide)) (by decide),
    off_other (off_other (cell_same (off_other h.1.2.1 (by decide))) (by decide)) (by decide),
    off_other (cell_same (off_other (off_other h.1.2.2.1 (by decide)) (by decide))) (by decide),
    cell_same (off_other (off_other (off_other h.1.2.2.2 (by decide)) (by decide)) (by decide))⟩
/-- What holds of the stores' blocks: all blocks of `a` from `b` on are as they were. -/
def Far (b : Nat) (a c : World) : Prop := a.heap.size ≤ c.heap.size ∧ ∀ g, b ≤ g → g < a.heap.size → c.heap[g]? = a.heap[g]?
theorem Far.of {b : Nat} {a c : World} (e : Ext a c) : Far b a c := ⟨e.size, fun g _ hg => e.block g hg⟩
theorem Far.alloc {b : Nat} {a c : World} (h : Far b a c) (o : Obj) : Far b a (c.alloc o) :=
  ⟨Nat.le_trans h.1 ((Ext.refl c).alloc o).size, fun g h1 h2 => (((Ext.refl c).alloc o).block g (Nat.lt_of_lt_of_le h2 h.1)).trans (h.2 g h1 h2)⟩
theorem Far.set {b : Nat} {a c : World} (h : Far b a c) {g : Nat} (hg : g < b ∨ a.heap.size ≤ g) (j : Nat) (v : Value) : Far b a (c.setCell ⟨g, j, none⟩ v) := by
  have hne : ∀ k, b ≤ k → k < a.heap.size → k ≠ g := fun k h1 h2 => by omega
  exact ⟨by simpa using h.1, fun k h1 h2 => by rw [← h.2 k h1 h2]; exact Below.heap_setCell _ _ _ _ (hne k h1 h2)⟩
theorem Far.four {b : Nat} {a c : World} (h : Far b a c) {g : Nat} (hg : g < b ∨ a.heap.size ≤ g) (v0 v1 v2 v3 : Value) : Far b a (set4 c g v0 v1 v2 v3) :=
  (((h.set hg 0 v0).set hg 1 v1).set hg 2 v2).set hg 3 v3
theorem RO.far {b : Nat} {a c : World} {v : Value} {q : Rq} (h : RO b a v q) (k : Far b a c) : RO b c v q := let ⟨x, y, e, h1, h2⟩ := h; ⟨x, y, e, h1.kept k.2, h2.kept k.2⟩
theorem KeepE.big {w w1 : World} {x0 x1 x2 x3 y0 y1 y2 y3 : Value} (h : KeepE w x0 x1 x2 x3 y0 y1 y2 y3 w1) : w.heap.size + 2 ≤ w1.heap.size := World.block_lt_of_cell? _ _ h.2.2.1
theorem KeepE.set {w w1 : World} {x0 x1 x2 x3 y0 y1 y2 y3 : Value} (h : KeepE w x0 x1 x2 x3 y0 y1 y2 y3 w1) {g : Nat} (hg : w.heap.size + 2 ≤ g) (j : Nat) (v : Value) : KeepE w x0 x1 x2 x3 y0 y1 y2 y3 (w1.setCell ⟨g, j, none⟩ v) :=
  ⟨⟨h.1.out.set (show w.heap.size ≤ g by omega) v⟩, Four.other h.2.1 (by omega) j v, Four.other h.2.2 (by omega) j v⟩
theorem KeepE.four {w w1 : World} {x0 x1 x2 x3 y0 y1 y2 y3 : Value} (h : KeepE w x0 x1 x2 x3 y0 y1 y2 y3 w1) {g : Nat} (hg : w.heap.size + 2 ≤ g) (v0 v1 v2 v3 : Value) : KeepE w x0 x1 x2 x3 y0 y1 y2 y3 (set4 w1 g v0 v1 v2 v3) :=
  (((h.set hg 0 v0).set hg 1 v1).set hg 2 v2).set hg 3 v3
/-- Two boxes. -/
abbrev KeepD (w : World) (P Q : Nat) (x0 x1 x2 x3 y0 y1 y2 y3 : Value) (w' : World) : Prop := Aside (Ext w w') ∧ Four w' P x0 x1 x2 x3 ∧ Four w' Q y0 y1 y2 y3
theorem KeepD.ext {w : World} {P Q : Nat} {w1 w2 : World} {x0 x1 x2 x3 y0 y1 y2 y3 : Value} (e : Ext w1 w2) (h : KeepD w P Q x0 x1 x2 x3 y0 y1 y2 y3 w1) : KeepD w P Q x0 x1 x2 x3 y0 y1 y2 y3 w2 :=
  ⟨⟨h.1.out.trans e⟩, h.2.1.ext e, h.2.2.ext e⟩
theorem boxes {w1 : World} {P Q : Nat} {x0 x1 x2 x3 y0 y1 y2 y3 : Value} (hP : FitZ w1 P) (hQ : FitZ w1 Q) (hne : Q ≠ P) :
    Four (set4 (set4 w1 P x0 x1 x2 x3) Q y0 y1 y2 y3) P x0 x1 x2 x3 ∧ Four (set4 (set4 w1 P x0 x1 x2 x3) Q y0 y1 y2 y3) Q y0 y1 y2 y3 := by
  exact ⟨(set4_four hP _ _ _ _).four hne _ _ _ _, set4_four (hQ.four (fun h => hne h.symm) _ _ _ _) _ _ _ _⟩
end Go.Proofs.YtgfkachfbnbikaaGreatDoor

namespace Go.Proofs.YtgfkachfbnbikaaGreatDoor
open Go.RowKit

section
variable {P : Program} {ops : Array Oper} {Q : Exit → Act → World → Prop} {md : Region.Mode}
theorem left_set {l : Array Bool} {i : Nat} (h : l.getD i true = false) : l.countP (! ·) = (l.setIfInBounds i true).countP (! ·) + 1 := by
  have hi : i < l.size := by
    rcases Nat.lt_or_ge i l.size with h' | h'
    · exact h'
    · simp [Array.getElem?_eq_none h'] at h
  have hv : l[i] = false := by simpa [hi] using h
  have hp : 0 < l.countP (! ·) := Array.countP_pos_iff.2 ⟨l[i], Array.getElem_mem hi, by rw [hv]; rfl⟩
  simp only [Array.setIfInBounds, hi, dite_true]
  rw [Array.countP_set hi, hv]
  simp
  omega
theorem all_listed {l : Array Bool} (hord : ∀ i o, ops[i]? = some o → ∀ e ∈ o.after, Region.binds md e = true → e.on < i) (hsz : l.size = ops.size)
    (h : Region.ready md ops l = []) : ∀ i, i < ops.size → l.getD i false = true := by
  intro i
  induction i using Nat.strongRecOn with
  | ind i ih =>
    intro hi
    cases hb : l.getD i true
    · exfalso
      have hm : i ∈ Region.ready md ops l := mem_ready.2 ⟨hb, ops[i], by simp [hi], fun e he hbe => by
        have h1 := hord i ops[i] (by simp [hi]) e he hbe
        exact ih _ h1 (Nat.lt_trans h1 hi)⟩
      rw [h] at hm
      cases hm
    · simpa [hsz, hi] using hb
/-- One invariant, each operation once. -/
theorem wpAny_inv {Inv : Array Bool → Act → World → Prop} (hord : ∀ i o, ops[i]? = some o → ∀ e ∈ o.after, Region.binds md e = true → e.on < i)
    (hstep : ∀ l a w i o, ops[i]? = some o → l.getD i true = false → (∀ e ∈ o.after, Region.binds md e = true → l.getD e.on false = true) → Inv l a w → wpOp P ops Q i (Inv (l.setIfInBounds i true)) a w)
    (hend : ∀ l a w, (∀ i, i < ops.size → l.getD i false = true) → Inv l a w → Q .normal a w) :
    ∀ fuel l a w, l.size = ops.size → l.countP (! ·) = fuel → Inv l a w → wpAny P md ops Q fuel l a w
  | 0, l, a, w, hsz, hc, hI => by
    have hr : Region.ready md ops l = [] := by
      cases hr : Region.ready md ops l with
      | nil => rfl
      | cons i is =>
        have hm : i ∈ Region.ready md ops l := by rw [hr]; exact List.mem_cons_self
        have := left_set (mem_ready.1 hm).1
        omega
    exact ⟨hr, hend l a w (all_listed hord hsz hr) hI⟩
  | fuel + 1, l, a, w, hsz, hc, hI => by
    refine ⟨fun hr => hend l a w (all_listed hord hsz hr) hI, fun i hi => ?_⟩
    obtain ⟨h0, o, ho, hall⟩ := mem_ready.1 hi
    refine wpOp_mono (fun a' w' hI' => wpAny_inv hord hstep hend fuel _ a' w' (by simpa using hsz) ?_ hI') (hstep l a w i o ho h0 hall hI)
    have := left_set h0
    omega
theorem wp_region_inv {id : Nat} {a : Act} {w : World} (Inv : Array Bool → Act → World → Prop) (hm : P.follows .mixedOrders = true)
    (hord : ∀ i o, ops[i]? = some o → ∀ e ∈ o.after, Region.binds .any e = true → e.on < i)
    (hstart : Inv (Array.replicate ops.size false) a w.drew)
    (hend : ∀ l a w, (∀ i, i < ops.size → l.getD i false = true) → Inv l a w → Q .normal a w)
    (hstep : ∀ l a w i o, ops[i]? = some o → l.getD i true = false → (∀ e ∈ o.after, Region.binds .any e = true → l.getD e.on false = true) → Inv l a w → wpOp P ops Q i (Inv (l.setIfInBounds i true)) a w) :
    (Code.region id ops true).wp P Q a w :=
  wp_region_any hm (wpAny_inv hord hstep hend _ _ a _ (by simp) (by rw [← Array.countP_toList]; simp [List.countP_replicate]) hstart)
end

/-- The numbers of the operations that one waits for. -/
def needs (o : Oper) : List Nat := (o.after.toList.filter fun e => Region.binds .any e).map (·.on)
theorem mem_needs {o : Oper} {e : Edge} (he : e ∈ o.after) (hb : Region.binds .any e = true) : e.on ∈ needs o :=
  List.mem_map.2 ⟨e, List.mem_filter.2 ⟨by simpa using he, hb⟩, rfl⟩
theorem needs_mem {o : Oper} {j : Nat} (h : j ∈ needs o) : ∃ e ∈ o.after, Region.binds .any e = true ∧ e.on = j := by
  obtain ⟨e, he, rfl⟩ := List.mem_map.1 h
  obtain ⟨h1, h2⟩ := List.mem_filter.1 he
  exact ⟨e, by simpa using h1, h2, rfl⟩
def inOrder : List Oper → Nat → Bool
  | [], _ => true
  | o :: os, i => (needs o).all (fun j => decide (j < i)) && inOrder os (i + 1)
theorem inOrder_spec : ∀ (os : List Oper) (i k : Nat) (o : Oper), inOrder os i = true → os[k]? = some o → ∀ j ∈ needs o, j < i + k
  | [], _, _, _, _, h => by simp at h
  | o :: os, i, 0, o', hs, h => by
    simp only [List.getElem?_cons_zero, Option.some.injEq] at h
    subst h
    simp only [inOrder, Bool.and_eq_true, List.all_eq_true, decide_eq_true_eq] at hs
    simpa using hs.1
  | o :: os, i, k + 1, o', hs, h => by
    simp only [inOrder, Bool.and_eq_true] at hs
    have := inOrder_spec os (i + 1) k o' hs.2 (by simpa using h)
    intro j hj
    have := this j hj
    omega
inductive Each (Φ : Nat → Oper → Prop) : List Oper → Nat → Prop
  | nil {i : Nat} : Each Φ [] i
  | cons {o : Oper} {os : List Oper} {i j : Nat} (hj : j = i + 1) : Φ i o → Each Φ os j → Each Φ (o :: os) i
theorem Each.spec {Φ : Nat → Oper → Prop} : ∀ {os : List Oper} {i : Nat}, Each Φ os i → ∀ k o, os[k]? = some o → Φ (i + k) o
  | _, _, .nil, _, _, h => by simp at h
  | _, _, .cons hj h hs, 0, o, hk => by
    simp only [List.getElem?_cons_zero, Option.some.injEq] at hk
    subst hk; exact h
  | _, _, .cons hj h hs, k + 1, o, hk => by
    subst hj
    have := hs.spec k o (by simpa using hk)
    rwa [Nat.add_assoc, Nat.add_comm 1 k] at this
theorem wp_region_each {P : Program} {os : List Oper} {Q : Exit → Act → World → Prop} {id : Nat} {a : Act} {w : World} (J : Act → Array Bool → Act → World → Prop) (hm : P.follows .mixedOrders = true)
    (hord : inOrder os 0 = true)
    (hstart : J a (Array.replicate os.length false) a w.drew)
    (hend : ∀ l a' w', (∀ i, i < os.length → l.getD i false = true) → J a l a' w' → Aside (Q .normal a' w'))
    (hstep : Each (fun i o => ∀ l a' w', l.getD i true = false → (∀ j, j ∈ needs o → l.getD j false = true) → J a l a' w' →
      ∀ K' : Act → World → Prop, Shut (∀ a' w', J a (l.setIfInBounds i true) a' w' → K' a' w') → if Region.wanted o (yielded os.toArray a'.tmps) = true then Oper.wp P o a' w' K' Q else K' (a'.put o.dst undef) w') os 0) :
    (Code.region id os.toArray true).wp P Q a w := by
  refine wp_region_inv (J a) hm ?_ (by simpa using hstart) (fun l a' w' h hI => (hend l a' w' (by simpa using h) hI).out) ?_
  · intro i o ho e he hb
    have := inOrder_spec os 0 i o hord (by simpa using ho) e.on (mem_needs he hb)
    omega
  · intro l a' w' i o ho h0 hd hI
    have h := hstep.spec i o (by simpa using ho)
    rw [Nat.zero_add] at h
    exact wpOp_step ho (h l a' w' h0 (fun j hj => by
      obtain ⟨e, he, hb, rfl⟩ := needs_mem hj
      exact hd e he hb) hI)

/-- Operation number i has come up. -/
def Lst (l : Array Bool) (i : Nat) : Prop := l.getD i false = true
theorem Lst.of_set {l : Array Bool} {i j : Nat} (h : Lst (l.setIfInBounds i true) j) (hne : i ≠ j) : Lst l j := by
  unfold Lst at *; rwa [Go.getD_set_ne false hne] at h
theorem Lst.none {n i : Nat} (h : Lst (Array.replicate n false) i) : False := by
  unfold Lst at h
  by_cases hi : i < n
  · simp [hi] at h
  · simp [hi] at h
theorem Lst.not {l : Array Bool} {i : Nat} (h : Lst l i) (h0 : l.getD i true = false) : False := by
  unfold Lst at h
  rcases Nat.lt_or_ge i l.size with h' | h'
  · simp [h'] at h h0; simp [h] at h0
  · simp [Array.getElem?_eq_none h'] at h0
def upd {α : Type} (f : Nat → α) (k : Nat) (x : α) (j : Nat) : α := if j = k then x else f j
theorem upd_same {α : Type} (f : Nat → α) (k : Nat) (x : α) : upd f k x k = x := if_pos rfl
theorem upd_eta {α : Type} {f : Nat → α} {k : Nat} {x : α} (h : f k = x) : ∃ g, f = upd g k x := ⟨f, funext fun j => by unfold upd; split <;> simp_all⟩
theorem upd_ne {α : Type} (f : Nat → α) {k j : Nat} (x : α) (h : j ≠ k) : upd f k x j = f j := if_neg h
/-- A box that may be stored into; a box that holds a Rat. -/
def Fit4 (w : World) (g : Nat) : Prop := ∃ x0 x1 x2 x3, Four w g x0 x1 x2 x3 ∧ w.frozen? ⟨g, 0, none⟩ = false ∧ w.frozen? ⟨g, 1, none⟩ = false ∧ w.frozen? ⟨g, 2, none⟩ = false ∧ w.frozen? ⟨g, 3, none⟩ = false
def Holds (w : World) (g : Nat) (v : Value) : Prop := ∃ x0 x1 x2 x3, v = .agg #[x0, x1, x2, x3] ∧ Four w g x0 x1 x2 x3
theorem Fit4.lt {w : World} {g : Nat} (h : Fit4 w g) : g < w.heap.size := let ⟨_, _, _, _, h, _⟩ := h; World.block_lt_of_cell? w _ h.1
theorem Fit4.ext {a b : World} (e : Ext a b) {g : Nat} (h : Fit4 a g) : Fit4 b g := by
  have hg := h.lt
  obtain ⟨x0, x1, x2, x3, h, f0, f1, f2, f3⟩ := h
  exact ⟨x0, x1, x2, x3, h.ext e, (e.frees g 0 hg).trans f0, (e.frees g 1 hg).trans f1, (e.frees g 2 hg).trans f2, (e.frees g 3 hg).trans f3⟩
theorem Fit4.of {w : World} {g : Nat} (h : FitZ w g) : Fit4 w g := ⟨_, _, _, _, h.1, h.2⟩
theorem set4_same {w : World} {g : Nat} {y0 y1 y2 y3 : Value} (h : Four w g y0 y1 y2 y3) (v0 v1 v2 v3 : Value) : Four (set4 w g v0 v1 v2 v3) g v0 v1 v2 v3 :=
  ⟨off_other (off_other (off_other (cell_same h.1) (by decide)) (by decide)) (by decide),
    off_other (off_other (cell_same (off_other h.2.1 (by decide))) (by decide)) (by decide),
    off_other (cell_same (off_other (off_other h.2.2.1 (by decide)) (by decide))) (by decide),
    cell_same (off_other (off_other (off_other h.2.2.2 (by decide)) (by decide)) (by decide))⟩
theorem Fit4.four {w : World} {g g' : Nat} (h : Fit4 w g) (v0 v1 v2 v3 : Value) : Fit4 (set4 w g' v0 v1 v2 v3) g := by
  obtain ⟨x0, x1, x2, x3, h, f0, f1, f2, f3⟩ := h
  by_cases hne : g' = g
  · subst hne
    exact ⟨v0, v1, v2, v3, set4_same h _ _ _ _, by simp [set4, World.frozen?_setCell, f0], by simp [set4, World.frozen?_setCell, f1], by simp [set4, World.frozen?_setCell, f2], by simp [set4, World.frozen?_setCell, f3]⟩
  · exact ⟨x0, x1, x2, x3, h.four hne _ _ _ _, by simp [set4, World.frozen?_setCell, f0], by simp [set4, World.frozen?_setCell, f1], by simp [set4, World.frozen?_setCell, f2], by simp [set4, World.frozen?_setCell, f3]⟩
theorem Holds.ext {a b : World} (e : Ext a b) {g : Nat} {v : Value} (h : Holds a g v) : Holds b g v := let ⟨x0, x1, x2, x3, h, k⟩ := h; ⟨x0, x1, x2, x3, h, k.ext e⟩
theorem Holds.four {w : World} {g g' : Nat} {v : Value} (h : Holds w g v) (hne : g' ≠ g) (v0 v1 v2 v3 : Value) : Holds (set4 w g' v0 v1 v2 v3) g v :=
  let ⟨x0, x1, x2, x3, h, k⟩ := h; ⟨x0, x1, x2, x3, h, k.four hne _ _ _ _⟩
theorem Far.ext {b : Nat} {a c d : World} (h : Far b a c) (e : Ext c d) : Far b a d :=
  ⟨Nat.le_trans h.1 e.size, fun g h1 h2 => (e.block g (Nat.lt_of_lt_of_le h2 h.1)).trans (h.2 g h1 h2)⟩
/-- What is asked of the part of the world that the region reads. -/
structure Lasts (K : World → Prop) (lo : Nat) : Prop where
  ext : ∀ w w', Ext w w' → K w → K w'
  four : ∀ w g v0 v1 v2 v3, lo ≤ g → K w → K (set4 w g v0 v1 v2 v3)
/-- The statement 'x, y, .. := f(a), f(b), ..' for Rats: loads and calls by turns, then the boxes, then the stores; in whatever order. -/
structure InvN (n : Nat) (l : Array Bool) (K : World → Prop) (lo : Nat) (ag : Nat → Value) (q : Nat → Rq) (vl vc vb : Nat → Value) (P : Nat → Nat) (w : World) : Prop where
  keep : K w
  size : lo ≤ w.heap.size
  load : ∀ k, k < n → Lst l (2 * k) → vl k = ag k
  call : ∀ k, k < n → Lst l (2 * k + 1) → ∃ b w1, RO b w1 (vc k) (q k) ∧ Far b w1 w ∧ ∀ j, j < n → Lst l (2 * n + j) → P j < b ∨ w1.heap.size ≤ P j
  box : ∀ k, k < n → Lst l (2 * n + k) → vb k = .pointer (some ⟨P k, 0, none⟩) ∧ lo ≤ P k ∧ Fit4 w (P k)
  ne : ∀ k, k < n → ∀ j, j < n → k ≠ j → Lst l (2 * n + k) → Lst l (2 * n + j) → P k ≠ P j
  full : ∀ k, k < n → Lst l (3 * n + k) → Lst l (2 * n + k) ∧ Lst l (2 * k + 1) ∧ Holds w (P k) (vc k)
namespace InvN
variable {n : Nat} {l : Array Bool} {K : World → Prop} {lo : Nat} {ag : Nat → Value} {q : Nat → Rq} {vl vc vb : Nat → Value} {P : Nat → Nat} {w : World}
theorem start {m : Nat} (hk : K w) (hs : lo ≤ w.heap.size) : InvN n (Array.replicate m false) K lo ag q vl vc vb P w :=
  ⟨hk, hs, fun _ _ h => h.none.elim, fun _ _ h => h.none.elim, fun _ _ h => h.none.elim, fun _ _ _ _ _ h => h.none.elim, fun _ _ h => h.none.elim⟩
theorem loads (I : InvN n l K lo ag q vl vc vb P w) (k : Nat) (hk : k < n) : InvN n (l.setIfInBounds (2 * k) true) K lo ag q (upd vl k (ag k)) vc vb P w where
  keep := I.keep
  size := I.size
  load j hj h := by
    by_cases e : j = k
    · subst e; exact upd_same _ _ _
    · rw [upd_ne _ _ e]; exact I.load j hj (h.of_set (by omega))
  call j hj h := by
    obtain ⟨b, w1, h1, h2, h3⟩ := I.call j hj (h.of_set (by omega))
    exact ⟨b, w1, h1, h2, fun i hi hl => h3 i hi (hl.of_set (by omega))⟩
  box j hj h := I.box j hj (h.of_set (by omega))
  ne j hj i hi hne h h' := I.ne j hj i hi hne (h.of_set (by omega)) (h'.of_set (by omega))
  full j hj h := by
    obtain ⟨h1, h2, h3⟩ := I.full j hj (h.of_set (by omega))
    exact ⟨getD_set_true h1, getD_set_true h2, h3⟩
theorem calls (I : InvN n l K lo ag q vl vc vb P w) (L : Lasts K lo) (k : Nat) (hk : k < n) (h0 : l.getD (2 * k + 1) true = false) {w' : World} {r : Value} (e : Ext w w') (hr : RO w.heap.size w' r (q k)) :
    InvN n (l.setIfInBounds (2 * k + 1) true) K lo ag q vl (upd vc k r) vb P w' where
  keep := L.ext _ _ e I.keep
  size := Nat.le_trans I.size e.size
  load j hj h := I.load j hj (h.of_set (by omega))
  call j hj h := by
    by_cases ej : j = k
    · subst ej
      refine ⟨_, w', by rw [upd_same]; exact hr, Far.of (Ext.refl _), fun i hi hl => ?_⟩
      exact .inl (I.box i hi (hl.of_set (by omega))).2.2.lt
    · obtain ⟨b, w1, h1, h2, h3⟩ := I.call j hj (h.of_set (by omega))
      exact ⟨b, w1, by rw [upd_ne _ _ ej]; exact h1, h2.ext e, fun i hi hl => h3 i hi (hl.of_set (by omega))⟩
  box j hj h := by
    obtain ⟨h1, h2, h3⟩ := I.box j hj (h.of_set (by omega))
    exact ⟨h1, h2, h3.ext e⟩
  ne j hj i hi hne h h' := I.ne j hj i hi hne (h.of_set (by omega)) (h'.of_set (by omega))
  full j hj h := by
    obtain ⟨h1, h2, h3⟩ := I.full j hj (h.of_set (by omega))
    have ej : j ≠ k := fun ej => by subst ej; exact h2.not h0
    exact ⟨getD_set_true h1, getD_set_true h2, by rw [upd_ne _ _ ej]; exact h3.ext e⟩
theorem allocs (I : InvN n l K lo ag q vl vc vb P w) (L : Lasts K lo) (k : Nat) (hk : k < n) (h0 : l.getD (2 * n + k) true = false) :
    InvN n (l.setIfInBounds (2 * n + k) true) K lo ag q vl vc (upd vb k (.pointer (some ⟨w.heap.size, 0, none⟩))) (upd P k w.heap.size) (w.alloc (.cells #[.int .i64 0, .bool false, .slice none 0 0, .slice none 0 0] 26)) where
  keep := L.ext _ _ ((Ext.refl w).alloc _) I.keep
  size := Nat.le_trans I.size ((Ext.refl w).alloc _).size
  load j hj h := I.load j hj (h.of_set (by omega))
  call j hj h := by
    obtain ⟨b, w1, h1, h2, h3⟩ := I.call j hj (h.of_set (by omega))
    refine ⟨b, w1, h1, h2.alloc _, fun i hi hl => ?_⟩
    by_cases e : i = k
    · subst e; rw [upd_same]; exact .inr h2.1
    · rw [upd_ne _ _ e]; exact h3 i hi (hl.of_set (by omega))
  box j hj h := by
    by_cases e : j = k
    · subst e; rw [upd_same, upd_same]; exact ⟨rfl, I.size, Fit4.of (FitZ.new w rfl)⟩
    · rw [upd_ne _ _ e, upd_ne _ _ e]
      obtain ⟨h1, h2, h3⟩ := I.box j hj (h.of_set (by omega))
      exact ⟨h1, h2, h3.ext ((Ext.refl w).alloc _)⟩
  ne j hj i hi hne h h' := by
    by_cases e : j = k
    · subst e
      rw [upd_same, upd_ne _ _ (fun e => hne e.symm)]
      have := (I.box i hi (h'.of_set (by omega))).2.2.lt
      omega
    · rw [upd_ne _ _ e]
      by_cases e' : i = k
      · subst e'
        rw [upd_same]
        have := (I.box j hj (h.of_set (by omega))).2.2.lt
        omega
      · rw [upd_ne _ _ e']
        exact I.ne j hj i hi hne (h.of_set (by omega)) (h'.of_set (by omega))
  full j hj h := by
    obtain ⟨h1, h2, h3⟩ := I.full j hj (h.of_set (by omega))
    have e : j ≠ k := fun e => by subst e; exact h1.not h0
    exact ⟨getD_set_true h1, getD_set_true h2, by rw [upd_ne _ _ e]; exact h3.ext ((Ext.refl w).alloc _)⟩
theorem stores (I : InvN n l K lo ag q vl vc vb P w) (L : Lasts K lo) (k : Nat) (hk : k < n) (hb : Lst l (2 * n + k)) (hc : Lst l (2 * k + 1)) {x0 x1 x2 x3 : Value} (hv : vc k = .agg #[x0, x1, x2, x3]) :
    InvN n (l.setIfInBounds (3 * n + k) true) K lo ag q vl vc vb P (set4 w (P k) x0 x1 x2 x3) where
  keep := L.four _ _ _ _ _ _ (I.box k hk hb).2.1 I.keep
  size := by simpa [set4] using I.size
  load j hj h := I.load j hj (h.of_set (by omega))
  call j hj h := by
    obtain ⟨b, w1, h1, h2, h3⟩ := I.call j hj (h.of_set (by omega))
    exact ⟨b, w1, h1, h2.four (h3 k hk hb) _ _ _ _, fun i hi hl => h3 i hi (hl.of_set (by omega))⟩
  box j hj h := by
    obtain ⟨h1, h2, h3⟩ := I.box j hj (h.of_set (by omega))
    exact ⟨h1, h2, h3.four _ _ _ _⟩
  ne j hj i hi hne h h' := I.ne j hj i hi hne (h.of_set (by omega)) (h'.of_set (by omega))
  full j hj h := by
    by_cases e : j = k
    · subst e
      obtain ⟨y0, y1, y2, y3, hf, _⟩ := (I.box j hj hb).2.2
      exact ⟨getD_set_true hb, getD_set_true hc, x0, x1, x2, x3, hv, set4_same hf _ _ _ _⟩
    · have hl := h.of_set (by omega)
      obtain ⟨h1, h2, h3⟩ := I.full j hj hl
      exact ⟨getD_set_true h1, getD_set_true h2, h3.four (I.ne k hk j hj (fun e' => e e'.symm) hb h1) _ _ _ _⟩
/-- What holds at the end. -/
theorem done (I : InvN n l K lo ag q vl vc vb P w) (hl : ∀ i, i < 4 * n → Lst l i) :
    K w ∧ (∀ k, k < n → vb k = .pointer (some ⟨P k, 0, none⟩) ∧ lo ≤ P k ∧ Holds w (P k) (vc k) ∧ RR w (vc k) (q k)) := by
  refine ⟨I.keep, fun k hk => ?_⟩
  obtain ⟨h1, h2, _⟩ := I.box k hk (hl _ (by omega))
  obtain ⟨b, w1, h3, h4, _⟩ := I.call k hk (hl _ (by omega))
  exact ⟨h1, h2, (I.full k hk (hl _ (by omega))).2.2, (h3.far h4).rr⟩
end InvN
theorem Holds.rr {w : World} {g : Nat} {v : Value} {q : Rq} (h : Holds w g v) (hr : RR w v q) :
    ∃ A c B d, v = .agg #[.int .i64 q.f, .bool q.neg, .slice A q.num.length c, .slice B q.den.length d] ∧ Four w g (.int .i64 q.f) (.bool q.neg) (.slice A q.num.length c) (.slice B q.den.length d) := by
  obtain ⟨x0, x1, x2, x3, e, h4⟩ := h
  obtain ⟨A, c, B, d, rfl⟩ := hr.form
  injection e with e
  simp only [Array.mk.injEq, List.cons.injEq, and_true] at e
  obtain ⟨rfl, rfl, rfl, rfl⟩ := e
  exact ⟨A, c, B, d, rfl, h4⟩
def two {α : Type} (x y : α) : Nat → α
  | 0 => x
  | _ => y
theorem two0 {α : Type} (x y : α) : two x y 0 = x := rfl
theorem two1 {α : Type} (x y : α) : two x y 1 = y := rfl
/-- Four boxes. -/
abbrev K4 (w : World) (P Q R S : Nat) (a0 a1 a2 a3 b0 b1 b2 b3 c0 c1 c2 c3 d0 d1 d2 d3 : Value) (w' : World) : Prop :=
  Aside (Ext w w') ∧ Four w' P a0 a1 a2 a3 ∧ Four w' Q b0 b1 b2 b3 ∧ Four w' R c0 c1 c2 c3 ∧ Four w' S d0 d1 d2 d3
theorem K4.ext {w w1 w2 : World} {P Q R S : Nat} {a0 a1 a2 a3 b0 b1 b2 b3 c0 c1 c2 c3 d0 d1 d2 d3 : Value} (e : Ext w1 w2) (h : K4 w P Q R S a0 a1 a2 a3 b0 b1 b2 b3 c0 c1 c2 c3 d0 d1 d2 d3 w1) : K4 w P Q R S a0 a1 a2 a3 b0 b1 b2 b3 c0 c1 c2 c3 d0 d1 d2 d3 w2 :=
  ⟨⟨h.1.out.trans e⟩, h.2.1.ext e, h.2.2.1.ext e, h.2.2.2.1.ext e, h.2.2.2.2.ext e⟩
theorem KeepB.four {w w' : World} {x0 x1 x2 x3 : Value} (h : KeepB w x0 x1 x2 x3 w') : Four w' w.heap.size x0 x1 x2 x3 := h.2
/-- The zero Rat, whatever its lists' arrays are. -/
theorem zero_len {w : World} {A B : Option Addr} {c d : Nat} :
    Calls Tryz.prog 22 #[.agg #[.int .i64 0, .bool false, .slice A 0 c, .slice B 0 d]] w fun e w' => e = .returned (.bool true) ∧ Ext w w' := by
  go_enter Tryz.func22, Tryz.ntmps22
  go_wp2
  go_ret
  exact ⟨by simp, (Ext.refl w).alloc _⟩
theorem good2 {F : FuncId} {args : Array Value} {w : World} {m : Rq × Int} {q : Rq} (h : Calls Tryz.prog F args w fun e w' => ∃ r, e = .returned (.tuple #[r, .int .i64 m.2]) ∧ RO w.heap.size w' r m.1 ∧ Ext w w') (hm : m = (q, 0)) :
    Calls Tryz.prog F args w fun e w' => ∃ r, e = .returned (.tuple #[r, .int .i64 0]) ∧ RO w.heap.size w' r q ∧ Ext w w' := by
  subst hm; exact h
theorem bad2 {F : FuncId} {args : Array Value} {w : World} {m : Rq × Int} (h : Calls Tryz.prog F args w fun e w' => ∃ r, e = .returned (.tuple #[r, .int .i64 m.2]) ∧ RO w.heap.size w' r m.1 ∧ Ext w w') (hm : m = (fq 0, 5)) :
    Calls Tryz.prog F args w fun e w' => ∃ A c B d, e = .returned (.tuple #[.agg #[.int .i64 0, .bool false, .slice A 0 c, .slice B 0 d], .int .i64 5]) ∧ Ext w w' := by
  subst hm
  refine h.mono ?_
  rintro e w' ⟨r, rfl, hr, he⟩
  obtain ⟨A, c, B, d, rfl⟩ := hr.form
  exact ⟨A, c, B, d, rfl, he⟩
theorem madeq_good {a b res q : Rq} (ka : okq a = true) (kb : okq b = true) (hq : (madeq a b res).1 = q) : madeq a b res = (q, 0) := by
  rw [← hq]; unfold madeq; rw [ka, kb]; rfl
theorem madeq_bad {a b res : Rq} (h : (okq a && okq b) = false) : madeq a b res = (fq 0, 5) := by
  unfold madeq; rw [h]; rfl
end Go.Proofs.YtgfkachfbnbikaaGreatDoor
