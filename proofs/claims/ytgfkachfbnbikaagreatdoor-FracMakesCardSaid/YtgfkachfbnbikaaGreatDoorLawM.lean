/- The law FracMakes: it returns true. -/
import Derived.Test.YtgfkachfbnbikaaGreatDoorRef2C
import Derived.Test.YtgfkachfbnbikaaGreatDoorAlive
import Derived.Deep.RegionHeld
namespace Go.Proofs.YtgfkachfbnbikaaGreatDoor
open Go.RowKit

/-- A box of two cells. -/
abbrev KeepT (w : World) (x0 x1 : Value) (w' : World) : Prop :=
  Aside (Ext w w') ∧ w'.cell? ⟨w.heap.size, 0, none⟩ = some x0 ∧ w'.cell? ⟨w.heap.size, 1, none⟩ = some x1
theorem KeepT.ext {w w1 w2 : World} {x0 x1 : Value} (e : Ext w1 w2) (h : KeepT w x0 x1 w1) : KeepT w x0 x1 w2 := ⟨⟨h.1.out.trans e⟩, e.cell h.2.1, e.cell h.2.2⟩
theorem KeepT.init (w : World) (x0 x1 : Value) (t : TypeId) : KeepT w x0 x1 (w.alloc (.cells #[x0, x1] t)) := ⟨⟨(Ext.refl w).alloc _⟩, cell_new rfl rfl, cell_new rfl rfl⟩

theorem RV.eq {w : World} {v : Value} {xs ys : List Nat} (h : RV w v xs) (e : xs = ys) : RV w v ys := e ▸ h
theorem cut516 {w : World} {u : Value} {xs ys : List Nat} (hu : RL w u xs) (hy : xs.take 516 = ys) :
    Calls Tryz.prog 19 #[u, .int .i64 516] w fun e w' => ∃ r, e = .returned r ∧ OV w.heap.size w' r ys ∧ Ext w w' := cut_calls (most := 516) hu rfl (by decide) hy
theorem make_good {w : World} {neg : Bool} {x y : Value} {xs ys : List Nat} {q : Rq} (hx : RV w x xs) (hy : RV w y ys) (h1 : natErr xs = 0) (h2 : natErr ys = 0) (hq : ratio neg (val xs) (val ys) = q) :
    Calls Tryz.prog 20 #[.bool neg, x, y] w fun e w' => ∃ r, e = .returned (.tuple #[r, .int .i64 0]) ∧ RO w.heap.size w' r q ∧ Ext w w' := by
  subst hq
  refine (Make_calls hx hy).mono ?_
  rintro e w' ⟨h, he⟩
  rw [if_pos ⟨h1, h2⟩] at h
  obtain ⟨r, h1, h2⟩ := h
  exact ⟨r, h1, h2, he⟩
theorem make_bad {w : World} {neg : Bool} {x y : Value} {xs ys : List Nat} (hx : RV w x xs) (hy : RV w y ys) (h : ¬ (natErr xs = 0 ∧ natErr ys = 0)) :
    Calls Tryz.prog 20 #[.bool neg, x, y] w fun e w' => e = .returned (.tuple #[.agg #[.int .i64 0, .bool false, .slice none 0 0, .slice none 0 0], .int .i64 5]) ∧ Ext w w' := by
  refine (Make_calls hx hy).mono ?_
  rintro e w' ⟨h', he⟩
  rw [if_neg h] at h'
  exact ⟨h', he⟩

set_option maxRecDepth 10000 in
set_option maxHeartbeats 4000000 in
theorem makes_calls {w : World} {n d : Int} {neg : Bool} {s0 s1 : Value} {xs ys : List Nat} (hg : Glob w) (n1 : -9223372036854775808 ≤ n) (n2 : n ≤ 9223372036854775807) (d1 : -9223372036854775808 ≤ d) (d2 : d ≤ 9223372036854775807) (hx : RL w s0 xs) (hy : RL w s1 ys) :
    Calls Tryz.prog 3 #[.int .i64 n, .int .i64 d, .bool neg, .agg #[s0, s1]] w fun e w' => e = .returned (.bool true) ∧ Ext w w' := by
  have HG := Aside.mk hg
  have N1 := Aside.mk n1
  have N2 := Aside.mk n2
  have D1 := Aside.mk d1
  have D2 := Aside.mk d2
  have HX := Aside.mk hx
  have HY := Aside.mk hy
  obtain ⟨q, hq⟩ : ∃ q, ratio (decide (n < 0) != decide (d < 0)) n.natAbs d.natAbs = q := ⟨_, rfl⟩
  have HQ := Aside.mk hq
  obtain ⟨AX, cx, rfl, _⟩ := hx
  obtain ⟨AY, cy, rfl, _⟩ := hy
  have hk0 := KeepT.init w (.slice AX xs.length cx) (.slice AY ys.length cy) 23
  clear hg n1 n2 d1 d2 hq
  go_enter Tryz.func3, Tryz.ntmps3
  go_wp2_with (go_at_call 16; with_reducible refine (Of_calls N1.out N2.out D1.out D2.out).mono ?_; rw [HQ.out]; rintro e w1 ⟨r, rfl, hr, he⟩; have HT1 := Aside.mk (Ext.trans (Aside.out (And.left hk0)) he); have HR1 := Aside.mk hr.rr; obtain ⟨A1, c1, B1, d1, rfl⟩ := hr.form; have hk1 := KeepT.ext he hk0; clear hk0 hr he)
  have hb1 := KeepB.init w1 (.int .i64 q.f) (.bool q.neg) (.slice A1 q.num.length c1) (.slice B1 q.den.length d1) 26
  have hb1' := KeepB.ext (Ext.refl _).drew hb1
  go_region_held (fun w' => KeepB w1 (.int .i64 q.f) (.bool q.neg) (.slice A1 q.num.length c1) (.slice B1 q.den.length d1) w') (first | assumption | exact KeepB.ext (by assumption) (by assumption)) (first | (go_at_call 18; with_reducible refine (rOf_calls N1.out N2.out D1.out D2.out HQ.out).mono ?_; rintro e w2 ⟨r, rfl, hr, he2⟩; have HR2 := Aside.mk hr.rr; obtain ⟨A2, c2, B2, d2, rfl⟩ := hr.form; clear hr) | (go_at_call 17; with_reducible refine (gives_same (HR1.out.ext (Aside.out (And.left (show KeepB w1 (.int .i64 q.f) (.bool q.neg) (.slice A1 q.num.length c1) (.slice B1 q.den.length d1) _ from by assumption)))) HR2.out).mono ?_; rintro e w3 ⟨rfl, he3⟩))
  have hb3 := KeepB.ext he3 (KeepB.ext he2 hb1')
  have hk3 := KeepT.ext hb3.1.out hk1
  have HT3 := Aside.mk (HT1.out.trans hb3.1.out)
  have hk3' := KeepT.ext (Ext.refl _).drew hk3
  clear hb1 hb1' hb3 hk1 he2 he3
  obtain ⟨la, hla⟩ : ∃ l, xs.take 516 = l := ⟨_, rfl⟩
  obtain ⟨lb, hbs⟩ : ∃ l, ys.take 516 = l := ⟨_, rfl⟩
  have HAS := Aside.mk hla
  have HBS := Aside.mk hbs
  clear hla hbs
  go_wp2
  go_region_held (fun w' => KeepT w (.slice AX xs.length cx) (.slice AY ys.length cy) w') (first | assumption | exact KeepT.ext (by assumption) (by assumption)) (first | (go_at_call 19; with_reducible refine (cut516 (HX.out.ext (Aside.out (And.left (show KeepT w (.slice AX xs.length cx) (.slice AY ys.length cy) _ from by assumption)))) HAS.out).mono ?_; rintro e w4 ⟨r, rfl, hc1, he4⟩; obtain ⟨A3, c3, rfl, _⟩ := hc1.form) | (go_at_call 19; with_reducible refine (cut516 (HY.out.ext (Aside.out (And.left (show KeepT w (.slice AX xs.length cx) (.slice AY ys.length cy) _ from by assumption)))) HBS.out).mono ?_; rintro e w5 ⟨r, rfl, hc2, he5⟩; obtain ⟨A4, c4, rfl, _⟩ := hc2.form))
  have HC1 := Aside.mk (hc1.rv.ext he5)
  have HC2 := Aside.mk hc2.rv
  have HDA := Aside.mk hc1.1.2
  have HDB := Aside.mk hc2.1.2
  have HT5 := Aside.mk (HT3.out.drew.trans (he4.trans he5))
  clear hc1 hc2 he4 he5 hk3 hk3'
  by_cases hgood : natErr la = 0 ∧ natErr lb = 0
  · have HG1 := Aside.mk hgood.1
    have HG2 := Aside.mk hgood.2
    have HBE : Aside (bothErr la lb = 0) := ⟨by unfold bothErr; rw [if_pos hgood.1]; exact hgood.2⟩
    obtain ⟨p, hp⟩ : ∃ p, ratio neg (val la) (val lb) = p := ⟨_, rfl⟩
    have HP := Aside.mk hp
    have HNA := Aside.mk (natErr_zero HDA.out hgood.1)
    have HNB := Aside.mk (natErr_zero HDB.out hgood.2)
    clear hgood hp
    go_wp2_with (first | (go_at_call 20; with_reducible refine (make_good HC1.out HC2.out HG1.out HG2.out HP.out).mono ?_; rintro e w6 ⟨r, rfl, hr, he⟩; have HR6 := Aside.mk hr.rr; obtain ⟨A6, c6, B6, d6, rfl⟩ := hr.form; have hb6 := KeepB.init w6 (.int .i64 p.f) (.bool p.neg) (.slice A6 p.num.length c6) (.slice B6 p.den.length d6) 26; have HT6 := Aside.mk (HT5.out.trans he); have HD1 := Aside.mk ((HC1.out.ext he).eq HNA.out.2); have HD2 := Aside.mk ((HC2.out.ext he).eq HNB.out.2); have HC1' := Aside.mk (HC1.out.ext (he.trans (Aside.out (And.left hb6)))); have HC2' := Aside.mk (HC2.out.ext (he.trans (Aside.out (And.left hb6)))); clear hr he) | (go_at_call 21; with_reducible refine (both_calls HC1'.out HC2'.out).mono ?_; rw [HBE.out]; rintro e w' ⟨rfl, rfl⟩))
    have HLA : Aside ((dig (val la)).length < 1073741824) := ⟨by have := HNA.out; rw [← this.2]; omega⟩
    have HLB : Aside ((dig (val lb)).length < 1073741824) := ⟨by have := HNB.out; rw [← this.2]; omega⟩
    have hb7 := KeepB.ext (Ext.refl _).drew hb6
    clear HC1' HC2'
    go_region_held (fun w' => KeepB w6 (.int .i64 p.f) (.bool p.neg) (.slice A6 p.num.length c6) (.slice B6 p.den.length d6) w') (first | assumption | exact KeepB.ext (by assumption) (by assumption)) (first | (go_at_call 24; with_reducible refine (rratio_calls (HD1.out.ext (Aside.out (And.left (show KeepB w6 (.int .i64 p.f) (.bool p.neg) (.slice A6 p.num.length c6) (.slice B6 p.den.length d6) _ from by assumption)))) (HD2.out.ext (Aside.out (And.left (show KeepB w6 (.int .i64 p.f) (.bool p.neg) (.slice A6 p.num.length c6) (.slice B6 p.den.length d6) _ from by assumption)))) HLA.out HLB.out HP.out).mono ?_; rintro e w7 ⟨r, rfl, hr, he7⟩; have HR7 := Aside.mk hr.rr; obtain ⟨A7, c7, B7, d7, rfl⟩ := hr.form; clear hr) | (go_at_call 17; with_reducible refine (gives_same (HR6.out.ext (Aside.out (And.left (show KeepB w6 (.int .i64 p.f) (.bool p.neg) (.slice A6 p.num.length c6) (.slice B6 p.den.length d6) _ from by assumption)))) HR7.out).mono ?_; rintro e w8 ⟨rfl, he8⟩) | (go_at_call 23; with_reducible refine (alive_calls (HG.out.ext (HT6.out.trans (Aside.out (And.left (show KeepB w6 (.int .i64 p.f) (.bool p.neg) (.slice A6 p.num.length c6) (.slice B6 p.den.length d6) _ from by assumption)))))).mono ?_; rintro e w9 ⟨rfl, he9⟩))
    have hb9 := KeepB.ext he9 (KeepB.ext he8 (KeepB.ext he7 hb7))
    have HE := Aside.mk (HT6.out.trans hb9.1.out)
    clear hb7 hb9 he7 he8 he9
    go_wp2
    go_ret
    exact ⟨rfl, HE.out⟩
  · have HGB := Aside.mk hgood
    have hbe : ∃ m, bothErr la lb = m ∧ m ≠ 0 := ⟨_, rfl, by unfold bothErr; intro h; apply hgood; split at h <;> omega⟩
    obtain ⟨m, hm, hm0⟩ := hbe
    have HBE := Aside.mk hm
    have hm1 : ((m : Int) == 0) = false := beq_eq_false_iff_ne.2 (by omega)
    have hm2 : ((m : Int) != 0) = true := by simp [bne, hm1]
    clear hgood hm hm0
    go_wp2_with (first | (go_at_call 20; with_reducible refine (make_bad HC1.out HC2.out HGB.out).mono ?_; rintro e w6 ⟨rfl, he⟩; have hb6 := KeepB.init w6 (.int .i64 0) (.bool false) (.slice none 0 0) (.slice none 0 0) 26; have HT6 := Aside.mk ((HT5.out.trans he).trans (Aside.out (And.left hb6))); have HC1' := Aside.mk (HC1.out.ext (he.trans (Aside.out (And.left hb6)))); have HC2' := Aside.mk (HC2.out.ext (he.trans (Aside.out (And.left hb6)))); clear he) | (go_at_call 21; with_reducible refine (both_calls HC1'.out HC2'.out).mono ?_; rw [HBE.out]; rintro e w' ⟨rfl, rfl⟩) | (go_at_call 22; with_reducible refine zero_true.mono ?_; rintro e w7 ⟨rfl, he⟩; have HT7 := Aside.mk (HT6.out.trans he); clear he) | (go_at_call 23; with_reducible refine (alive_calls (HG.out.ext HT7.out)).mono ?_; rintro e w8 ⟨rfl, he⟩; have HE := Aside.mk (HT7.out.trans he); clear he))
    go_ret
    exact ⟨rfl, HE.out⟩
end Go.Proofs.YtgfkachfbnbikaaGreatDoor
