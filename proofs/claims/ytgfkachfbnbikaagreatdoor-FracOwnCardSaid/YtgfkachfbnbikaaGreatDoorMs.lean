/- Contracts of package frac: the closures of Less and Same. Contracts of package frac: asked, Same; the closure of Same. Contracts: Same of package frac and of package fluxionref02; Equal of package fluxionref02, of any two Rats. Contracts: Same, Less of package fluxionref02; Same of package frac. Contracts: Less of package fluxionref02 and of package frac. -/
import Derived.Test.YtgfkachfbnbikaaGreatDoorMq
import Derived.Test.YtgfkachfbnbikaaGreatDoorMn
import Derived.Test.YtgfkachfbnbikaaGreatDoorMi
import Derived.Test.YtgfkachfbnbikaaGreatDoorMr
namespace Go.Proofs.YtgfkachfbnbikaaGreatDoor
open Go.RowKit

/-- Is a number less than another one: with the products of the numerators and the other denominators. -/
def lessq (n1 : Bool) (p : Nat) (n2 : Bool) (r : Nat) : Bool := if n1 = n2 then (if n1 = true then decide (r < p) else decide (p < r)) else n1
theorem less_ssum {n1 n2 : Bool} {x y c d : Nat} (hx : n1 = true → 0 < x) (hc : n2 = true → 0 < c) (hy : 0 < y) (hd : 0 < d) {s : Bool} {m : Nat} (hs : ssum n1 (x * d) (!n2 && decide (0 < c)) (c * y) = (s, m)) :
    (s && decide (0 < m)) = lessq n1 (x * d) n2 (c * y) := by
  have h1 : n1 = true → 0 < x * d := fun h => Nat.mul_pos (hx h) hd
  have h2 : 0 < c → 0 < c * y := fun h => Nat.mul_pos h hy
  have h3 : c = 0 → c * y = 0 := fun h => by rw [h, Nat.zero_mul]
  generalize x * d = p at *
  generalize c * y = r at *
  unfold ssum at hs
  unfold lessq
  rcases Nat.eq_zero_or_pos c with h0 | h0
  · have hr := h3 h0
    have hn2 : n2 = false := by cases n2; rfl; exact absurd (hc rfl) (by omega)
    subst hn2 hr
    rw [decide_eq_false (show ¬ 0 < c by omega)] at hs
    cases n1
    · simp at hs; rw [hs.1]; simp
    · have := h1 rfl
      rw [if_neg (by simp), if_neg (by omega)] at hs
      injection hs with e1 e2
      subst e1 e2
      simp; omega
  · rw [decide_eq_true h0, Bool.and_true] at hs
    have hr := h2 h0
    cases n1
    · cases n2
      · rw [if_neg (by simp)] at hs
        by_cases hlt : p < r
        · rw [if_pos hlt] at hs
          injection hs with e1 e2
          subst e1 e2
          simp [hlt]; omega
        · rw [if_neg hlt] at hs
          injection hs with e1 e2
          subst e1 e2
          simp; omega
      · rw [if_pos (by simp)] at hs
        injection hs with e1 e2
        subst e1 e2
        simp
    · have hp := h1 rfl
      cases n2
      · rw [if_pos (by simp)] at hs
        injection hs with e1 e2
        subst e1 e2
        simp; omega
      · rw [if_neg (by simp)] at hs
        by_cases hlt : p < r
        · rw [if_pos hlt] at hs
          injection hs with e1 e2
          subst e1 e2
          simp; omega
        · rw [if_neg hlt] at hs
          injection hs with e1 e2
          subst e1 e2
          by_cases hpr : r < p
          · simp [hpr]; omega
          · simp [hpr]; omega

/-- A box of two cells that may be stored into. -/
abbrev Box2 (w : World) (g : Nat) : Prop := Fits w ⟨g, 0, none⟩ ∧ Fits w ⟨g, 1, none⟩
theorem Box2.ext {a b : World} (e : Ext a b) {g : Nat} (h : Box2 a g) : Box2 b g := ⟨h.1.ext e, h.2.ext e⟩
theorem Box2.fresh {w1 w2 : World} {n : Nat} (e : Ext (w1.alloc (.cells #[.bool false, .slice none 0 0] 76)) w2) (hn : w1.heap.size = n) : Box2 w2 n := by
  subst hn
  exact ⟨(fits_new (v := .bool false) rfl rfl).ext e, (fits_new (v := .slice none 0 0) rfl rfl).ext e⟩

theorem RR.opened {w : World} {v : Value} {f : Int} {n : Bool} {xs ys : List Nat} (h : RR w v ⟨f, n, xs, ys⟩) :
    ∃ A c B d, v = .agg #[.int .i64 f, .bool n, .slice A xs.length c, .slice B ys.length d] ∧ RV w (.slice A xs.length c) xs ∧ RV w (.slice B ys.length d) ys := by
  obtain ⟨x, y, rfl, h1, h2⟩ := h
  obtain ⟨A, c, rfl, _⟩ := id h1
  obtain ⟨B, d, rfl, _⟩ := id h2
  exact ⟨A, c, B, d, rfl, h1, h2⟩
theorem plus_q {w : World} {n1 n2 s : Bool} {x y : Value} {a b m : Nat} (hx : NV w x a) (hy : NV w y b) (hs : ssum n1 a n2 b = (s, m)) :
    Calls Tryz.prog 105 #[.agg #[.bool n1, x], .agg #[.bool n2, y]] w fun e w' => ∃ r, e = .returned (.agg #[.bool s, r]) ∧ OV w.heap.size w' r (dig m) ∧ Ext w w' := by
  have h := whole_plus (n1 := n1) (n2 := n2) hx hy
  rw [hs] at h
  exact h
theorem Box2.first {w w2 : World} {o o' : Obj} (e : Ext ((((w.alloc o).alloc o').alloc (.cells #[.bool false, .slice none 0 0] 76)).drew) w2) : Box2 w2 (w.heap.size + 2) :=
  Box2.fresh (w1 := (w.alloc o).alloc o') (((Ext.refl _).drew).trans e) (by simp)
set_option maxRecDepth 10000 in
set_option maxHeartbeats 4000000 in
theorem less1_calls {w : World} {u v : Value} {a b : Rq} {x y c d : Nat} (hu : RR w u a) (hv : RR w v b) (ka : IsNum a x y) (kb : IsNum b c d) :
    Calls Tryz.prog 115 #[u, v] w fun e w' => e = .returned (.bool (lessq a.neg (x * d) b.neg (c * y))) ∧ Ext w w' := by
  obtain ⟨p, hp⟩ : ∃ p, oppq b = p := ⟨_, rfl⟩
  have HO : Aside (∀ (w' : World) (r : Value), RR w' r p → RR w' r ⟨0, p.neg, dig c, dig d⟩) := ⟨fun w' r h => by subst hp; exact opp_rr h kb⟩
  have hpn : p.neg = (!b.neg && decide (0 < c)) := hp ▸ oppq_neg kb
  obtain ⟨⟨s, m⟩, hs⟩ : ∃ q, ssum a.neg (x * d) p.neg (c * y) = q := ⟨_, rfl⟩
  have hless : (s && decide (0 < m)) = lessq a.neg (x * d) b.neg (c * y) := less_ssum ka.neg kb.neg ka.pos kb.pos (by rw [← hpn]; exact hs)
  rw [← hless]
  have HP := Aside.mk hp
  have HS := Aside.mk hs
  have HB := Aside.mk hv
  have LXB : Aside ((dig c).length ≤ 512) := ⟨Nat.le_trans kb.la (by decide)⟩
  have HL1 : Aside ((dig (x * d)).length ≤ 512) := ⟨Nat.le_trans (len_mul ka.la kb.lb) (by decide)⟩
  have HL2 : Aside ((dig (c * y)).length ≤ 512) := ⟨Nat.le_trans (len_mul kb.la ka.lb) (by decide)⟩
  obtain ⟨lm, hlm⟩ : ∃ l, (dig m).length = l := ⟨_, rfl⟩
  have HLM := Aside.mk hlm
  have hdm : decide (0 < m) = decide (0 < lm) := by
    rcases Nat.eq_zero_or_pos m with h | h
    · rw [h, dig_zero] at hlm; rw [h, ← hlm]; rfl
    · have := dig_length_pos h; rw [decide_eq_true h, decide_eq_true (by omega)]
  rw [hdm]
  obtain ⟨sx, sy, rfl, hxa, hya⟩ := hu.num ka
  obtain ⟨sx', sy', rfl, hxb, hyb⟩ := hv.num kb
  dsimp only at *
  have HXA := Aside.mk (NV.of hxa (by have := ka.la; omega))
  have HYA := Aside.mk (NV.of hya (by have := ka.lb; omega))
  have HYB := Aside.mk (NV.of hyb (by have := kb.lb; omega))
  obtain ⟨A, ca, rfl, _⟩ := hxa
  obtain ⟨B, cb, rfl, _⟩ := hya
  obtain ⟨C, cc, rfl, _⟩ := hxb
  obtain ⟨D, cd, rfl, _⟩ := hyb
  clear hp hs hu hv ka kb hpn hless hlm hdm
  obtain ⟨lxa, e1⟩ : ∃ n, (dig x).length = n := ⟨_, rfl⟩
  obtain ⟨lya, e2⟩ : ∃ n, (dig y).length = n := ⟨_, rfl⟩
  obtain ⟨lxb, e3⟩ : ∃ n, (dig c).length = n := ⟨_, rfl⟩
  obtain ⟨lyb, e4⟩ : ∃ n, (dig d).length = n := ⟨_, rfl⟩
  rw [e1] at HXA ⊢
  rw [e2] at HYA ⊢
  rw [e3] at HB ⊢
  rw [e4] at HB HYB ⊢
  clear e1 e2 e3 e4
  generalize a.f = f1 at *
  generalize a.neg = n1 at *
  generalize b.f = f2 at *
  generalize b.neg = n2 at *
  have hk0 := KeepE.ext (Ext.refl _).drew (KeepE.init w (.int .i64 f1) (.bool n1) (.slice A lxa ca) (.slice B lya cb) (.int .i64 f2) (.bool n2) (.slice C lxb cc) (.slice D lyb cd) 26 26)
  cases s
  · go_enter Tryz.func115, Tryz.ntmps115
    go_wp2
    go_region_held (fun w' => KeepE w (.int .i64 f1) (.bool n1) (.slice A lxa ca) (.slice B lya cb) (.int .i64 f2) (.bool n2) (.slice C lxb cc) (.slice D lyb cd) w') (with_reducible first | assumption | exact KeepE.ext (by assumption) (by assumption) | exact KeepE.ext ((Ext.refl _).alloc _) (by assumption) | exact (KeepE.set (KeepE.set (by assumption) (by omega) _ _) (by omega) _ _)) (first | (go_at_call 116; with_reducible refine (whole_of (HXA.out.ext (Aside.out (And.left (show KeepE w (.int .i64 f1) (.bool n1) (.slice A lxa ca) (.slice B lya cb) (.int .i64 f2) (.bool n2) (.slice C lxb cc) (.slice D lyb cd) _ from by with_reducible assumption)))).rv (HYA.out.ext (Aside.out (And.left (show KeepE w (.int .i64 f1) (.bool n1) (.slice A lxa ca) (.slice B lya cb) (.int .i64 f2) (.bool n2) (.slice C lxb cc) (.slice D lyb cd) _ from by with_reducible assumption)))).rv).mono ?_; rintro e w1 ⟨rfl, he1⟩; have hk1 := KeepE.ext he1 (by with_reducible assumption); have hz1 := KeepE.big hk1; (first | have hb1 := Box2.first he1 | have hb1 := Box2.fresh he1 rfl | have hb1 := Box2.ext he1 (by with_reducible assumption) | skip)) | (go_at_call 117; with_reducible refine (whole_times (HXA.out.ext (Aside.out (And.left (show KeepE w (.int .i64 f1) (.bool n1) (.slice A lxa ca) (.slice B lya cb) (.int .i64 f2) (.bool n2) (.slice C lxb cc) (.slice D lyb cd) _ from by with_reducible assumption)))) (HYB.out.ext (Aside.out (And.left (show KeepE w (.int .i64 f1) (.bool n1) (.slice A lxa ca) (.slice B lya cb) (.int .i64 f2) (.bool n2) (.slice C lxb cc) (.slice D lyb cd) _ from by with_reducible assumption))))).mono ?_; rintro e w2 ⟨r, rfl, hr, he2⟩; have hk2 := KeepE.ext he2 (by with_reducible assumption); have hz2 := KeepE.big hk2; (first | have hb2 := Box2.first he2 | have hb2 := Box2.fresh he2 rfl | have hb2 := Box2.ext he2 (by with_reducible assumption) | skip); have HR2 := Aside.mk hr; obtain ⟨A2, c2, rfl, _⟩ := hr.form; clear hr) | (go_at_call 97; with_reducible refine (opp_q (HB.out.ext (Aside.out (And.left (show KeepE w (.int .i64 f1) (.bool n1) (.slice A lxa ca) (.slice B lya cb) (.int .i64 f2) (.bool n2) (.slice C lxb cc) (.slice D lyb cd) _ from by with_reducible assumption)))) HP.out).mono ?_; rintro e w5 ⟨r, rfl, hr, he5⟩; have hk5 := KeepE.ext he5 (by with_reducible assumption); have hz5 := KeepE.big hk5; (first | have hb5 := Box2.first he5 | have hb5 := Box2.fresh he5 rfl | have hb5 := Box2.ext he5 (by with_reducible assumption) | skip); have HE5 : Ext w2 w5 := (by first | exact he5 | exact ((Ext.refl _).alloc _).trans he5); obtain ⟨A5, c5, B5, d5, rfl, hx5, hy5⟩ := (HO.out _ _ hr.rr).opened; have HX5 := Aside.mk hx5; have HY5 := Aside.mk hy5; clear hr hx5 hy5) | (go_at_call 116; with_reducible refine (whole_of (HX5.out.ext (by first | exact Ext.refl _ | exact (Ext.refl _).alloc _)) (HY5.out.ext (by first | exact Ext.refl _ | exact (Ext.refl _).alloc _))).mono ?_; rintro e w6 ⟨rfl, he6⟩; have hk6 := KeepE.ext he6 (by with_reducible assumption); have hz6 := KeepE.big hk6; (first | have hb6 := Box2.first he6 | have hb6 := Box2.fresh he6 rfl | have hb6 := Box2.ext he6 (by with_reducible assumption) | skip); have HE6 : Ext w5 w6 := (by first | exact he6 | exact ((Ext.refl _).alloc _).trans he6)) | (go_at_call 117; with_reducible refine (whole_times (NV.of (HX5.out.ext (HE6.trans (by first | exact Ext.refl _ | exact (Ext.refl _).alloc _))) LXB.out) (HYA.out.ext (Aside.out (And.left (show KeepE w (.int .i64 f1) (.bool n1) (.slice A lxa ca) (.slice B lya cb) (.int .i64 f2) (.bool n2) (.slice C lxb cc) (.slice D lyb cd) _ from by with_reducible assumption))))).mono ?_; rintro e w7 ⟨r, rfl, hr, he7⟩; have hk7 := KeepE.ext he7 (by with_reducible assumption); have hz7 := KeepE.big hk7; (first | have hb7 := Box2.first he7 | have hb7 := Box2.fresh he7 rfl | have hb7 := Box2.ext he7 (by with_reducible assumption) | skip); have HE7 : Ext w6 w7 := (by first | exact he7 | exact ((Ext.refl _).alloc _).trans he7); have HR7 := Aside.mk hr; obtain ⟨A7, c7, rfl, _⟩ := hr.form; clear hr) | (go_at_call 105; with_reducible refine (plus_q (NV.of (HR2.out.rv.ext (HE5.trans (HE6.trans (HE7.trans (by first | exact Ext.refl _ | exact (Ext.refl _).alloc _))))) HL1.out) (NV.of (HR7.out.rv.ext (by first | exact Ext.refl _ | exact (Ext.refl _).alloc _)) HL2.out) HS.out).mono ?_; rintro e w8 ⟨r, rfl, hr, he8⟩; have hk8 := KeepE.ext he8 (by with_reducible assumption); have hz8 := KeepE.big hk8; (first | have hb8 := Box2.first he8 | have hb8 := Box2.fresh he8 rfl | have hb8 := Box2.ext he8 (by with_reducible assumption) | skip); obtain ⟨A8, c8, rfl, _⟩ := hr.form; (rw [HLM.out]); clear hr))
    all_goals
      go_wp2
      go_ret
      exact ⟨rfl, Aside.out (And.left (show KeepE w (.int .i64 f1) (.bool n1) (.slice A lxa ca) (.slice B lya cb) (.int .i64 f2) (.bool n2) (.slice C lxb cc) (.slice D lyb cd) _ from by with_reducible assumption))⟩
  · go_enter Tryz.func115, Tryz.ntmps115
    go_wp2
    go_region_held (fun w' => KeepE w (.int .i64 f1) (.bool n1) (.slice A lxa ca) (.slice B lya cb) (.int .i64 f2) (.bool n2) (.slice C lxb cc) (.slice D lyb cd) w') (with_reducible first | assumption | exact KeepE.ext (by assumption) (by assumption) | exact KeepE.ext ((Ext.refl _).alloc _) (by assumption) | exact (KeepE.set (KeepE.set (by assumption) (by omega) _ _) (by omega) _ _)) (first | (go_at_call 116; with_reducible refine (whole_of (HXA.out.ext (Aside.out (And.left (show KeepE w (.int .i64 f1) (.bool n1) (.slice A lxa ca) (.slice B lya cb) (.int .i64 f2) (.bool n2) (.slice C lxb cc) (.slice D lyb cd) _ from by with_reducible assumption)))).rv (HYA.out.ext (Aside.out (And.left (show KeepE w (.int .i64 f1) (.bool n1) (.slice A lxa ca) (.slice B lya cb) (.int .i64 f2) (.bool n2) (.slice C lxb cc) (.slice D lyb cd) _ from by with_reducible assumption)))).rv).mono ?_; rintro e w1 ⟨rfl, he1⟩; have hk1 := KeepE.ext he1 (by with_reducible assumption); have hz1 := KeepE.big hk1; (first | have hb1 := Box2.first he1 | have hb1 := Box2.fresh he1 rfl | have hb1 := Box2.ext he1 (by with_reducible assumption) | skip)) | (go_at_call 117; with_reducible refine (whole_times (HXA.out.ext (Aside.out (And.left (show KeepE w (.int .i64 f1) (.bool n1) (.slice A lxa ca) (.slice B lya cb) (.int .i64 f2) (.bool n2) (.slice C lxb cc) (.slice D lyb cd) _ from by with_reducible assumption)))) (HYB.out.ext (Aside.out (And.left (show KeepE w (.int .i64 f1) (.bool n1) (.slice A lxa ca) (.slice B lya cb) (.int .i64 f2) (.bool n2) (.slice C lxb cc) (.slice D lyb cd) _ from by with_reducible assumption))))).mono ?_; rintro e w2 ⟨r, rfl, hr, he2⟩; have hk2 := KeepE.ext he2 (by with_reducible assumption); have hz2 := KeepE.big hk2; (first | have hb2 := Box2.first he2 | have hb2 := Box2.fresh he2 rfl | have hb2 := Box2.ext he2 (by with_reducible assumption) | skip); have HR2 := Aside.mk hr; obtain ⟨A2, c2, rfl, _⟩ := hr.form; clear hr) | (go_at_call 97; with_reducible refine (opp_q (HB.out.ext (Aside.out (And.left (show KeepE w (.int .i64 f1) (.bool n1) (.slice A lxa ca) (.slice B lya cb) (.int .i64 f2) (.bool n2) (.slice C lxb cc) (.slice D lyb cd) _ from by with_reducible assumption)))) HP.out).mono ?_; rintro e w5 ⟨r, rfl, hr, he5⟩; have hk5 := KeepE.ext he5 (by with_reducible assumption); have hz5 := KeepE.big hk5; (first | have hb5 := Box2.first he5 | have hb5 := Box2.fresh he5 rfl | have hb5 := Box2.ext he5 (by with_reducible assumption) | skip); have HE5 : Ext w2 w5 := (by first | exact he5 | exact ((Ext.refl _).alloc _).trans he5); obtain ⟨A5, c5, B5, d5, rfl, hx5, hy5⟩ := (HO.out _ _ hr.rr).opened; have HX5 := Aside.mk hx5; have HY5 := Aside.mk hy5; clear hr hx5 hy5) | (go_at_call 116; with_reducible refine (whole_of (HX5.out.ext (by first | exact Ext.refl _ | exact (Ext.refl _).alloc _)) (HY5.out.ext (by first | exact Ext.refl _ | exact (Ext.refl _).alloc _))).mono ?_; rintro e w6 ⟨rfl, he6⟩; have hk6 := KeepE.ext he6 (by with_reducible assumption); have hz6 := KeepE.big hk6; (first | have hb6 := Box2.first he6 | have hb6 := Box2.fresh he6 rfl | have hb6 := Box2.ext he6 (by with_reducible assumption) | skip); have HE6 : Ext w5 w6 := (by first | exact he6 | exact ((Ext.refl _).alloc _).trans he6)) | (go_at_call 117; with_reducible refine (whole_times (NV.of (HX5.out.ext (HE6.trans (by first | exact Ext.refl _ | exact (Ext.refl _).alloc _))) LXB.out) (HYA.out.ext (Aside.out (And.left (show KeepE w (.int .i64 f1) (.bool n1) (.slice A lxa ca) (.slice B lya cb) (.int .i64 f2) (.bool n2) (.slice C lxb cc) (.slice D lyb cd) _ from by with_reducible assumption))))).mono ?_; rintro e w7 ⟨r, rfl, hr, he7⟩; have hk7 := KeepE.ext he7 (by with_reducible assumption); have hz7 := KeepE.big hk7; (first | have hb7 := Box2.first he7 | have hb7 := Box2.fresh he7 rfl | have hb7 := Box2.ext he7 (by with_reducible assumption) | skip); have HE7 : Ext w6 w7 := (by first | exact he7 | exact ((Ext.refl _).alloc _).trans he7); have HR7 := Aside.mk hr; obtain ⟨A7, c7, rfl, _⟩ := hr.form; clear hr) | (go_at_call 105; with_reducible refine (plus_q (NV.of (HR2.out.rv.ext (HE5.trans (HE6.trans (HE7.trans (by first | exact Ext.refl _ | exact (Ext.refl _).alloc _))))) HL1.out) (NV.of (HR7.out.rv.ext (by first | exact Ext.refl _ | exact (Ext.refl _).alloc _)) HL2.out) HS.out).mono ?_; rintro e w8 ⟨r, rfl, hr, he8⟩; have hk8 := KeepE.ext he8 (by with_reducible assumption); have hz8 := KeepE.big hk8; (first | have hb8 := Box2.first he8 | have hb8 := Box2.fresh he8 rfl | have hb8 := Box2.ext he8 (by with_reducible assumption) | skip); obtain ⟨A8, c8, rfl, _⟩ := hr.form; (rw [HLM.out]); clear hr))
    all_goals
      go_wp2
      go_ret
      exact ⟨rfl, Aside.out (And.left (show KeepE w (.int .i64 f1) (.bool n1) (.slice A lxa ca) (.slice B lya cb) (.int .i64 f2) (.bool n2) (.slice C lxb cc) (.slice D lyb cd) _ from by with_reducible assumption))⟩
end Go.Proofs.YtgfkachfbnbikaaGreatDoor

namespace Go.Proofs.YtgfkachfbnbikaaGreatDoor
open Go.RowKit

/-- The result of a question about two Rats that asks for valid ones. -/
def askq (a b : Rq) (is : Bool) : (Int × Bool) × Int := if okq a && okq b then (rbit (leastq a.f b.f) is, 0) else ((0, false), 5)

/-- Two boxes of four cells, and a result of two. -/
abbrev KeepK (w : World) (x0 x1 x2 x3 y0 y1 y2 y3 : Value) (w' : World) : Prop :=
  Aside (Ext w w') ∧ (w'.cell? ⟨w.heap.size, 0, none⟩ = some x0 ∧ w'.cell? ⟨w.heap.size, 1, none⟩ = some x1 ∧ w'.cell? ⟨w.heap.size, 2, none⟩ = some x2 ∧ w'.cell? ⟨w.heap.size, 3, none⟩ = some x3) ∧
    (w'.cell? ⟨w.heap.size + 1, 0, none⟩ = some y0 ∧ w'.cell? ⟨w.heap.size + 1, 1, none⟩ = some y1 ∧ w'.cell? ⟨w.heap.size + 1, 2, none⟩ = some y2 ∧ w'.cell? ⟨w.heap.size + 1, 3, none⟩ = some y3) ∧
    (Fits w' ⟨w.heap.size + 2, 0, none⟩ ∧ Fits w' ⟨w.heap.size + 2, 1, none⟩)
theorem KeepK.ext {w w1 w2 : World} {x0 x1 x2 x3 y0 y1 y2 y3 : Value} (e : Ext w1 w2) (h : KeepK w x0 x1 x2 x3 y0 y1 y2 y3 w1) : KeepK w x0 x1 x2 x3 y0 y1 y2 y3 w2 :=
  ⟨⟨h.1.out.trans e⟩, ⟨e.cell h.2.1.1, e.cell h.2.1.2.1, e.cell h.2.1.2.2.1, e.cell h.2.1.2.2.2⟩, ⟨e.cell h.2.2.1.1, e.cell h.2.2.1.2.1, e.cell h.2.2.1.2.2.1, e.cell h.2.2.1.2.2.2⟩, ⟨h.2.2.2.1.ext e, h.2.2.2.2.ext e⟩⟩
theorem KeepK.init (w : World) (x0 x1 x2 x3 y0 y1 y2 y3 z0 z1 : Value) (t t' t'' : TypeId) : KeepK w x0 x1 x2 x3 y0 y1 y2 y3 (((w.alloc (.cells #[x0, x1, x2, x3] t)).alloc (.cells #[y0, y1, y2, y3] t')).alloc (.cells #[z0, z1] t'')) :=
  ⟨⟨(((Ext.refl w).alloc _).alloc _).alloc _⟩, ⟨cell_old (cell_old (cell_new rfl rfl)), cell_old (cell_old (cell_new rfl rfl)), cell_old (cell_old (cell_new rfl rfl)), cell_old (cell_old (cell_new rfl rfl))⟩,
    ⟨cell_old (cell_new (by simp) rfl), cell_old (cell_new (by simp) rfl), cell_old (cell_new (by simp) rfl), cell_old (cell_new (by simp) rfl)⟩,
    ⟨fits_new (v := z0) (by simp) rfl, fits_new (v := z1) (by simp) rfl⟩⟩

set_option maxRecDepth 10000 in
set_option maxHeartbeats 1000000 in
theorem asked_calls {w : World} {F : FuncId} {u v : Value} {a b : Rq} {is : Bool} {x : Int × Bool} {y : Int} (hC : ∀ args w, Sem.run Tryz.prog (callFunc F args) w = .ok (.enter F args) w) (ha : RR w u a) (hb : RR w v b)
    (hF : okq a = true → okq b = true → leastq a.f b.f = 0 → ∀ w', Ext w w' → Calls Tryz.prog F #[u, v] w' fun e w'' => e = .returned (.bool is) ∧ Ext w' w'') (hm : askq a b is = (x, y)) :
    Calls Tryz.prog 114 #[u, v, .func (.func F) #[] #[]] w fun e w' => e = .returned (.tuple #[.agg #[.int .i64 x.1, .bool x.2], .int .i64 y]) ∧ Ext w w' := by
  have HA := Aside.mk ha
  have HB := Aside.mk hb
  have HF := Aside.mk hF
  obtain ⟨A, ca, B, cb, rfl⟩ := ha.form
  obtain ⟨C, cc, D, cd, rfl⟩ := hb.form
  clear ha hb hF
  obtain ⟨fa, na, xa, ya⟩ := a
  obtain ⟨fb, nb, xb, yb⟩ := b
  dsimp only at *
  generalize xa.length = lxa at *
  generalize ya.length = lya at *
  generalize xb.length = lxb at *
  generalize yb.length = lyb at *
  have hk0 := KeepK.init w (.int .i64 fa) (.bool na) (.slice A lxa ca) (.slice B lya cb) (.int .i64 fb) (.bool nb) (.slice C lxb cc) (.slice D lyb cd) (.int .i64 0) (.bool false) 26 26 55
  cases hoa : okq ⟨fa, na, xa, ya⟩
  · have HOA := Aside.mk hoa
    have h : (((0, false), 5) : (Int × Bool) × Int) = (x, y) := by rw [← hm]; simp [askq, hoa]
    injection h with h1 h2
    subst h1 h2
    clear hm hoa
    go_enter Tryz.func114, Tryz.ntmps114
    go_wp2_with (go_at_call 49; refine (israt_b (HA.out.ext hk0.1.out) HOA.out).mono ?_; rintro e w1 ⟨rfl, he⟩; have hk1 := KeepK.ext he hk0; clear hk0 he)
    have HK := Aside.mk hk1
    refine bodyPost_ret (v := .tuple #[.agg #[.int .i64 0, .bool false], .int .i64 5]) (by simp [results, Tryz.results114, go_sem, hk1]) rfl ⟨rfl, (HK.out.1.out.set (by show w.heap.size ≤ w.heap.size + 2; omega) _).set (by show w.heap.size ≤ w.heap.size + 2; omega) _⟩
  · cases hob : okq ⟨fb, nb, xb, yb⟩
    · have HOA := Aside.mk hoa
      have HOB := Aside.mk hob
      have h : (((0, false), 5) : (Int × Bool) × Int) = (x, y) := by rw [← hm]; simp [askq, hob]
      injection h with h1 h2
      subst h1 h2
      clear hm hoa hob
      go_enter Tryz.func114, Tryz.ntmps114
      go_wp2_with (first | (go_at_call 49; refine (israt_b (HA.out.ext hk0.1.out) HOA.out).mono ?_; rintro e w1 ⟨rfl, he⟩; have hk1 := KeepK.ext he hk0; clear hk0 he) | (go_at_call 49; refine (israt_b (HB.out.ext hk1.1.out) HOB.out).mono ?_; rintro e w2 ⟨rfl, he⟩; have hk2 := KeepK.ext he hk1; clear hk1 he))
      have HK := Aside.mk hk2
      refine bodyPost_ret (v := .tuple #[.agg #[.int .i64 0, .bool false], .int .i64 5]) (by simp [results, Tryz.results114, go_sem, hk2]) rfl ⟨rfl, (HK.out.1.out.set (by show w.heap.size ≤ w.heap.size + 2; omega) _).set (by show w.heap.size ≤ w.heap.size + 2; omega) _⟩
    · have HOA := Aside.mk hoa
      have HOB := Aside.mk hob
      obtain ⟨l, hl⟩ : ∃ l, leastq fa fb = l := ⟨_, rfl⟩
      have HL := Aside.mk hl
      by_cases hz : l = 0
      · subst hz
        have h : (((0, is), 0) : (Int × Bool) × Int) = (x, y) := by rw [← hm]; simp [askq, hoa, hob, hl, rbit]
        injection h with h1 h2
        subst h1 h2
        clear hm hoa hob hl
        go_enter Tryz.func114, Tryz.ntmps114
        go_wp2_with (first | (go_at_call 49; refine (israt_b (HA.out.ext hk0.1.out) HOA.out).mono ?_; rintro e w1 ⟨rfl, he⟩; have hk1 := KeepK.ext he hk0; clear hk0 he) | (go_at_call 49; refine (israt_b (HB.out.ext hk1.1.out) HOB.out).mono ?_; rintro e w2 ⟨rfl, he⟩; have hk2 := KeepK.ext he hk1; clear hk1 he) | (go_at_call 146; refine (least_calls (w := w2)).mono ?_; rw [HL.out]; rintro e w3 ⟨rfl, he⟩; have hk3 := KeepK.ext he hk2; clear hk2 he))
        refine (HF.out HOA.out HOB.out HL.out w3 hk3.1.out).mono ?_
        rintro e w4 ⟨rfl, he⟩
        have hk4 := KeepK.ext he hk3
        clear hk3 he
        go_wp2
        have HK := Aside.mk hk4
        refine bodyPost_ret (v := .tuple #[.agg #[.int .i64 0, .bool is], .int .i64 0]) (by simp [results, Tryz.results114, go_sem, hk4]) rfl ⟨rfl, (HK.out.1.out.set (by show w.heap.size ≤ w.heap.size + 2; omega) _).set (by show w.heap.size ≤ w.heap.size + 2; omega) _⟩
      · have h : (((l, false), 0) : (Int × Bool) × Int) = (x, y) := by rw [← hm]; simp [askq, hoa, hob, hl, rbit, hz]
        injection h with h1 h2
        subst h1 h2
        have hl0 : (l == 0) = false := by simp [hz]
        have hl1 : (l != 0) = true := by simp [hz]
        clear hm hoa hob hl hz
        go_enter Tryz.func114, Tryz.ntmps114
        go_wp2_with (first | (go_at_call 49; refine (israt_b (HA.out.ext hk0.1.out) HOA.out).mono ?_; rintro e w1 ⟨rfl, he⟩; have hk1 := KeepK.ext he hk0; clear hk0 he) | (go_at_call 49; refine (israt_b (HB.out.ext hk1.1.out) HOB.out).mono ?_; rintro e w2 ⟨rfl, he⟩; have hk2 := KeepK.ext he hk1; clear hk1 he) | (go_at_call 146; refine (least_calls (w := w2)).mono ?_; rw [HL.out]; rintro e w3 ⟨rfl, he⟩; have hk3 := KeepK.ext he hk2; clear hk2 he))
        have HK := Aside.mk hk3
        refine bodyPost_ret (v := .tuple #[.agg #[.int .i64 l, .bool false], .int .i64 0]) (by simp [results, Tryz.results114, go_sem, hk3]) rfl ⟨rfl, (HK.out.1.out.set (by show w.heap.size ≤ w.heap.size + 2; omega) _).set (by show w.heap.size ≤ w.heap.size + 2; omega) _⟩

/-- What is known of a callee that answers a question about two numbers. -/
structure AskBy (F : FuncId) (a b : Rq) (is : Bool) : Prop where
  runs : ∀ args w, Sem.run Tryz.prog (callFunc F args) w = .ok (.enter F args) w
  calls : ∀ w u v, RR w u a → RR w v b → okq a = true → okq b = true → leastq a.f b.f = 0 → Calls Tryz.prog F #[u, v] w fun e w' => e = .returned (.bool is) ∧ Ext w w'
theorem AskBy.mk_ {F : FuncId} {a b : Rq} {is : Bool} (h : AskBy F a b is) {w : World} {u v : Value} (ha : RR w u a) (hb : RR w v b) {x : Int × Bool} {y : Int} (hm : askq a b is = (x, y)) :
    Calls Tryz.prog 114 #[u, v, .func (.func F) #[] #[]] w fun e w' => e = .returned (.tuple #[.agg #[.int .i64 x.1, .bool x.2], .int .i64 y]) ∧ Ext w w' :=
  asked_calls h.runs ha hb (fun h1 h2 h3 w' he => h.calls w' u v (ha.ext he) (hb.ext he) h1 h2 h3) hm
end Go.Proofs.YtgfkachfbnbikaaGreatDoor

namespace Go.Proofs.YtgfkachfbnbikaaGreatDoor
open Go.RowKit

theorem sequal_calls {w : World} {u v : Value} {xs ys : List Nat} {b : Bool} (hu : RV w u xs) (hv : RV w v ys) (hb : decide (xs = ys) = b) :
    Calls Tryz.prog 119 #[u, v] w fun e w' => e = .returned (.bool b) ∧ Ext w w' := by
  obtain ⟨A, c, rfl, hc, hd, hr⟩ := id hu
  obtain ⟨B, d, rfl, hc', hd', hr'⟩ := id hv
  have HU := Aside.mk hu
  have HV := Aside.mk hv
  have hl : xs.length ≤ 1073741824 := hd.1
  have HB := Aside.mk hb
  clear hu hv hd hd' hr hr' hb
  by_cases hll : xs.length = ys.length
  · have HLL := Aside.mk hll
    rw [← hll]
    rw [← hll] at hc'
    clear hll
    go_enter Tryz.func119, Tryz.ntmps119
    go_wp2
    go_loopw [13] (fun i wr => ∃ k : Nat, k ≤ xs.length ∧ i = .int .i64 (k : Int) ∧ Aside (∀ j, j < k → xs.getD j 0 = ys.getD j 0) ∧ Aside (∃ n, wr = w.drewN n)) (fun i _ => xs.length - (intOf i).toNat)
    case atStart => exact ⟨0, Nat.zero_le _, rfl, ⟨fun j h => by omega⟩, ⟨0, rfl⟩⟩
    case round =>
      obtain ⟨k, hk, rfl, HK, HW⟩ := hrel
      by_cases hlt : k < xs.length
      · obtain ⟨ad, rfl, hx⟩ := HU.out.at' k hlt
        obtain ⟨bd, rfl, hy⟩ := HV.out.at' k (by have := HLL.out; omega)
        obtain ⟨n, rfl⟩ := HW.out
        obtain ⟨x, hxx⟩ : ∃ x, xs.getD k 0 = x := ⟨_, rfl⟩
        obtain ⟨y, hyy⟩ : ∃ y, ys.getD k 0 = y := ⟨_, rfl⟩
        rw [hxx] at hx
        rw [hyy] at hy
        have HXX := Aside.mk hxx
        have HYY := Aside.mk hyy
        clear hxx hyy
        by_cases hxy : x = y
        · subst hxy
          go_wp2
          go_quiet (fail)
          go_wp2
          go_roundw
          case rel => exact ⟨k + 1, by omega, by go_num, ⟨fun j hj => by
            rcases Nat.lt_or_ge j k with h | h
            · exact HK.out j h
            · obtain rfl : j = k := by omega
              rw [HXX.out, HYY.out]⟩, ⟨_, rfl⟩⟩
          case measure => simp [intOf]; omega
        · have hne : ((x : Int) == (y : Int)) = false := beq_eq_false_iff_ne.2 (by omega)
          have hne' : ((x : Int) != (y : Int)) = true := by simp [bne, hne]
          have HF : Aside (b = false) := ⟨by rw [← HB.out]; apply decide_eq_false; intro h; apply hxy; rw [← HXX.out, ← HYY.out, h]⟩
          clear hxy
          go_wp2
          go_quiet (fail)
          go_wp2
          go_ret
          exact ⟨by rw [HF.out]; rfl, ((Ext.refl w).drewN _).drewN _⟩
      · have hkx : k = xs.length := by omega
        have HT : Aside (b = true) := ⟨by rw [← HB.out]; apply decide_eq_true; exact getD_cons_eq HLL.out (fun j hj => HK.out j (by omega))⟩
        subst hkx
        obtain ⟨n, rfl⟩ := HW.out
        go_wp2
        go_ret
        exact ⟨by rw [HT.out]; rfl, (Ext.refl w).drewN _⟩
  · have HF : Aside (b = false) := ⟨by rw [← HB.out]; apply decide_eq_false; intro h; apply hll; rw [h]⟩
    have hne : ((xs.length : Int) == (ys.length : Int)) = false := beq_eq_false_iff_ne.2 (by omega)
    have hne' : ((xs.length : Int) != (ys.length : Int)) = true := by simp [bne, hne]
    clear hll
    go_enter Tryz.func119, Tryz.ntmps119
    go_wp2
    go_ret
    exact ⟨by rw [HF.out]; rfl, Ext.refl w⟩

/-- The fields of two numbers are the same. -/
def sameq (a b : Rq) : Bool := a.neg == b.neg && decide (a.num = b.num) && decide (a.den = b.den)
set_option maxRecDepth 10000 in
set_option maxHeartbeats 1000000 in
theorem same1_calls {w : World} {u v : Value} {a b : Rq} (hu : RR w u a) (hv : RR w v b) :
    Calls Tryz.prog 118 #[u, v] w fun e w' => e = .returned (.bool (sameq a b)) ∧ Ext w w' := by
  obtain ⟨x, y, rfl, hx, hy⟩ := hu
  obtain ⟨x', y', rfl, hx', hy'⟩ := hv
  obtain ⟨f1, n1, xs, ys⟩ := a
  obtain ⟨f2, n2, xs', ys'⟩ := b
  dsimp only at *
  have HX := Aside.mk hx
  have HY := Aside.mk hy
  have HX' := Aside.mk hx'
  have HY' := Aside.mk hy'
  obtain ⟨A, ca, rfl, _⟩ := hx
  obtain ⟨B, cb, rfl, _⟩ := hy
  obtain ⟨C, cc, rfl, _⟩ := hx'
  obtain ⟨D, cd, rfl, _⟩ := hy'
  obtain ⟨b1, hb1⟩ : ∃ z, decide (xs = xs') = z := ⟨_, rfl⟩
  obtain ⟨b2, hb2⟩ : ∃ z, decide (ys = ys') = z := ⟨_, rfl⟩
  have HB1 := Aside.mk hb1
  have HB2 := Aside.mk hb2
  generalize xs.length = lx at *
  generalize ys.length = ly at *
  generalize xs'.length = lx' at *
  generalize ys'.length = ly' at *
  have hk0 := KeepE.init w (.int .i64 f1) (.bool n1) (.slice A lx ca) (.slice B ly cb) (.int .i64 f2) (.bool n2) (.slice C lx' cc) (.slice D ly' cd) 26 26
  have hS : sameq ⟨f1, n1, xs, ys⟩ ⟨f2, n2, xs', ys'⟩ = (n1 == n2 && b1 && b2) := by simp [sameq, ← hb1, ← hb2]
  rw [hS]
  clear hS hb1 hb2
  cases hn : (n1 == n2)
  · have HK := Aside.mk hk0.1.out
    go_enter Tryz.func118, Tryz.ntmps118
    go_wp2
    go_ret
    exact ⟨rfl, HK.out⟩
  · obtain rfl := eq_of_beq hn
    clear hn
    cases b1
    · go_enter Tryz.func118, Tryz.ntmps118
      go_wp2_with (go_at_call 119; with_reducible refine (sequal_calls (HX.out.ext hk0.1.out) (HX'.out.ext hk0.1.out) HB1.out).mono ?_; rintro e w1 ⟨rfl, he⟩; have hk1 := KeepE.ext he hk0; clear hk0 he)
      go_ret
      exact ⟨rfl, hk1.1.out⟩
    · cases b2
      · go_enter Tryz.func118, Tryz.ntmps118
        go_wp2_with (first | (go_at_call 119; with_reducible refine (sequal_calls (HX.out.ext hk0.1.out) (HX'.out.ext hk0.1.out) HB1.out).mono ?_; rintro e w1 ⟨rfl, he⟩; have hk1 := KeepE.ext he hk0; clear hk0 he) | (go_at_call 119; with_reducible refine (sequal_calls (HY.out.ext hk1.1.out) (HY'.out.ext hk1.1.out) HB2.out).mono ?_; rintro e w2 ⟨rfl, he⟩; have hk2 := KeepE.ext he hk1; clear hk1 he))
        go_ret
        exact ⟨rfl, hk2.1.out⟩
      · go_enter Tryz.func118, Tryz.ntmps118
        go_wp2_with (first | (go_at_call 119; with_reducible refine (sequal_calls (HX.out.ext hk0.1.out) (HX'.out.ext hk0.1.out) HB1.out).mono ?_; rintro e w1 ⟨rfl, he⟩; have hk1 := KeepE.ext he hk0; clear hk0 he) | (go_at_call 119; with_reducible refine (sequal_calls (HY.out.ext hk1.1.out) (HY'.out.ext hk1.1.out) HB2.out).mono ?_; rintro e w2 ⟨rfl, he⟩; have hk2 := KeepE.ext he hk1; clear hk1 he))
        go_ret
        exact ⟨rfl, hk2.1.out⟩
set_option maxRecDepth 10000 in
set_option maxHeartbeats 1000000 in
theorem requal_calls {w : World} {u v : Value} {a b : Rq} {z : Bool} (hu : RR w u a) (hv : RR w v b) (hz : (a.f == b.f && sameq a b) = z) :
    Calls Tryz.prog 33 #[u, v] w fun e w' => e = .returned (.bool z) ∧ Ext w w' := by
  subst hz
  obtain ⟨x, y, rfl, hx, hy⟩ := hu
  obtain ⟨x', y', rfl, hx', hy'⟩ := hv
  obtain ⟨f1, n1, xs, ys⟩ := a
  obtain ⟨f2, n2, xs', ys'⟩ := b
  dsimp only at *
  have HX := Aside.mk hx
  have HY := Aside.mk hy
  have HX' := Aside.mk hx'
  have HY' := Aside.mk hy'
  obtain ⟨A, ca, rfl, _⟩ := hx
  obtain ⟨B, cb, rfl, _⟩ := hy
  obtain ⟨C, cc, rfl, _⟩ := hx'
  obtain ⟨D, cd, rfl, _⟩ := hy'
  obtain ⟨b1, hb1⟩ : ∃ z, decide (xs = xs') = z := ⟨_, rfl⟩
  obtain ⟨b2, hb2⟩ : ∃ z, decide (ys = ys') = z := ⟨_, rfl⟩
  have HB1 := Aside.mk hb1
  have HB2 := Aside.mk hb2
  generalize xs.length = lx at *
  generalize ys.length = ly at *
  generalize xs'.length = lx' at *
  generalize ys'.length = ly' at *
  have hk0 := KeepE.init w (.int .i64 f1) (.bool n1) (.slice A lx ca) (.slice B ly cb) (.int .i64 f2) (.bool n2) (.slice C lx' cc) (.slice D ly' cd) 26 26
  have hS : sameq ⟨f1, n1, xs, ys⟩ ⟨f2, n2, xs', ys'⟩ = (n1 == n2 && b1 && b2) := by simp [sameq, ← hb1, ← hb2]
  rw [hS]
  clear hS hb1 hb2
  have HK := Aside.mk hk0.1.out
  cases hf : (f1 == f2)
  · go_enter Tryz.func33, Tryz.ntmps33
    go_wp2
    go_ret
    exact ⟨rfl, HK.out⟩
  · cases hn : (n1 == n2)
    · go_enter Tryz.func33, Tryz.ntmps33
      go_wp2
      go_ret
      exact ⟨by simp, HK.out⟩
    · cases b1
      · go_enter Tryz.func33, Tryz.ntmps33
        go_wp2_with (go_at_call 93; with_reducible refine (rdigits_calls (HX.out.ext hk0.1.out) (HX'.out.ext hk0.1.out) HB1.out).mono ?_; rintro e w1 ⟨rfl, he⟩; have hk1 := KeepE.ext he hk0; clear hk0 he)
        go_ret
        exact ⟨rfl, hk1.1.out⟩
      · cases b2
        · go_enter Tryz.func33, Tryz.ntmps33
          go_wp2_with (first | (go_at_call 93; with_reducible refine (rdigits_calls (HX.out.ext hk0.1.out) (HX'.out.ext hk0.1.out) HB1.out).mono ?_; rintro e w1 ⟨rfl, he⟩; have hk1 := KeepE.ext he hk0; clear hk0 he) | (go_at_call 93; with_reducible refine (rdigits_calls (HY.out.ext hk1.1.out) (HY'.out.ext hk1.1.out) HB2.out).mono ?_; rintro e w2 ⟨rfl, he⟩; have hk2 := KeepE.ext he hk1; clear hk1 he))
          go_ret
          exact ⟨rfl, hk2.1.out⟩
        · go_enter Tryz.func33, Tryz.ntmps33
          go_wp2_with (first | (go_at_call 93; with_reducible refine (rdigits_calls (HX.out.ext hk0.1.out) (HX'.out.ext hk0.1.out) HB1.out).mono ?_; rintro e w1 ⟨rfl, he⟩; have hk1 := KeepE.ext he hk0; clear hk0 he) | (go_at_call 93; with_reducible refine (rdigits_calls (HY.out.ext hk1.1.out) (HY'.out.ext hk1.1.out) HB2.out).mono ?_; rintro e w2 ⟨rfl, he⟩; have hk2 := KeepE.ext he hk1; clear hk1 he))
          go_ret
          exact ⟨rfl, hk2.1.out⟩
end Go.Proofs.YtgfkachfbnbikaaGreatDoor

namespace Go.Proofs.YtgfkachfbnbikaaGreatDoor
open Go.RowKit

theorem same_by (a b : Rq) : AskBy 118 a b (sameq a b) where
  runs := by intro args w; simp [go_sem]
  calls := fun _ _ _ ha hb _ _ _ => same1_calls ha hb

set_option maxRecDepth 10000 in
set_option maxHeartbeats 1000000 in
theorem Same2_calls {w : World} {u v : Value} {a b : Rq} (ha : RR w u a) (hb : RR w v b) {x : Int × Bool} {y : Int} (hm : askq a b (sameq a b) = (x, y)) :
    Calls Tryz.prog 57 #[u, v] w fun e w' => e = .returned (.tuple #[.agg #[.int .i64 x.1, .bool x.2], .int .i64 y]) ∧ Ext w w' := by
  have HM := Aside.mk hm
  clear hm
  have HA := Aside.mk ha
  have HB := Aside.mk hb
  obtain ⟨A, ca, B, cb, rfl⟩ := ha.form
  obtain ⟨C, cc, D, cd, rfl⟩ := hb.form
  have hk0 := KeepK.init w (.int .i64 a.f) (.bool a.neg) (.slice A a.num.length ca) (.slice B a.den.length cb) (.int .i64 b.f) (.bool b.neg) (.slice C b.num.length cc) (.slice D b.den.length cd) (.int .i64 0) (.bool false) 26 26 55
  clear ha hb
  go_enter Tryz.func57, Tryz.ntmps57
  go_wp2_with (go_at_call 114; refine ((same_by a b).mk_ (HA.out.ext hk0.1.out) (HB.out.ext hk0.1.out) HM.out).mono ?_; rintro e w3 ⟨rfl, he⟩; have hk3 := KeepK.ext he hk0; clear hk0 he)
  have HK := Aside.mk hk3
  refine bodyPost_ret (v := .tuple #[.agg #[.int .i64 x.1, .bool x.2], .int .i64 y]) (by simp [results, Tryz.results57, go_sem, hk3]) rfl ⟨rfl, (HK.out.1.out.set (by show w.heap.size ≤ w.heap.size + 2; omega) _).set (by show w.heap.size ≤ w.heap.size + 2; omega) _⟩

set_option maxRecDepth 10000 in
set_option maxHeartbeats 1000000 in
theorem rSame_calls {w : World} {u v : Value} {a b : Rq} (ha : RR w u a) (hb : RR w v b) {x : Int × Bool} (hx : rbit (leastq a.f b.f) (sameq a b) = x) :
    Calls Tryz.prog 59 #[u, v] w fun e w' => e = .returned (.agg #[.int .i64 x.1, .bool x.2]) ∧ Ext w w' := by
  subst hx
  obtain ⟨l, hl⟩ : ∃ l, leastq a.f b.f = l := ⟨_, rfl⟩
  have HL := Aside.mk hl
  obtain ⟨z, hz⟩ : ∃ z, sameq a b = z := ⟨_, rfl⟩
  rw [hl, hz]
  have HA := Aside.mk ha
  have HB := Aside.mk hb
  obtain ⟨A, ca, B, cb, rfl⟩ := ha.form
  obtain ⟨C, cc, D, cd, rfl⟩ := hb.form
  have hk0 := KeepK.init w (.int .i64 a.f) (.bool a.neg) (.slice A a.num.length ca) (.slice B a.den.length cb) (.int .i64 b.f) (.bool b.neg) (.slice C b.num.length cc) (.slice D b.den.length cd) (.int .i64 0) (.bool false) 26 26 55
  clear ha hb
  by_cases h0 : l = 0
  · subst h0
    have hf := leastq_zero hl
    have HZ : Aside ((a.f == b.f && sameq a b) = z) := ⟨by rw [hz, hf.1, hf.2]; rfl⟩
    have HX : Aside (rbit 0 z = (0, z)) := ⟨rfl⟩
    rw [HX.out]
    clear hl hz hf HX
    go_enter Tryz.func59, Tryz.ntmps59
    go_wp2_with (first | (go_at_call 65; with_reducible refine (rleast_calls HL.out).mono ?_; rintro e w' ⟨rfl, rfl⟩) | (go_at_call 33; with_reducible refine (requal_calls (HA.out.ext hk0.1.out) (HB.out.ext hk0.1.out) HZ.out).mono ?_; rintro e w1 ⟨rfl, he⟩; have hk1 := KeepK.ext he hk0; clear hk0 he))
    have HK := Aside.mk hk1
    refine bodyPost_ret (v := .agg #[.int .i64 0, .bool z]) (by simp [results, Tryz.results59, go_sem, hk1]) rfl ⟨rfl, (HK.out.1.out.set (by show w.heap.size ≤ w.heap.size + 2; omega) _).set (by show w.heap.size ≤ w.heap.size + 2; omega) _⟩
  · have HX : Aside (rbit l z = (l, false)) := ⟨by simp [rbit, h0]⟩
    have hl0 : (l == 0) = false := beq_eq_false_iff_ne.2 h0
    have hl1 : (l != 0) = true := by simp [bne, hl0]
    rw [HX.out]
    clear hl hz HX h0
    go_enter Tryz.func59, Tryz.ntmps59
    have HK := Aside.mk hk0.1.out
    go_wp2_with (go_at_call 65; with_reducible refine (rleast_calls HL.out).mono ?_; rintro e w' ⟨rfl, rfl⟩)
    refine bodyPost_ret (v := .agg #[.int .i64 l, .bool false]) (by simp [results, Tryz.results59, go_sem]) rfl ⟨rfl, (((Ext.refl w).alloc _).alloc _).alloc _⟩
end Go.Proofs.YtgfkachfbnbikaaGreatDoor

namespace Go.Proofs.YtgfkachfbnbikaaGreatDoor
open Go.RowKit

theorem less_by (a b : Rq) : AskBy 115 a b (lessq a.neg (val a.num * val b.den) b.neg (val b.num * val a.den)) where
  runs := by intro args w; simp [go_sem]
  calls := by
    intro w u v ha hb h1 h2 h3
    obtain ⟨f1, f2⟩ := leastq_zero h3
    exact less1_calls ha hb (okq_ds h1 f1 ha.ds) (okq_ds h2 f2 hb.ds)
set_option maxRecDepth 10000 in
set_option maxHeartbeats 1000000 in
theorem Less2_calls {w : World} {u v : Value} {a b : Rq} (ha : RR w u a) (hb : RR w v b) {x : Int × Bool} {y : Int} (hm : askq a b (lessq a.neg (val a.num * val b.den) b.neg (val b.num * val a.den)) = (x, y)) :
    Calls Tryz.prog 56 #[u, v] w fun e w' => e = .returned (.tuple #[.agg #[.int .i64 x.1, .bool x.2], .int .i64 y]) ∧ Ext w w' := by
  have HM := Aside.mk hm
  clear hm
  have HA := Aside.mk ha
  have HB := Aside.mk hb
  obtain ⟨A, ca, B, cb, rfl⟩ := ha.form
  obtain ⟨C, cc, D, cd, rfl⟩ := hb.form
  have hk0 := KeepK.init w (.int .i64 a.f) (.bool a.neg) (.slice A a.num.length ca) (.slice B a.den.length cb) (.int .i64 b.f) (.bool b.neg) (.slice C b.num.length cc) (.slice D b.den.length cd) (.int .i64 0) (.bool false) 26 26 55
  clear ha hb
  go_enter Tryz.func56, Tryz.ntmps56
  go_wp2_with (go_at_call 114; refine ((less_by a b).mk_ (HA.out.ext hk0.1.out) (HB.out.ext hk0.1.out) HM.out).mono ?_; rintro e w3 ⟨rfl, he⟩; have hk3 := KeepK.ext he hk0; clear hk0 he)
  have HK := Aside.mk hk3
  refine bodyPost_ret (v := .tuple #[.agg #[.int .i64 x.1, .bool x.2], .int .i64 y]) (by simp [results, Tryz.results56, go_sem, hk3]) rfl ⟨rfl, (HK.out.1.out.set (by show w.heap.size ≤ w.heap.size + 2; omega) _).set (by show w.heap.size ≤ w.heap.size + 2; omega) _⟩
end Go.Proofs.YtgfkachfbnbikaaGreatDoor
