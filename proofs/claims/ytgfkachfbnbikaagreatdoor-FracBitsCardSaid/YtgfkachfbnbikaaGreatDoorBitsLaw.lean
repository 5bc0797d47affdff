/- Contract: Less of package fluxionref02. FracBits: the call returns true. An argument that is a bit. FracBits: of every input the call returns true, and each argument reads behind it as it read before. FracBits: the tied card holds: Less, Same, And and Or return the bits of the specification, faults too, or ErrForm. Conditions: the package-level variables that the row lists start as the program's text lays them (the tie is given). -/
import Derived.Test.YtgfkachfbnbikaaGreatDoorMs
import Derived.Test.YtgfkachfbnbikaaGreatDoorMn
import Derived.Test.YtgfkachfbnbikaaGreatDoorMp
import Derived.Test.YtgfkachfbnbikaaGreatDoorCards
import Derived.Test.YtgfkachfbnbikaaGreatDoorTie
import Derived.SevenTiedAt
namespace Go.Proofs.YtgfkachfbnbikaaGreatDoor
open Go.RowKit


theorem rcmp_q {w : World} {u v : Value} {a b : Nat} {c : Int} (hu : RV w u (dig a)) (hv : RV w v (dig b)) (hc : cmpN a b = c) :
    Calls Tryz.prog 120 #[u, v] w fun e w' => e = .returned (.int .i64 c) ∧ Ext w w' := by
  subst hc
  refine (rcompare_calls hu hv).mono ?_
  rintro e w' ⟨rfl, he⟩
  exact ⟨rfl, Ext.of_drewN he⟩
theorem set2_ext {w w1 : World} {g : Nat} (h : Ext w w1) (hg : w.heap.size ≤ g) (v0 v1 : Value) : Ext w ((w1.setCell ⟨g, 0, none⟩ v0).setCell ⟨g, 1, none⟩ v1) := (h.set hg v0).set hg v1

set_option maxRecDepth 10000 in
set_option maxHeartbeats 4000000 in
theorem rLess_calls {w : World} {u v : Value} {a b : Rq} (hu : RR w u a) (hv : RR w v b) (ka : okq a = true) (kb : okq b = true) {x : Int × Bool} (hx : rbit (leastq a.f b.f) (lessq a.neg (val a.num * val b.den) b.neg (val b.num * val a.den)) = x) :
    Calls Tryz.prog 58 #[u, v] w fun e w' => e = .returned (.agg #[.int .i64 x.1, .bool x.2]) ∧ Ext w w' := by
  subst hx
  have HDA := Aside.mk hu.ds
  have HDB := Aside.mk hv.ds
  obtain ⟨x, y, rfl, hxa, hya⟩ := hu
  obtain ⟨x', y', rfl, hxb, hyb⟩ := hv
  obtain ⟨f1, n1, xs, ys⟩ := a
  obtain ⟨f2, n2, xs', ys'⟩ := b
  dsimp only at *
  obtain ⟨l, hl⟩ : ∃ l, leastq f1 f2 = l := ⟨_, rfl⟩
  have HL := Aside.mk hl
  rw [hl]
  have HXA := Aside.mk hxa
  have HYA := Aside.mk hya
  have HXB := Aside.mk hxb
  have HYB := Aside.mk hyb
  obtain ⟨A, ca, rfl, _⟩ := hxa
  obtain ⟨B, cb, rfl, _⟩ := hya
  obtain ⟨C, cc, rfl, _⟩ := hxb
  obtain ⟨D, cd, rfl, _⟩ := hyb
  obtain ⟨lxa, e1⟩ : ∃ n, xs.length = n := ⟨_, rfl⟩
  obtain ⟨lya, e2⟩ : ∃ n, ys.length = n := ⟨_, rfl⟩
  obtain ⟨lxb, e3⟩ : ∃ n, xs'.length = n := ⟨_, rfl⟩
  obtain ⟨lyb, e4⟩ : ∃ n, ys'.length = n := ⟨_, rfl⟩
  rw [e1] at HXA
  rw [e2] at HYA
  rw [e3] at HXB
  rw [e4] at HYB
  rw [e1, e2, e3, e4]
  have hk0 := KeepK.init w (.int .i64 f1) (.bool n1) (.slice A lxa ca) (.slice B lya cb) (.int .i64 f2) (.bool n2) (.slice C lxb cc) (.slice D lyb cd) (.int .i64 0) (.bool false) 26 26 55
  by_cases hz : l = 0
  · subst hz
    have HX : Aside (∀ z, rbit 0 z = (0, z)) := ⟨fun _ => rfl⟩
    rw [HX.out]
    obtain ⟨hf1, hf2⟩ := leastq_zero hl
    have ka' := okq_ds ka hf1 HDA.out
    have kb' := okq_ds kb hf2 HDB.out
    dsimp only at ka' kb'
    have HXA' : Aside (RV w (.slice A lxa ca) (dig (val xs))) := ⟨HXA.out.eq' ka'.num⟩
    have HYA' : Aside (RV w (.slice B lya cb) (dig (val ys))) := ⟨HYA.out.eq' ka'.den⟩
    have HXB' : Aside (RV w (.slice C lxb cc) (dig (val xs'))) := ⟨HXB.out.eq' kb'.num⟩
    have HYB' : Aside (RV w (.slice D lyb cd) (dig (val ys'))) := ⟨HYB.out.eq' kb'.den⟩
    have LXA := Aside.mk ka'.la
    have LYA := Aside.mk ka'.lb
    have LXB := Aside.mk kb'.la
    have LYB := Aside.mk kb'.lb
    obtain ⟨m1, hm1⟩ : ∃ m, val xs * val ys' = m := ⟨_, rfl⟩
    obtain ⟨m2, hm2⟩ : ∃ m, val xs' * val ys = m := ⟨_, rfl⟩
    have HM1 := Aside.mk hm1
    have HM2 := Aside.mk hm2
    rw [hm1, hm2]
    clear hl hf1 hf2 ka' kb' ka kb hm1 hm2 e1 e2 e3 e4 HX
    by_cases hn : n1 = n2
    · subst hn
      have hlq : lessq n1 m1 n1 m2 = (if n1 = true then decide (m2 < m1) else decide (m1 < m2)) := by simp [lessq]
      rw [hlq]
      clear hlq
      rcases Nat.lt_trichotomy m1 m2 with hlt | hlt | hlt
      · have HC : Aside (cmpN m1 m2 = -1) := ⟨by simp [cmpN, hlt]⟩
        have h1 : decide (m1 < m2) = true := decide_eq_true hlt
        have h2 : decide (m2 < m1) = false := decide_eq_false (by omega)
        rw [h1, h2]
        clear h1 h2
        cases n1
        · clear hlt
          have hk0' := hk0.ext ((Ext.refl _).drew)
          go_enter Tryz.func58, Tryz.ntmps58
          go_wp2_with (go_at_call 65; with_reducible refine (rleast_calls HL.out).mono ?_; rintro e w' ⟨rfl, rfl⟩)
          go_region_held (fun w' => KeepK w (.int .i64 f1) (.bool false) (.slice A lxa ca) (.slice B lya cb) (.int .i64 f2) (.bool false) (.slice C lxb cc) (.slice D lyb cd) w') (first | assumption | exact KeepK.ext (by assumption) (by assumption)) (first | (go_at_call 47; with_reducible refine (rmul_n (HXA'.out.ext (Aside.out (And.left (show KeepK w (.int .i64 f1) (.bool false) (.slice A lxa ca) (.slice B lya cb) (.int .i64 f2) (.bool false) (.slice C lxb cc) (.slice D lyb cd) _ from by assumption)))) (HYB'.out.ext (Aside.out (And.left (show KeepK w (.int .i64 f1) (.bool false) (.slice A lxa ca) (.slice B lya cb) (.int .i64 f2) (.bool false) (.slice C lxb cc) (.slice D lyb cd) _ from by assumption)))) LXA.out LYB.out HM1.out).mono ?_; rintro e w5 ⟨r, rfl, hr, he5⟩; have HR5 := Aside.mk hr.rv; obtain ⟨A5, c5, rfl, _⟩ := hr.form; clear hr) | (go_at_call 47; with_reducible refine (rmul_n (HXB'.out.ext (Aside.out (And.left (show KeepK w (.int .i64 f1) (.bool false) (.slice A lxa ca) (.slice B lya cb) (.int .i64 f2) (.bool false) (.slice C lxb cc) (.slice D lyb cd) _ from by assumption)))) (HYA'.out.ext (Aside.out (And.left (show KeepK w (.int .i64 f1) (.bool false) (.slice A lxa ca) (.slice B lya cb) (.int .i64 f2) (.bool false) (.slice C lxb cc) (.slice D lyb cd) _ from by assumption)))) LXB.out LYA.out HM2.out).mono ?_; rintro e w6 ⟨r, rfl, hr, he6⟩; have HR6 := Aside.mk hr.rv; have HE6 := Aside.mk he6; obtain ⟨A6, c6, rfl, _⟩ := hr.form; clear hr) | (go_at_call 120; with_reducible refine (rcmp_q (HR5.out.ext HE6.out) HR6.out HC.out).mono ?_; rintro e w7 ⟨rfl, he7⟩))
          have hk7 := KeepK.ext he7 (KeepK.ext he6 (KeepK.ext he5 hk0'))
          have HK := Aside.mk hk7
          clear hk0 hk0' he5 he6 he7
          go_wp2
          refine bodyPost_ret (v := .agg #[.int .i64 0, .bool true]) (by simp [results, Tryz.results58, go_sem, hk7]) rfl ⟨rfl, set2_ext HK.out.1.out (by omega) _ _⟩
        · clear hlt
          have hk0' := hk0.ext ((Ext.refl _).drew)
          go_enter Tryz.func58, Tryz.ntmps58
          go_wp2_with (go_at_call 65; with_reducible refine (rleast_calls HL.out).mono ?_; rintro e w' ⟨rfl, rfl⟩)
          go_region_held (fun w' => KeepK w (.int .i64 f1) (.bool true) (.slice A lxa ca) (.slice B lya cb) (.int .i64 f2) (.bool true) (.slice C lxb cc) (.slice D lyb cd) w') (first | assumption | exact KeepK.ext (by assumption) (by assumption)) (first | (go_at_call 47; with_reducible refine (rmul_n (HXA'.out.ext (Aside.out (And.left (show KeepK w (.int .i64 f1) (.bool true) (.slice A lxa ca) (.slice B lya cb) (.int .i64 f2) (.bool true) (.slice C lxb cc) (.slice D lyb cd) _ from by assumption)))) (HYB'.out.ext (Aside.out (And.left (show KeepK w (.int .i64 f1) (.bool true) (.slice A lxa ca) (.slice B lya cb) (.int .i64 f2) (.bool true) (.slice C lxb cc) (.slice D lyb cd) _ from by assumption)))) LXA.out LYB.out HM1.out).mono ?_; rintro e w5 ⟨r, rfl, hr, he5⟩; have HR5 := Aside.mk hr.rv; obtain ⟨A5, c5, rfl, _⟩ := hr.form; clear hr) | (go_at_call 47; with_reducible refine (rmul_n (HXB'.out.ext (Aside.out (And.left (show KeepK w (.int .i64 f1) (.bool true) (.slice A lxa ca) (.slice B lya cb) (.int .i64 f2) (.bool true) (.slice C lxb cc) (.slice D lyb cd) _ from by assumption)))) (HYA'.out.ext (Aside.out (And.left (show KeepK w (.int .i64 f1) (.bool true) (.slice A lxa ca) (.slice B lya cb) (.int .i64 f2) (.bool true) (.slice C lxb cc) (.slice D lyb cd) _ from by assumption)))) LXB.out LYA.out HM2.out).mono ?_; rintro e w6 ⟨r, rfl, hr, he6⟩; have HR6 := Aside.mk hr.rv; have HE6 := Aside.mk he6; obtain ⟨A6, c6, rfl, _⟩ := hr.form; clear hr) | (go_at_call 120; with_reducible refine (rcmp_q (HR5.out.ext HE6.out) HR6.out HC.out).mono ?_; rintro e w7 ⟨rfl, he7⟩))
          have hk7 := KeepK.ext he7 (KeepK.ext he6 (KeepK.ext he5 hk0'))
          have HK := Aside.mk hk7
          clear hk0 hk0' he5 he6 he7
          go_wp2
          refine bodyPost_ret (v := .agg #[.int .i64 0, .bool false]) (by simp [results, Tryz.results58, go_sem, hk7]) rfl ⟨rfl, set2_ext HK.out.1.out (by omega) _ _⟩
      · have HC : Aside (cmpN m1 m2 = 0) := ⟨by simp [cmpN, hlt]⟩
        have h1 : decide (m1 < m2) = false := decide_eq_false (by omega)
        have h2 : decide (m2 < m1) = false := decide_eq_false (by omega)
        rw [h1, h2]
        clear h1 h2
        cases n1
        · clear hlt
          have hk0' := hk0.ext ((Ext.refl _).drew)
          go_enter Tryz.func58, Tryz.ntmps58
          go_wp2_with (go_at_call 65; with_reducible refine (rleast_calls HL.out).mono ?_; rintro e w' ⟨rfl, rfl⟩)
          go_region_held (fun w' => KeepK w (.int .i64 f1) (.bool false) (.slice A lxa ca) (.slice B lya cb) (.int .i64 f2) (.bool false) (.slice C lxb cc) (.slice D lyb cd) w') (first | assumption | exact KeepK.ext (by assumption) (by assumption)) (first | (go_at_call 47; with_reducible refine (rmul_n (HXA'.out.ext (Aside.out (And.left (show KeepK w (.int .i64 f1) (.bool false) (.slice A lxa ca) (.slice B lya cb) (.int .i64 f2) (.bool false) (.slice C lxb cc) (.slice D lyb cd) _ from by assumption)))) (HYB'.out.ext (Aside.out (And.left (show KeepK w (.int .i64 f1) (.bool false) (.slice A lxa ca) (.slice B lya cb) (.int .i64 f2) (.bool false) (.slice C lxb cc) (.slice D lyb cd) _ from by assumption)))) LXA.out LYB.out HM1.out).mono ?_; rintro e w5 ⟨r, rfl, hr, he5⟩; have HR5 := Aside.mk hr.rv; obtain ⟨A5, c5, rfl, _⟩ := hr.form; clear hr) | (go_at_call 47; with_reducible refine (rmul_n (HXB'.out.ext (Aside.out (And.left (show KeepK w (.int .i64 f1) (.bool false) (.slice A lxa ca) (.slice B lya cb) (.int .i64 f2) (.bool false) (.slice C lxb cc) (.slice D lyb cd) _ from by assumption)))) (HYA'.out.ext (Aside.out (And.left (show KeepK w (.int .i64 f1) (.bool false) (.slice A lxa ca) (.slice B lya cb) (.int .i64 f2) (.bool false) (.slice C lxb cc) (.slice D lyb cd) _ from by assumption)))) LXB.out LYA.out HM2.out).mono ?_; rintro e w6 ⟨r, rfl, hr, he6⟩; have HR6 := Aside.mk hr.rv; have HE6 := Aside.mk he6; obtain ⟨A6, c6, rfl, _⟩ := hr.form; clear hr) | (go_at_call 120; with_reducible refine (rcmp_q (HR5.out.ext HE6.out) HR6.out HC.out).mono ?_; rintro e w7 ⟨rfl, he7⟩))
          have hk7 := KeepK.ext he7 (KeepK.ext he6 (KeepK.ext he5 hk0'))
          have HK := Aside.mk hk7
          clear hk0 hk0' he5 he6 he7
          go_wp2
          refine bodyPost_ret (v := .agg #[.int .i64 0, .bool false]) (by simp [results, Tryz.results58, go_sem, hk7]) rfl ⟨rfl, set2_ext HK.out.1.out (by omega) _ _⟩
        · clear hlt
          have hk0' := hk0.ext ((Ext.refl _).drew)
          go_enter Tryz.func58, Tryz.ntmps58
          go_wp2_with (go_at_call 65; with_reducible refine (rleast_calls HL.out).mono ?_; rintro e w' ⟨rfl, rfl⟩)
          go_region_held (fun w' => KeepK w (.int .i64 f1) (.bool true) (.slice A lxa ca) (.slice B lya cb) (.int .i64 f2) (.bool true) (.slice C lxb cc) (.slice D lyb cd) w') (first | assumption | exact KeepK.ext (by assumption) (by assumption)) (first | (go_at_call 47; with_reducible refine (rmul_n (HXA'.out.ext (Aside.out (And.left (show KeepK w (.int .i64 f1) (.bool true) (.slice A lxa ca) (.slice B lya cb) (.int .i64 f2) (.bool true) (.slice C lxb cc) (.slice D lyb cd) _ from by assumption)))) (HYB'.out.ext (Aside.out (And.left (show KeepK w (.int .i64 f1) (.bool true) (.slice A lxa ca) (.slice B lya cb) (.int .i64 f2) (.bool true) (.slice C lxb cc) (.slice D lyb cd) _ from by assumption)))) LXA.out LYB.out HM1.out).mono ?_; rintro e w5 ⟨r, rfl, hr, he5⟩; have HR5 := Aside.mk hr.rv; obtain ⟨A5, c5, rfl, _⟩ := hr.form; clear hr) | (go_at_call 47; with_reducible refine (rmul_n (HXB'.out.ext (Aside.out (And.left (show KeepK w (.int .i64 f1) (.bool true) (.slice A lxa ca) (.slice B lya cb) (.int .i64 f2) (.bool true) (.slice C lxb cc) (.slice D lyb cd) _ from by assumption)))) (HYA'.out.ext (Aside.out (And.left (show KeepK w (.int .i64 f1) (.bool true) (.slice A lxa ca) (.slice B lya cb) (.int .i64 f2) (.bool true) (.slice C lxb cc) (.slice D lyb cd) _ from by assumption)))) LXB.out LYA.out HM2.out).mono ?_; rintro e w6 ⟨r, rfl, hr, he6⟩; have HR6 := Aside.mk hr.rv; have HE6 := Aside.mk he6; obtain ⟨A6, c6, rfl, _⟩ := hr.form; clear hr) | (go_at_call 120; with_reducible refine (rcmp_q (HR5.out.ext HE6.out) HR6.out HC.out).mono ?_; rintro e w7 ⟨rfl, he7⟩))
          have hk7 := KeepK.ext he7 (KeepK.ext he6 (KeepK.ext he5 hk0'))
          have HK := Aside.mk hk7
          clear hk0 hk0' he5 he6 he7
          go_wp2
          refine bodyPost_ret (v := .agg #[.int .i64 0, .bool false]) (by simp [results, Tryz.results58, go_sem, hk7]) rfl ⟨rfl, set2_ext HK.out.1.out (by omega) _ _⟩
      · have HC : Aside (cmpN m1 m2 = 1) := ⟨by simp only [cmpN]; rw [if_neg (by omega), if_neg (by omega)]⟩
        have h1 : decide (m1 < m2) = false := decide_eq_false (by omega)
        have h2 : decide (m2 < m1) = true := decide_eq_true hlt
        rw [h1, h2]
        clear h1 h2
        cases n1
        · clear hlt
          have hk0' := hk0.ext ((Ext.refl _).drew)
          go_enter Tryz.func58, Tryz.ntmps58
          go_wp2_with (go_at_call 65; with_reducible refine (rleast_calls HL.out).mono ?_; rintro e w' ⟨rfl, rfl⟩)
          go_region_held (fun w' => KeepK w (.int .i64 f1) (.bool false) (.slice A lxa ca) (.slice B lya cb) (.int .i64 f2) (.bool false) (.slice C lxb cc) (.slice D lyb cd) w') (first | assumption | exact KeepK.ext (by assumption) (by assumption)) (first | (go_at_call 47; with_reducible refine (rmul_n (HXA'.out.ext (Aside.out (And.left (show KeepK w (.int .i64 f1) (.bool false) (.slice A lxa ca) (.slice B lya cb) (.int .i64 f2) (.bool false) (.slice C lxb cc) (.slice D lyb cd) _ from by assumption)))) (HYB'.out.ext (Aside.out (And.left (show KeepK w (.int .i64 f1) (.bool false) (.slice A lxa ca) (.slice B lya cb) (.int .i64 f2) (.bool false) (.slice C lxb cc) (.slice D lyb cd) _ from by assumption)))) LXA.out LYB.out HM1.out).mono ?_; rintro e w5 ⟨r, rfl, hr, he5⟩; have HR5 := Aside.mk hr.rv; obtain ⟨A5, c5, rfl, _⟩ := hr.form; clear hr) | (go_at_call 47; with_reducible refine (rmul_n (HXB'.out.ext (Aside.out (And.left (show KeepK w (.int .i64 f1) (.bool false) (.slice A lxa ca) (.slice B lya cb) (.int .i64 f2) (.bool false) (.slice C lxb cc) (.slice D lyb cd) _ from by assumption)))) (HYA'.out.ext (Aside.out (And.left (show KeepK w (.int .i64 f1) (.bool false) (.slice A lxa ca) (.slice B lya cb) (.int .i64 f2) (.bool false) (.slice C lxb cc) (.slice D lyb cd) _ from by assumption)))) LXB.out LYA.out HM2.out).mono ?_; rintro e w6 ⟨r, rfl, hr, he6⟩; have HR6 := Aside.mk hr.rv; have HE6 := Aside.mk he6; obtain ⟨A6, c6, rfl, _⟩ := hr.form; clear hr) | (go_at_call 120; with_reducible refine (rcmp_q (HR5.out.ext HE6.out) HR6.out HC.out).mono ?_; rintro e w7 ⟨rfl, he7⟩))
          have hk7 := KeepK.ext he7 (KeepK.ext he6 (KeepK.ext he5 hk0'))
          have HK := Aside.mk hk7
          clear hk0 hk0' he5 he6 he7
          go_wp2
          refine bodyPost_ret (v := .agg #[.int .i64 0, .bool false]) (by simp [results, Tryz.results58, go_sem, hk7]) rfl ⟨rfl, set2_ext HK.out.1.out (by omega) _ _⟩
        · clear hlt
          have hk0' := hk0.ext ((Ext.refl _).drew)
          go_enter Tryz.func58, Tryz.ntmps58
          go_wp2_with (go_at_call 65; with_reducible refine (rleast_calls HL.out).mono ?_; rintro e w' ⟨rfl, rfl⟩)
          go_region_held (fun w' => KeepK w (.int .i64 f1) (.bool true) (.slice A lxa ca) (.slice B lya cb) (.int .i64 f2) (.bool true) (.slice C lxb cc) (.slice D lyb cd) w') (first | assumption | exact KeepK.ext (by assumption) (by assumption)) (first | (go_at_call 47; with_reducible refine (rmul_n (HXA'.out.ext (Aside.out (And.left (show KeepK w (.int .i64 f1) (.bool true) (.slice A lxa ca) (.slice B lya cb) (.int .i64 f2) (.bool true) (.slice C lxb cc) (.slice D lyb cd) _ from by assumption)))) (HYB'.out.ext (Aside.out (And.left (show KeepK w (.int .i64 f1) (.bool true) (.slice A lxa ca) (.slice B lya cb) (.int .i64 f2) (.bool true) (.slice C lxb cc) (.slice D lyb cd) _ from by assumption)))) LXA.out LYB.out HM1.out).mono ?_; rintro e w5 ⟨r, rfl, hr, he5⟩; have HR5 := Aside.mk hr.rv; obtain ⟨A5, c5, rfl, _⟩ := hr.form; clear hr) | (go_at_call 47; with_reducible refine (rmul_n (HXB'.out.ext (Aside.out (And.left (show KeepK w (.int .i64 f1) (.bool true) (.slice A lxa ca) (.slice B lya cb) (.int .i64 f2) (.bool true) (.slice C lxb cc) (.slice D lyb cd) _ from by assumption)))) (HYA'.out.ext (Aside.out (And.left (show KeepK w (.int .i64 f1) (.bool true) (.slice A lxa ca) (.slice B lya cb) (.int .i64 f2) (.bool true) (.slice C lxb cc) (.slice D lyb cd) _ from by assumption)))) LXB.out LYA.out HM2.out).mono ?_; rintro e w6 ⟨r, rfl, hr, he6⟩; have HR6 := Aside.mk hr.rv; have HE6 := Aside.mk he6; obtain ⟨A6, c6, rfl, _⟩ := hr.form; clear hr) | (go_at_call 120; with_reducible refine (rcmp_q (HR5.out.ext HE6.out) HR6.out HC.out).mono ?_; rintro e w7 ⟨rfl, he7⟩))
          have hk7 := KeepK.ext he7 (KeepK.ext he6 (KeepK.ext he5 hk0'))
          have HK := Aside.mk hk7
          clear hk0 hk0' he5 he6 he7
          go_wp2
          refine bodyPost_ret (v := .agg #[.int .i64 0, .bool true]) (by simp [results, Tryz.results58, go_sem, hk7]) rfl ⟨rfl, set2_ext HK.out.1.out (by omega) _ _⟩
    · have hlq : lessq n1 m1 n2 m2 = n1 := by simp [lessq, hn]
      have hne : (n1 == n2) = false := by simp [hn]
      have hne' : (n1 != n2) = true := by simp [bne, hne]
      rw [hlq]
      clear hlq hn
      go_enter Tryz.func58, Tryz.ntmps58
      go_wp2_with (go_at_call 65; with_reducible refine (rleast_calls HL.out).mono ?_; rintro e w' ⟨rfl, rfl⟩)
      refine bodyPost_ret (v := .agg #[.int .i64 0, .bool n1]) (by simp [results, Tryz.results58, go_sem]) rfl ⟨rfl, (((Ext.refl w).alloc _).alloc _).alloc _⟩
  · have HX : Aside (∀ z, rbit l z = (l, false)) := ⟨fun z => by simp [rbit, hz]⟩
    have hl0 : (l == 0) = false := beq_eq_false_iff_ne.2 hz
    have hl1 : (l != 0) = true := by simp [bne, hl0]
    rw [HX.out]
    clear hl hz e1 e2 e3 e4 ka kb HX
    go_enter Tryz.func58, Tryz.ntmps58
    go_wp2_with (go_at_call 65; with_reducible refine (rleast_calls HL.out).mono ?_; rintro e w' ⟨rfl, rfl⟩)
    refine bodyPost_ret (v := .agg #[.int .i64 l, .bool false]) (by simp [results, Tryz.results58, go_sem]) rfl ⟨rfl, (((Ext.refl w).alloc _).alloc _).alloc _⟩
end Go.Proofs.YtgfkachfbnbikaaGreatDoor

namespace Go.Proofs.YtgfkachfbnbikaaGreatDoor
open Go.RowKit

/-- The two cells of a box. -/
abbrev Two (w : World) (g : Nat) (x0 x1 : Value) : Prop := w.cell? ⟨g, 0, none⟩ = some x0 ∧ w.cell? ⟨g, 1, none⟩ = some x1
theorem Two.ext {a b : World} (e : Ext a b) {g : Nat} {x0 x1 : Value} (h : Two a g x0 x1) : Two b g x0 x1 := ⟨e.cell h.1, e.cell h.2⟩
theorem two_new (w : World) (x0 x1 : Value) (t : TypeId) : Two (w.alloc (.cells #[x0, x1] t)) w.heap.size x0 x1 := ⟨cell_new rfl rfl, cell_new rfl rfl⟩
theorem Two.other {a : World} {g g' : Nat} {x0 x1 : Value} (h : Two a g x0 x1) (hne : g' ≠ g) (j : Nat) (v : Value) : Two (a.setCell ⟨g', j, none⟩ v) g x0 x1 := ⟨cell_other h.1 hne, cell_other h.2 hne⟩
theorem Two.four {w : World} {g g' : Nat} {x0 x1 : Value} (h : Two w g x0 x1) (hne : g' ≠ g) (v0 v1 v2 v3 : Value) : Two (set4 w g' v0 v1 v2 v3) g x0 x1 :=
  (((h.other hne 0 v0).other hne 1 v1).other hne 2 v2).other hne 3 v3
/-- Two Rats and two bits in boxes. -/
abbrev K0 (w : World) (P Q C D : Nat) (a0 a1 a2 a3 b0 b1 b2 b3 c0 c1 d0 d1 : Value) (w' : World) : Prop := Aside (Ext w w') ∧ Four w' P a0 a1 a2 a3 ∧ Four w' Q b0 b1 b2 b3 ∧ Two w' C c0 c1 ∧ Two w' D d0 d1
theorem K0.ext {w w1 w2 : World} {P Q C D : Nat} {a0 a1 a2 a3 b0 b1 b2 b3 c0 c1 d0 d1 : Value} (e : Ext w1 w2) (h : K0 w P Q C D a0 a1 a2 a3 b0 b1 b2 b3 c0 c1 d0 d1 w1) : K0 w P Q C D a0 a1 a2 a3 b0 b1 b2 b3 c0 c1 d0 d1 w2 :=
  ⟨⟨h.1.out.trans e⟩, h.2.1.ext e, h.2.2.1.ext e, h.2.2.2.1.ext e, h.2.2.2.2.ext e⟩
abbrev K1 (w : World) (P Q C D L : Nat) (a0 a1 a2 a3 b0 b1 b2 b3 c0 c1 d0 d1 l0 l1 : Value) (w' : World) : Prop := Aside (Ext w w') ∧ Four w' P a0 a1 a2 a3 ∧ Four w' Q b0 b1 b2 b3 ∧ Two w' C c0 c1 ∧ Two w' D d0 d1 ∧ Two w' L l0 l1
abbrev K2 (w : World) (P Q C D L S : Nat) (a0 a1 a2 a3 b0 b1 b2 b3 c0 c1 d0 d1 l0 l1 s0 s1 : Value) (w' : World) : Prop := Aside (Ext w w') ∧ Four w' P a0 a1 a2 a3 ∧ Four w' Q b0 b1 b2 b3 ∧ Two w' C c0 c1 ∧ Two w' D d0 d1 ∧ Two w' L l0 l1 ∧ Two w' S s0 s1
theorem K2.ext {w w1 w2 : World} {P Q C D L S : Nat} {a0 a1 a2 a3 b0 b1 b2 b3 c0 c1 d0 d1 l0 l1 s0 s1 : Value} (e : Ext w1 w2) (h : K2 w P Q C D L S a0 a1 a2 a3 b0 b1 b2 b3 c0 c1 d0 d1 l0 l1 s0 s1 w1) : K2 w P Q C D L S a0 a1 a2 a3 b0 b1 b2 b3 c0 c1 d0 d1 l0 l1 s0 s1 w2 :=
  ⟨⟨h.1.out.trans e⟩, h.2.1.ext e, h.2.2.1.ext e, h.2.2.2.1.ext e, h.2.2.2.2.1.ext e, h.2.2.2.2.2.1.ext e, h.2.2.2.2.2.2.ext e⟩
abbrev K3 (w : World) (C D A : Nat) (c0 c1 d0 d1 a0 a1 : Value) (w' : World) : Prop := Aside (Ext w w') ∧ Two w' C c0 c1 ∧ Two w' D d0 d1 ∧ Two w' A a0 a1
abbrev KQ (w : World) (C D A O : Nat) (c0 c1 d0 d1 a0 a1 o0 o1 : Value) (w' : World) : Prop := Aside (Ext w w') ∧ Two w' C c0 c1 ∧ Two w' D d0 d1 ∧ Two w' A a0 a1 ∧ Two w' O o0 o1
theorem KQ.ext {w w1 w2 : World} {C D A O : Nat} {c0 c1 d0 d1 a0 a1 o0 o1 : Value} (e : Ext w1 w2) (h : KQ w C D A O c0 c1 d0 d1 a0 a1 o0 o1 w1) : KQ w C D A O c0 c1 d0 d1 a0 a1 o0 o1 w2 :=
  ⟨⟨h.1.out.trans e⟩, h.2.1.ext e, h.2.2.1.ext e, h.2.2.2.1.ext e, h.2.2.2.2.ext e⟩
theorem K0.init (w : World) (a0 a1 a2 a3 b0 b1 b2 b3 c0 c1 d0 d1 : Value) (t t' t2 t3 : TypeId) : K0 w w.heap.size (w.heap.size + 1) (w.heap.size + 2) (w.heap.size + 3) a0 a1 a2 a3 b0 b1 b2 b3 c0 c1 d0 d1
    ((((w.alloc (.cells #[a0, a1, a2, a3] t)).alloc (.cells #[b0, b1, b2, b3] t')).alloc (.cells #[c0, c1] t2)).alloc (.cells #[d0, d1] t3)) :=
  ⟨⟨((((Ext.refl w).alloc _).alloc _).alloc _).alloc _⟩, ⟨cell_old (cell_old (cell_old (cell_new rfl rfl))), cell_old (cell_old (cell_old (cell_new rfl rfl))), cell_old (cell_old (cell_old (cell_new rfl rfl))), cell_old (cell_old (cell_old (cell_new rfl rfl)))⟩,
    ⟨cell_old (cell_old (cell_new (by simp) rfl)), cell_old (cell_old (cell_new (by simp) rfl)), cell_old (cell_old (cell_new (by simp) rfl)), cell_old (cell_old (cell_new (by simp) rfl))⟩,
    ⟨cell_old (cell_new (by simp) rfl), cell_old (cell_new (by simp) rfl)⟩, ⟨cell_new (by simp) rfl, cell_new (by simp) rfl⟩⟩
theorem K0.big {w w1 : World} {P Q C D : Nat} {a0 a1 a2 a3 b0 b1 b2 b3 c0 c1 d0 d1 : Value} (h : K0 w P Q C D a0 a1 a2 a3 b0 b1 b2 b3 c0 c1 d0 d1 w1) : D + 1 ≤ w1.heap.size := World.block_lt_of_cell? _ _ h.2.2.2.2.1
theorem K0.four {w w1 : World} {P Q C D : Nat} {a0 a1 a2 a3 b0 b1 b2 b3 c0 c1 d0 d1 : Value} (h : K0 w P Q C D a0 a1 a2 a3 b0 b1 b2 b3 c0 c1 d0 d1 w1) {g : Nat} (hw : w.heap.size ≤ g) (h1 : P < g) (h2 : Q < g) (h3 : C < g) (h4 : D < g) (v0 v1 v2 v3 : Value) : K0 w P Q C D a0 a1 a2 a3 b0 b1 b2 b3 c0 c1 d0 d1 (set4 w1 g v0 v1 v2 v3) :=
  ⟨⟨ext_set4 h.1.out hw _ _ _ _⟩, h.2.1.four (by omega) _ _ _ _, h.2.2.1.four (by omega) _ _ _ _, h.2.2.2.1.four (by omega) _ _ _ _, h.2.2.2.2.four (by omega) _ _ _ _⟩

set_option maxRecDepth 10000 in
set_option maxHeartbeats 10000000 in
theorem fbits_calls {w : World} {f1 f2 f3 f4 : Int} {n1 n2 o3 o4 : Bool} {sx1 sy1 sx2 sy2 : Value} {xs1 ys1 xs2 ys2 : List Nat} (hg : Glob w) (hx1 : RL w sx1 xs1) (hy1 : RL w sy1 ys1) (hx2 : RL w sx2 xs2) (hy2 : RL w sy2 ys2) :
    Calls Tryz.prog 14 #[.agg #[.int .i64 f1, .bool n1, sx1, sy1], .agg #[.int .i64 f2, .bool n2, sx2, sy2], .agg #[.int .i64 f3, .bool o3], .agg #[.int .i64 f4, .bool o4]] w fun e w' => e = .returned (.bool true) ∧ Ext w w' := by
  have HG := Aside.mk hg
  have HX1 := Aside.mk hx1
  have HY1 := Aside.mk hy1
  have HX2 := Aside.mk hx2
  have HY2 := Aside.mk hy2
  obtain ⟨a, ha⟩ : ∃ a : Rq, (⟨f1, n1, xs1.take 132, ys1.take 132⟩ : Rq) = a := ⟨_, rfl⟩
  obtain ⟨b, hb⟩ : ∃ b : Rq, (⟨f2, n2, xs2.take 132, ys2.take 132⟩ : Rq) = b := ⟨_, rfl⟩
  have HQ1 := Aside.mk ha
  have HQ2 := Aside.mk hb
  obtain ⟨AX1, cx1, rfl, _⟩ := hx1
  obtain ⟨AY1, cy1, rfl, _⟩ := hy1
  obtain ⟨AX2, cx2, rfl, _⟩ := hx2
  obtain ⟨AY2, cy2, rfl, _⟩ := hy2
  generalize xs1.length = nx1 at *
  generalize ys1.length = ny1 at *
  generalize xs2.length = nx2 at *
  generalize ys2.length = ny2 at *
  clear ha hb hg
  have hk0 := K0.ext (Ext.refl _).drew (K0.init w (.int .i64 f1) (.bool n1) (.slice AX1 nx1 cx1) (.slice AY1 ny1 cy1) (.int .i64 f2) (.bool n2) (.slice AX2 nx2 cx2) (.slice AY2 ny2 cy2) (.int .i64 f3) (.bool o3) (.int .i64 f4) (.bool o4) 26 26 55 55)
  have HL : Lasts (K0 w w.heap.size (w.heap.size + 1) (w.heap.size + 2) (w.heap.size + 3) (.int .i64 f1) (.bool n1) (.slice AX1 nx1 cx1) (.slice AY1 ny1 cy1) (.int .i64 f2) (.bool n2) (.slice AX2 nx2 cx2) (.slice AY2 ny2 cy2) (.int .i64 f3) (.bool o3) (.int .i64 f4) (.bool o4)) (w.heap.size + 4) := ⟨fun _ _ e h => K0.ext e h, fun _ _ _ _ _ _ h k => K0.four k (by omega) (by omega) (by omega) (by omega) (by omega) _ _ _ _⟩
  have HK0 := Aside.mk hk0
  clear hk0
  go_enter Tryz.func14, Tryz.ntmps14
  go_upto_region 1 with fail
  refine wp_region_each (fun a0 l a' w' => ∃ (vl vc vb : Nat → Value) (P : Nat → Nat), a' = (((((a0.put (some 19) (vl 0)).put (some 20) (vc 0)).put (some 21) (vl 1)).put (some 22) (vc 1)).put (some 9) (vb 0)).put (some 10) (vb 1) ∧
    InvN 2 l (K0 w w.heap.size (w.heap.size + 1) (w.heap.size + 2) (w.heap.size + 3) (.int .i64 f1) (.bool n1) (.slice AX1 nx1 cx1) (.slice AY1 ny1 cy1) (.int .i64 f2) (.bool n2) (.slice AX2 nx2 cx2) (.slice AY2 ny2 cy2) (.int .i64 f3) (.bool o3) (.int .i64 f4) (.bool o4)) (w.heap.size + 4)
      (two (.agg #[.int .i64 f1, .bool n1, .slice AX1 nx1 cx1, .slice AY1 ny1 cy1]) (.agg #[.int .i64 f2, .bool n2, .slice AX2 nx2 cx2, .slice AY2 ny2 cy2])) (two a b) vl vc vb P w') (by kernel_rfl) (by kernel_rfl) ?start ?fin ?each
  case start => exact ⟨fun _ => undef, fun _ => undef, fun _ => undef, fun _ => 0, rfl, InvN.start HK0.out (K0.big HK0.out)⟩
  case each =>
    refine Each.cons (j := 1) rfl ?s0 (Each.cons (j := 2) rfl ?s1 (Each.cons (j := 3) rfl ?s2 (Each.cons (j := 4) rfl ?s3 (Each.cons (j := 5) rfl ?s4 (Each.cons (j := 6) rfl ?s5 (Each.cons (j := 7) rfl ?s6 (Each.cons (j := 8) rfl ?s7 Each.nil)))))))
    case s0 =>
      rintro l a' w' - - ⟨vl, vc, vb, P, rfl, I⟩
      have hk := I.keep
      intro K' hK
      simp only [Act.put, List.setIfInBounds_toArray, List.set_cons_zero, List.set_cons_succ]
      go_simp
      exact hK.out _ _ ⟨upd vl 0 _, vc, vb, P, rfl, I.loads 0 (by decide)⟩
    case s1 =>
      rintro l a' w' h0 hd ⟨vl, vc, vb, P, rfl, I⟩
      obtain ⟨vl, rfl⟩ := upd_eta (I.load 0 (by decide) (hd (2 * 0) (by decide)))
      have HK := Aside.mk I.keep.1.out
      clear hd
      intro K' hK
      simp only [Act.put, List.setIfInBounds_toArray, List.set_cons_zero, List.set_cons_succ, upd_same, two0]
      go_simp
      go_wp2_with (go_at_call 25; with_reducible refine (rat_q (HX1.out.ext HK.out) (HY1.out.ext HK.out) HQ1.out).mono ?_; rintro e w4 ⟨r, rfl, hr, he⟩)
      exact hK.out _ _ ⟨upd vl 0 _, upd vc 0 r, vb, P, rfl, I.calls HL 0 (by decide) h0 he hr⟩
    case s2 =>
      rintro l a' w' - - ⟨vl, vc, vb, P, rfl, I⟩
      have hk := I.keep
      intro K' hK
      simp only [Act.put, List.setIfInBounds_toArray, List.set_cons_zero, List.set_cons_succ]
      go_simp
      exact hK.out _ _ ⟨upd vl 1 _, vc, vb, P, rfl, I.loads 1 (by decide)⟩
    case s3 =>
      rintro l a' w' h0 hd ⟨vl, vc, vb, P, rfl, I⟩
      obtain ⟨vl, rfl⟩ := upd_eta (I.load 1 (by decide) (hd (2 * 1) (by decide)))
      have HK := Aside.mk I.keep.1.out
      clear hd
      intro K' hK
      simp only [Act.put, List.setIfInBounds_toArray, List.set_cons_zero, List.set_cons_succ, upd_same, two1]
      go_simp
      go_wp2_with (go_at_call 25; with_reducible refine (rat_q (HX2.out.ext HK.out) (HY2.out.ext HK.out) HQ2.out).mono ?_; rintro e w4 ⟨r, rfl, hr, he⟩)
      exact hK.out _ _ ⟨upd vl 1 _, upd vc 1 r, vb, P, rfl, I.calls HL 1 (by decide) h0 he hr⟩
    case s4 =>
      rintro l a' w' h0 - ⟨vl, vc, vb, P, rfl, I⟩
      intro K' hK
      simp only [Act.put, List.setIfInBounds_toArray, List.set_cons_zero, List.set_cons_succ]
      go_simp
      exact hK.out _ _ ⟨vl, vc, upd vb 0 _, upd P 0 _, rfl, I.allocs HL 0 (by decide) h0⟩
    case s5 =>
      rintro l a' w' h0 - ⟨vl, vc, vb, P, rfl, I⟩
      intro K' hK
      simp only [Act.put, List.setIfInBounds_toArray, List.set_cons_zero, List.set_cons_succ]
      go_simp
      exact hK.out _ _ ⟨vl, vc, upd vb 1 _, upd P 1 _, rfl, I.allocs HL 1 (by decide) h0⟩
    case s6 =>
      rintro l a' w' - hd ⟨vl, vc, vb, P, rfl, I⟩
      have hb := hd (2 * 2 + 0) (List.elem_iff.1 (by kernel_rfl))
      have hc := hd (2 * 0 + 1) (List.elem_iff.1 (by kernel_rfl))
      obtain ⟨hbx, -, x0, x1, x2, x3, ⟨hx0, hx1, hx2, hx3⟩, hf0, hf1, hf2, hf3⟩ := I.box 0 (by decide) hb
      obtain ⟨_, _, hro, -⟩ := I.call 0 (by decide) hc
      obtain ⟨A3, c3, B3, d3, hv⟩ := hro.form
      have hv' := hv
      obtain ⟨vb, rfl⟩ := upd_eta hbx
      obtain ⟨vc, rfl⟩ := upd_eta hv
      clear hd hro hbx hv
      intro K' hK
      simp only [Act.put, List.setIfInBounds_toArray, List.set_cons_zero, List.set_cons_succ, upd_same]
      go_simp
      exact hK.out _ _ ⟨vl, upd vc 0 _, upd vb 0 _, P, rfl, I.stores HL 0 (by decide) hb hc hv'⟩
    case s7 =>
      rintro l a' w' - hd ⟨vl, vc, vb, P, rfl, I⟩
      have hb := hd (2 * 2 + 1) (List.elem_iff.1 (by kernel_rfl))
      have hc := hd (2 * 1 + 1) (List.elem_iff.1 (by kernel_rfl))
      obtain ⟨hbx, -, x0, x1, x2, x3, ⟨hx0, hx1, hx2, hx3⟩, hf0, hf1, hf2, hf3⟩ := I.box 1 (by decide) hb
      obtain ⟨_, _, hro, -⟩ := I.call 1 (by decide) hc
      obtain ⟨A3, c3, B3, d3, hv⟩ := hro.form
      have hv' := hv
      obtain ⟨vb, rfl⟩ := upd_eta hbx
      obtain ⟨vc, rfl⟩ := upd_eta hv
      clear hd hro hbx hv
      intro K' hK
      simp only [Act.put, List.setIfInBounds_toArray, List.set_cons_zero, List.set_cons_succ, upd_same]
      go_simp
      exact hK.out _ _ ⟨vl, upd vc 1 _, upd vb 1 _, P, rfl, I.stores HL 1 (by decide) hb hc hv'⟩
  case fin =>
    clear HX1 HY1 HX2 HY2 HQ1 HQ2 HL HK0
    rintro l a' w1 hl ⟨vl, vc, vb, P, rfl, I⟩
    obtain ⟨hke, hD⟩ := I.done (fun i hi => hl i hi)
    obtain ⟨hb0, -, hh0, hr0⟩ := hD 0 (by decide)
    obtain ⟨hb1, -, hh1, hr1⟩ := hD 1 (by decide)
    rw [two0] at hr0
    rw [two1] at hr1
    obtain ⟨A0, c0, B0, d0, hv0, h40⟩ := hh0.rr hr0
    obtain ⟨A1, c1, B1, d1, hv1, h41⟩ := hh1.rr hr1
    rw [hv0] at hr0
    rw [hv1] at hr1
    rw [hb0, hb1]
    generalize P 0 = p0 at *
    generalize P 1 = p1 at *
    generalize vl 0 = z0 at *
    generalize vl 1 = z1 at *
    generalize vc 0 = z2 at *
    generalize vc 1 = z3 at *
    have HA := Aside.mk hr0
    have HB := Aside.mk hr1
    have HE1 := Aside.mk hke.1.out
    have HG1 := Aside.mk (HG.out.ext hke.1.out)
    have hk1 : K0 w1 p0 p1 (w.heap.size + 2) (w.heap.size + 3) (.int .i64 a.f) (.bool a.neg) (.slice A0 a.num.length c0) (.slice B0 a.den.length d0) (.int .i64 b.f) (.bool b.neg) (.slice A1 b.num.length c1) (.slice B1 b.den.length d1) (.int .i64 f3) (.bool o3) (.int .i64 f4) (.bool o4) w1 := ⟨⟨Ext.refl _⟩, h40, h41, hke.2.2.2.1, hke.2.2.2.2⟩
    clear hl I hke hD hb0 hb1 hh0 hh1 hr0 hr1 hv0 hv1 h40 h41 vl vc vb P HG
    generalize hlq : lessq a.neg (val a.num * val b.den) b.neg (val b.num * val a.den) = lq at *
    generalize hsq : sameq a b = sq at *
    by_cases hbits : (okb f3 o3 && okb f4 o4) = true
    · rw [Bool.and_eq_true] at hbits
      have HOC := Aside.mk hbits.1
      have HOD := Aside.mk hbits.2
      obtain ⟨⟨a1, a2⟩, hra⟩ : ∃ x, rbit (leastq f3 f4) (o3 && o4) = x := ⟨_, rfl⟩
      obtain ⟨⟨r1, r2⟩, hro⟩ : ∃ x, rbit (leastq f3 f4) (o3 || o4) = x := ⟨_, rfl⟩
      have HRA := Aside.mk hra
      have HRO := Aside.mk hro
      have HMA : Aside (bitq f3 f4 o3 o4 (o3 && o4) = ((a1, a2), 0)) := ⟨by unfold bitq; rw [hbits.1, hbits.2, hra]; rfl⟩
      have HMO : Aside (bitq f3 f4 o3 o4 (o3 || o4) = ((r1, r2), 0)) := ⟨by unfold bitq; rw [hbits.1, hbits.2, hro]; rfl⟩
      clear hbits hra hro
      by_cases hgood : (okq a && okq b) = true
      · rw [Bool.and_eq_true] at hgood
        have HKA := Aside.mk hgood.1
        have HKB := Aside.mk hgood.2
        obtain ⟨⟨l1, l2⟩, hrl⟩ : ∃ x, rbit (leastq a.f b.f) lq = x := ⟨_, rfl⟩
        obtain ⟨⟨s1, s2⟩, hrs⟩ : ∃ x, rbit (leastq a.f b.f) sq = x := ⟨_, rfl⟩
        have HRL : Aside (rbit (leastq a.f b.f) (lessq a.neg (val a.num * val b.den) b.neg (val b.num * val a.den)) = (l1, l2)) := ⟨by rw [hlq]; exact hrl⟩
        have HRS : Aside (rbit (leastq a.f b.f) (sameq a b) = (s1, s2)) := ⟨by rw [hsq]; exact hrs⟩
        have HML : Aside (askq a b (lessq a.neg (val a.num * val b.den) b.neg (val b.num * val a.den)) = ((l1, l2), 0)) := ⟨by unfold askq; rw [hgood.1, hgood.2, hlq, hrl]; rfl⟩
        have HMS : Aside (askq a b (sameq a b) = ((s1, s2), 0)) := ⟨by unfold askq; rw [hgood.1, hgood.2, hsq, hrs]; rfl⟩
        clear hgood hrl hrs hlq hsq
        refine ⟨?_⟩
        simp only [Act.put, List.setIfInBounds_toArray, List.set_cons_zero, List.set_cons_succ]
        go_wp2_with (first | (go_at_call 56; with_reducible refine (Less2_calls HA.out HB.out HML.out).mono ?_; rintro e w2 ⟨rfl, he⟩; have hk2 : K1 w1 p0 p1 (w.heap.size + 2) (w.heap.size + 3) w2.heap.size (.int .i64 a.f) (.bool a.neg) (.slice A0 a.num.length c0) (.slice B0 a.den.length d0) (.int .i64 b.f) (.bool b.neg) (.slice A1 b.num.length c1) (.slice B1 b.den.length d1) (.int .i64 f3) (.bool o3) (.int .i64 f4) (.bool o4) (.int .i64 l1) (.bool l2) (w2.alloc (.cells #[.int .i64 l1, .bool l2] 55)) := ⟨⟨he.alloc _⟩, (hk1.2.1.ext he).ext ((Ext.refl _).alloc _), (hk1.2.2.1.ext he).ext ((Ext.refl _).alloc _), (hk1.2.2.2.1.ext he).ext ((Ext.refl _).alloc _), (hk1.2.2.2.2.ext he).ext ((Ext.refl _).alloc _), two_new w2 _ _ _⟩; clear hk1 he) | (go_at_call 57; with_reducible refine (Same2_calls (HA.out.ext hk2.1.out) (HB.out.ext hk2.1.out) HMS.out).mono ?_; rintro e w3 ⟨rfl, he⟩; have hkr : K2 w1 p0 p1 (w.heap.size + 2) (w.heap.size + 3) w2.heap.size w3.heap.size (.int .i64 a.f) (.bool a.neg) (.slice A0 a.num.length c0) (.slice B0 a.den.length d0) (.int .i64 b.f) (.bool b.neg) (.slice A1 b.num.length c1) (.slice B1 b.den.length d1) (.int .i64 f3) (.bool o3) (.int .i64 f4) (.bool o4) (.int .i64 l1) (.bool l2) (.int .i64 s1) (.bool s2) (w3.alloc (.cells #[.int .i64 s1, .bool s2] 55)) := ⟨⟨(hk2.1.out.trans he).alloc _⟩, (hk2.2.1.ext he).ext ((Ext.refl _).alloc _), (hk2.2.2.1.ext he).ext ((Ext.refl _).alloc _), (hk2.2.2.2.1.ext he).ext ((Ext.refl _).alloc _), (hk2.2.2.2.2.1.ext he).ext ((Ext.refl _).alloc _), (hk2.2.2.2.2.2.ext he).ext ((Ext.refl _).alloc _), two_new w3 _ _ _⟩; clear hk2 he) | (go_at_call 27; with_reducible refine (risrat_calls (HA.out.ext hkr.1.out) HKA.out).mono ?_; rintro e w4 ⟨rfl, he⟩; replace hkr := K2.ext he hkr; clear he) | (go_at_call 27; with_reducible refine (risrat_calls (HB.out.ext hkr.1.out) HKB.out).mono ?_; rintro e w5 ⟨rfl, he⟩; replace hkr := K2.ext he hkr; clear he))
        replace hkr := K2.ext (Ext.refl _).drew hkr
        go_region_held (fun w' => K2 w1 p0 p1 (w.heap.size + 2) (w.heap.size + 3) w2.heap.size w3.heap.size (.int .i64 a.f) (.bool a.neg) (.slice A0 a.num.length c0) (.slice B0 a.den.length d0) (.int .i64 b.f) (.bool b.neg) (.slice A1 b.num.length c1) (.slice B1 b.den.length d1) (.int .i64 f3) (.bool o3) (.int .i64 f4) (.bool o4) (.int .i64 l1) (.bool l2) (.int .i64 s1) (.bool s2) w') (first | assumption | exact K2.ext (by assumption) (by assumption)) (first | (go_at_call 58; with_reducible refine (rLess_calls (HA.out.ext (Aside.out (And.left (show K2 w1 p0 p1 (w.heap.size + 2) (w.heap.size + 3) w2.heap.size w3.heap.size (.int .i64 a.f) (.bool a.neg) (.slice A0 a.num.length c0) (.slice B0 a.den.length d0) (.int .i64 b.f) (.bool b.neg) (.slice A1 b.num.length c1) (.slice B1 b.den.length d1) (.int .i64 f3) (.bool o3) (.int .i64 f4) (.bool o4) (.int .i64 l1) (.bool l2) (.int .i64 s1) (.bool s2) _ from by assumption)))) (HB.out.ext (Aside.out (And.left (show K2 w1 p0 p1 (w.heap.size + 2) (w.heap.size + 3) w2.heap.size w3.heap.size (.int .i64 a.f) (.bool a.neg) (.slice A0 a.num.length c0) (.slice B0 a.den.length d0) (.int .i64 b.f) (.bool b.neg) (.slice A1 b.num.length c1) (.slice B1 b.den.length d1) (.int .i64 f3) (.bool o3) (.int .i64 f4) (.bool o4) (.int .i64 l1) (.bool l2) (.int .i64 s1) (.bool s2) _ from by assumption)))) HKA.out HKB.out HRL.out).mono ?_; rintro e w6 ⟨rfl, he6⟩) | (go_at_call 59; with_reducible refine (rSame_calls (HA.out.ext (Aside.out (And.left (show K2 w1 p0 p1 (w.heap.size + 2) (w.heap.size + 3) w2.heap.size w3.heap.size (.int .i64 a.f) (.bool a.neg) (.slice A0 a.num.length c0) (.slice B0 a.den.length d0) (.int .i64 b.f) (.bool b.neg) (.slice A1 b.num.length c1) (.slice B1 b.den.length d1) (.int .i64 f3) (.bool o3) (.int .i64 f4) (.bool o4) (.int .i64 l1) (.bool l2) (.int .i64 s1) (.bool s2) _ from by assumption)))) (HB.out.ext (Aside.out (And.left (show K2 w1 p0 p1 (w.heap.size + 2) (w.heap.size + 3) w2.heap.size w3.heap.size (.int .i64 a.f) (.bool a.neg) (.slice A0 a.num.length c0) (.slice B0 a.den.length d0) (.int .i64 b.f) (.bool b.neg) (.slice A1 b.num.length c1) (.slice B1 b.den.length d1) (.int .i64 f3) (.bool o3) (.int .i64 f4) (.bool o4) (.int .i64 l1) (.bool l2) (.int .i64 s1) (.bool s2) _ from by assumption)))) HRS.out).mono ?_; rintro e w7 ⟨rfl, he7⟩))
        replace hkr := K2.ext he7 (K2.ext he6 hkr)
        clear he6 he7
        go_wp2_with (first | (go_at_call 60; with_reducible refine (and2_calls HMA.out).mono ?_; rintro e w8 ⟨rfl, he⟩; have hk8 : K3 w1 (w.heap.size + 2) (w.heap.size + 3) w8.heap.size (.int .i64 f3) (.bool o3) (.int .i64 f4) (.bool o4) (.int .i64 a1) (.bool a2) (w8.alloc (.cells #[.int .i64 a1, .bool a2] 55)) := ⟨⟨(hkr.1.out.trans he).alloc _⟩, (hkr.2.2.2.1.ext he).ext ((Ext.refl _).alloc _), (hkr.2.2.2.2.1.ext he).ext ((Ext.refl _).alloc _), two_new w8 _ _ _⟩; clear hkr he) | (go_at_call 61; with_reducible refine (or2_calls HMO.out).mono ?_; rintro e w9 ⟨rfl, he⟩; have hkq : KQ w1 (w.heap.size + 2) (w.heap.size + 3) w8.heap.size w9.heap.size (.int .i64 f3) (.bool o3) (.int .i64 f4) (.bool o4) (.int .i64 a1) (.bool a2) (.int .i64 r1) (.bool r2) (w9.alloc (.cells #[.int .i64 r1, .bool r2] 55)) := ⟨⟨(hk8.1.out.trans he).alloc _⟩, (hk8.2.1.ext he).ext ((Ext.refl _).alloc _), (hk8.2.2.1.ext he).ext ((Ext.refl _).alloc _), (hk8.2.2.2.ext he).ext ((Ext.refl _).alloc _), two_new w9 _ _ _⟩; clear hk8 he) | (go_at_call 48; with_reducible refine (risbit_calls HOC.out).mono ?_; rintro e w10 ⟨rfl, he⟩; replace hkq := KQ.ext he hkq; clear he) | (go_at_call 48; with_reducible refine (risbit_calls HOD.out).mono ?_; rintro e w11 ⟨rfl, he⟩; replace hkq := KQ.ext he hkq; clear he))
        replace hkq := KQ.ext (Ext.refl _).drew hkq
        go_region_held (fun w' => KQ w1 (w.heap.size + 2) (w.heap.size + 3) w8.heap.size w9.heap.size (.int .i64 f3) (.bool o3) (.int .i64 f4) (.bool o4) (.int .i64 a1) (.bool a2) (.int .i64 r1) (.bool r2) w') (first | assumption | exact KQ.ext (by assumption) (by assumption)) (first | (go_at_call 62; with_reducible refine (rand2_calls HRA.out).mono ?_; rintro e w13 ⟨rfl, he13⟩) | (go_at_call 63; with_reducible refine (ror2_calls HRO.out).mono ?_; rintro e w14 ⟨rfl, he14⟩) | (go_at_call 23; with_reducible refine (alive_calls (HG1.out.ext (Aside.out (And.left (show KQ w1 (w.heap.size + 2) (w.heap.size + 3) w8.heap.size w9.heap.size (.int .i64 f3) (.bool o3) (.int .i64 f4) (.bool o4) (.int .i64 a1) (.bool a2) (.int .i64 r1) (.bool r2) _ from by assumption))))).mono ?_; rintro e w15 ⟨rfl, he15⟩))
        replace hkq := KQ.ext he15 (KQ.ext he14 (KQ.ext he13 hkq))
        have HEND := Aside.mk (HE1.out.trans hkq.1.out)
        clear hkq he13 he14 he15
        go_wp2
        go_ret
        exact ⟨rfl, HEND.out⟩
      · have hbadr : (okq a && okq b) = false := by simpa using hgood
        have HML : Aside (askq a b (lessq a.neg (val a.num * val b.den) b.neg (val b.num * val a.den)) = ((0, false), 5)) := ⟨by unfold askq; rw [hbadr]; rfl⟩
        have HMS : Aside (askq a b (sameq a b) = ((0, false), 5)) := ⟨by unfold askq; rw [hbadr]; rfl⟩
        cases hka : okq a
        · have HKA := Aside.mk hka
          clear hgood hbadr hka hlq hsq
          refine ⟨?_⟩
          simp only [Act.put, List.setIfInBounds_toArray, List.set_cons_zero, List.set_cons_succ]
          go_wp2_with (first | (go_at_call 56; with_reducible refine (Less2_calls HA.out HB.out HML.out).mono ?_; rintro e w2 ⟨rfl, he⟩; have hk2 : K1 w1 p0 p1 (w.heap.size + 2) (w.heap.size + 3) w2.heap.size (.int .i64 a.f) (.bool a.neg) (.slice A0 a.num.length c0) (.slice B0 a.den.length d0) (.int .i64 b.f) (.bool b.neg) (.slice A1 b.num.length c1) (.slice B1 b.den.length d1) (.int .i64 f3) (.bool o3) (.int .i64 f4) (.bool o4) (.int .i64 0) (.bool false) (w2.alloc (.cells #[.int .i64 0, .bool false] 55)) := ⟨⟨he.alloc _⟩, (hk1.2.1.ext he).ext ((Ext.refl _).alloc _), (hk1.2.2.1.ext he).ext ((Ext.refl _).alloc _), (hk1.2.2.2.1.ext he).ext ((Ext.refl _).alloc _), (hk1.2.2.2.2.ext he).ext ((Ext.refl _).alloc _), two_new w2 _ _ _⟩; clear hk1 he) | (go_at_call 57; with_reducible refine (Same2_calls (HA.out.ext hk2.1.out) (HB.out.ext hk2.1.out) HMS.out).mono ?_; rintro e w3 ⟨rfl, he⟩; have hkr : K2 w1 p0 p1 (w.heap.size + 2) (w.heap.size + 3) w2.heap.size w3.heap.size (.int .i64 a.f) (.bool a.neg) (.slice A0 a.num.length c0) (.slice B0 a.den.length d0) (.int .i64 b.f) (.bool b.neg) (.slice A1 b.num.length c1) (.slice B1 b.den.length d1) (.int .i64 f3) (.bool o3) (.int .i64 f4) (.bool o4) (.int .i64 0) (.bool false) (.int .i64 0) (.bool false) (w3.alloc (.cells #[.int .i64 0, .bool false] 55)) := ⟨⟨(hk2.1.out.trans he).alloc _⟩, (hk2.2.1.ext he).ext ((Ext.refl _).alloc _), (hk2.2.2.1.ext he).ext ((Ext.refl _).alloc _), (hk2.2.2.2.1.ext he).ext ((Ext.refl _).alloc _), (hk2.2.2.2.2.1.ext he).ext ((Ext.refl _).alloc _), (hk2.2.2.2.2.2.ext he).ext ((Ext.refl _).alloc _), two_new w3 _ _ _⟩; clear hk2 he) | (go_at_call 27; with_reducible refine (risrat_calls (HA.out.ext hkr.1.out) HKA.out).mono ?_; rintro e w4 ⟨rfl, he⟩; replace hkr := K2.ext he hkr; clear he) | (go_at_call 60; with_reducible refine (and2_calls HMA.out).mono ?_; rintro e w8 ⟨rfl, he⟩; have hk8 : K3 w1 (w.heap.size + 2) (w.heap.size + 3) w8.heap.size (.int .i64 f3) (.bool o3) (.int .i64 f4) (.bool o4) (.int .i64 a1) (.bool a2) (w8.alloc (.cells #[.int .i64 a1, .bool a2] 55)) := ⟨⟨(hkr.1.out.trans he).alloc _⟩, (hkr.2.2.2.1.ext he).ext ((Ext.refl _).alloc _), (hkr.2.2.2.2.1.ext he).ext ((Ext.refl _).alloc _), two_new w8 _ _ _⟩; clear hkr he) | (go_at_call 61; with_reducible refine (or2_calls HMO.out).mono ?_; rintro e w9 ⟨rfl, he⟩; have hkq : KQ w1 (w.heap.size + 2) (w.heap.size + 3) w8.heap.size w9.heap.size (.int .i64 f3) (.bool o3) (.int .i64 f4) (.bool o4) (.int .i64 a1) (.bool a2) (.int .i64 r1) (.bool r2) (w9.alloc (.cells #[.int .i64 r1, .bool r2] 55)) := ⟨⟨(hk8.1.out.trans he).alloc _⟩, (hk8.2.1.ext he).ext ((Ext.refl _).alloc _), (hk8.2.2.1.ext he).ext ((Ext.refl _).alloc _), (hk8.2.2.2.ext he).ext ((Ext.refl _).alloc _), two_new w9 _ _ _⟩; clear hk8 he) | (go_at_call 48; with_reducible refine (risbit_calls HOC.out).mono ?_; rintro e w10 ⟨rfl, he⟩; replace hkq := KQ.ext he hkq; clear he) | (go_at_call 48; with_reducible refine (risbit_calls HOD.out).mono ?_; rintro e w11 ⟨rfl, he⟩; replace hkq := KQ.ext he hkq; clear he))
          replace hkq := KQ.ext (Ext.refl _).drew hkq
          go_region_held (fun w' => KQ w1 (w.heap.size + 2) (w.heap.size + 3) w8.heap.size w9.heap.size (.int .i64 f3) (.bool o3) (.int .i64 f4) (.bool o4) (.int .i64 a1) (.bool a2) (.int .i64 r1) (.bool r2) w') (first | assumption | exact KQ.ext (by assumption) (by assumption)) (first | (go_at_call 62; with_reducible refine (rand2_calls HRA.out).mono ?_; rintro e w13 ⟨rfl, he13⟩) | (go_at_call 63; with_reducible refine (ror2_calls HRO.out).mono ?_; rintro e w14 ⟨rfl, he14⟩) | (go_at_call 23; with_reducible refine (alive_calls (HG1.out.ext (Aside.out (And.left (show KQ w1 (w.heap.size + 2) (w.heap.size + 3) w8.heap.size w9.heap.size (.int .i64 f3) (.bool o3) (.int .i64 f4) (.bool o4) (.int .i64 a1) (.bool a2) (.int .i64 r1) (.bool r2) _ from by assumption))))).mono ?_; rintro e w15 ⟨rfl, he15⟩))
          replace hkq := KQ.ext he15 (KQ.ext he14 (KQ.ext he13 hkq))
          have HEND := Aside.mk (HE1.out.trans hkq.1.out)
          clear hkq he13 he14 he15
          go_wp2
          go_ret
          exact ⟨rfl, HEND.out⟩
        · have HKA := Aside.mk hka
          have HKB : Aside (okq b = false) := ⟨by rw [hka] at hbadr; simpa using hbadr⟩
          clear hgood hbadr hka hlq hsq
          refine ⟨?_⟩
          simp only [Act.put, List.setIfInBounds_toArray, List.set_cons_zero, List.set_cons_succ]
          go_wp2_with (first | (go_at_call 56; with_reducible refine (Less2_calls HA.out HB.out HML.out).mono ?_; rintro e w2 ⟨rfl, he⟩; have hk2 : K1 w1 p0 p1 (w.heap.size + 2) (w.heap.size + 3) w2.heap.size (.int .i64 a.f) (.bool a.neg) (.slice A0 a.num.length c0) (.slice B0 a.den.length d0) (.int .i64 b.f) (.bool b.neg) (.slice A1 b.num.length c1) (.slice B1 b.den.length d1) (.int .i64 f3) (.bool o3) (.int .i64 f4) (.bool o4) (.int .i64 0) (.bool false) (w2.alloc (.cells #[.int .i64 0, .bool false] 55)) := ⟨⟨he.alloc _⟩, (hk1.2.1.ext he).ext ((Ext.refl _).alloc _), (hk1.2.2.1.ext he).ext ((Ext.refl _).alloc _), (hk1.2.2.2.1.ext he).ext ((Ext.refl _).alloc _), (hk1.2.2.2.2.ext he).ext ((Ext.refl _).alloc _), two_new w2 _ _ _⟩; clear hk1 he) | (go_at_call 57; with_reducible refine (Same2_calls (HA.out.ext hk2.1.out) (HB.out.ext hk2.1.out) HMS.out).mono ?_; rintro e w3 ⟨rfl, he⟩; have hkr : K2 w1 p0 p1 (w.heap.size + 2) (w.heap.size + 3) w2.heap.size w3.heap.size (.int .i64 a.f) (.bool a.neg) (.slice A0 a.num.length c0) (.slice B0 a.den.length d0) (.int .i64 b.f) (.bool b.neg) (.slice A1 b.num.length c1) (.slice B1 b.den.length d1) (.int .i64 f3) (.bool o3) (.int .i64 f4) (.bool o4) (.int .i64 0) (.bool false) (.int .i64 0) (.bool false) (w3.alloc (.cells #[.int .i64 0, .bool false] 55)) := ⟨⟨(hk2.1.out.trans he).alloc _⟩, (hk2.2.1.ext he).ext ((Ext.refl _).alloc _), (hk2.2.2.1.ext he).ext ((Ext.refl _).alloc _), (hk2.2.2.2.1.ext he).ext ((Ext.refl _).alloc _), (hk2.2.2.2.2.1.ext he).ext ((Ext.refl _).alloc _), (hk2.2.2.2.2.2.ext he).ext ((Ext.refl _).alloc _), two_new w3 _ _ _⟩; clear hk2 he) | (go_at_call 27; with_reducible refine (risrat_calls (HA.out.ext hkr.1.out) HKA.out).mono ?_; rintro e w4 ⟨rfl, he⟩; replace hkr := K2.ext he hkr; clear he) | (go_at_call 27; with_reducible refine (risrat_calls (HB.out.ext hkr.1.out) HKB.out).mono ?_; rintro e w5 ⟨rfl, he⟩; replace hkr := K2.ext he hkr; clear he) | (go_at_call 60; with_reducible refine (and2_calls HMA.out).mono ?_; rintro e w8 ⟨rfl, he⟩; have hk8 : K3 w1 (w.heap.size + 2) (w.heap.size + 3) w8.heap.size (.int .i64 f3) (.bool o3) (.int .i64 f4) (.bool o4) (.int .i64 a1) (.bool a2) (w8.alloc (.cells #[.int .i64 a1, .bool a2] 55)) := ⟨⟨(hkr.1.out.trans he).alloc _⟩, (hkr.2.2.2.1.ext he).ext ((Ext.refl _).alloc _), (hkr.2.2.2.2.1.ext he).ext ((Ext.refl _).alloc _), two_new w8 _ _ _⟩; clear hkr he) | (go_at_call 61; with_reducible refine (or2_calls HMO.out).mono ?_; rintro e w9 ⟨rfl, he⟩; have hkq : KQ w1 (w.heap.size + 2) (w.heap.size + 3) w8.heap.size w9.heap.size (.int .i64 f3) (.bool o3) (.int .i64 f4) (.bool o4) (.int .i64 a1) (.bool a2) (.int .i64 r1) (.bool r2) (w9.alloc (.cells #[.int .i64 r1, .bool r2] 55)) := ⟨⟨(hk8.1.out.trans he).alloc _⟩, (hk8.2.1.ext he).ext ((Ext.refl _).alloc _), (hk8.2.2.1.ext he).ext ((Ext.refl _).alloc _), (hk8.2.2.2.ext he).ext ((Ext.refl _).alloc _), two_new w9 _ _ _⟩; clear hk8 he) | (go_at_call 48; with_reducible refine (risbit_calls HOC.out).mono ?_; rintro e w10 ⟨rfl, he⟩; replace hkq := KQ.ext he hkq; clear he) | (go_at_call 48; with_reducible refine (risbit_calls HOD.out).mono ?_; rintro e w11 ⟨rfl, he⟩; replace hkq := KQ.ext he hkq; clear he))
          replace hkq := KQ.ext (Ext.refl _).drew hkq
          go_region_held (fun w' => KQ w1 (w.heap.size + 2) (w.heap.size + 3) w8.heap.size w9.heap.size (.int .i64 f3) (.bool o3) (.int .i64 f4) (.bool o4) (.int .i64 a1) (.bool a2) (.int .i64 r1) (.bool r2) w') (first | assumption | exact KQ.ext (by assumption) (by assumption)) (first | (go_at_call 62; with_reducible refine (rand2_calls HRA.out).mono ?_; rintro e w13 ⟨rfl, he13⟩) | (go_at_call 63; with_reducible refine (ror2_calls HRO.out).mono ?_; rintro e w14 ⟨rfl, he14⟩) | (go_at_call 23; with_reducible refine (alive_calls (HG1.out.ext (Aside.out (And.left (show KQ w1 (w.heap.size + 2) (w.heap.size + 3) w8.heap.size w9.heap.size (.int .i64 f3) (.bool o3) (.int .i64 f4) (.bool o4) (.int .i64 a1) (.bool a2) (.int .i64 r1) (.bool r2) _ from by assumption))))).mono ?_; rintro e w15 ⟨rfl, he15⟩))
          replace hkq := KQ.ext he15 (KQ.ext he14 (KQ.ext he13 hkq))
          have HEND := Aside.mk (HE1.out.trans hkq.1.out)
          clear hkq he13 he14 he15
          go_wp2
          go_ret
          exact ⟨rfl, HEND.out⟩
    · have hbad : (okb f3 o3 && okb f4 o4) = false := by simpa using hbits
      have HMA : Aside (bitq f3 f4 o3 o4 (o3 && o4) = ((0, false), 5)) := ⟨by unfold bitq; rw [hbad]; rfl⟩
      have HMO : Aside (bitq f3 f4 o3 o4 (o3 || o4) = ((0, false), 5)) := ⟨by unfold bitq; rw [hbad]; rfl⟩
      cases hoc : okb f3 o3
      · have HOC := Aside.mk hoc
        clear hbits hbad hoc
        by_cases hgood : (okq a && okq b) = true
        · rw [Bool.and_eq_true] at hgood
          have HKA := Aside.mk hgood.1
          have HKB := Aside.mk hgood.2
          obtain ⟨⟨l1, l2⟩, hrl⟩ : ∃ x, rbit (leastq a.f b.f) lq = x := ⟨_, rfl⟩
          obtain ⟨⟨s1, s2⟩, hrs⟩ : ∃ x, rbit (leastq a.f b.f) sq = x := ⟨_, rfl⟩
          have HRL : Aside (rbit (leastq a.f b.f) (lessq a.neg (val a.num * val b.den) b.neg (val b.num * val a.den)) = (l1, l2)) := ⟨by rw [hlq]; exact hrl⟩
          have HRS : Aside (rbit (leastq a.f b.f) (sameq a b) = (s1, s2)) := ⟨by rw [hsq]; exact hrs⟩
          have HML : Aside (askq a b (lessq a.neg (val a.num * val b.den) b.neg (val b.num * val a.den)) = ((l1, l2), 0)) := ⟨by unfold askq; rw [hgood.1, hgood.2, hlq, hrl]; rfl⟩
          have HMS : Aside (askq a b (sameq a b) = ((s1, s2), 0)) := ⟨by unfold askq; rw [hgood.1, hgood.2, hsq, hrs]; rfl⟩
          clear hgood hrl hrs hlq hsq
          refine ⟨?_⟩
          simp only [Act.put, List.setIfInBounds_toArray, List.set_cons_zero, List.set_cons_succ]
          go_wp2_with (first | (go_at_call 56; with_reducible refine (Less2_calls HA.out HB.out HML.out).mono ?_; rintro e w2 ⟨rfl, he⟩; have hk2 : K1 w1 p0 p1 (w.heap.size + 2) (w.heap.size + 3) w2.heap.size (.int .i64 a.f) (.bool a.neg) (.slice A0 a.num.length c0) (.slice B0 a.den.length d0) (.int .i64 b.f) (.bool b.neg) (.slice A1 b.num.length c1) (.slice B1 b.den.length d1) (.int .i64 f3) (.bool o3) (.int .i64 f4) (.bool o4) (.int .i64 l1) (.bool l2) (w2.alloc (.cells #[.int .i64 l1, .bool l2] 55)) := ⟨⟨he.alloc _⟩, (hk1.2.1.ext he).ext ((Ext.refl _).alloc _), (hk1.2.2.1.ext he).ext ((Ext.refl _).alloc _), (hk1.2.2.2.1.ext he).ext ((Ext.refl _).alloc _), (hk1.2.2.2.2.ext he).ext ((Ext.refl _).alloc _), two_new w2 _ _ _⟩; clear hk1 he) | (go_at_call 57; with_reducible refine (Same2_calls (HA.out.ext hk2.1.out) (HB.out.ext hk2.1.out) HMS.out).mono ?_; rintro e w3 ⟨rfl, he⟩; have hkr : K2 w1 p0 p1 (w.heap.size + 2) (w.heap.size + 3) w2.heap.size w3.heap.size (.int .i64 a.f) (.bool a.neg) (.slice A0 a.num.length c0) (.slice B0 a.den.length d0) (.int .i64 b.f) (.bool b.neg) (.slice A1 b.num.length c1) (.slice B1 b.den.length d1) (.int .i64 f3) (.bool o3) (.int .i64 f4) (.bool o4) (.int .i64 l1) (.bool l2) (.int .i64 s1) (.bool s2) (w3.alloc (.cells #[.int .i64 s1, .bool s2] 55)) := ⟨⟨(hk2.1.out.trans he).alloc _⟩, (hk2.2.1.ext he).ext ((Ext.refl _).alloc _), (hk2.2.2.1.ext he).ext ((Ext.refl _).alloc _), (hk2.2.2.2.1.ext he).ext ((Ext.refl _).alloc _), (hk2.2.2.2.2.1.ext he).ext ((Ext.refl _).alloc _), (hk2.2.2.2.2.2.ext he).ext ((Ext.refl _).alloc _), two_new w3 _ _ _⟩; clear hk2 he) | (go_at_call 27; with_reducible refine (risrat_calls (HA.out.ext hkr.1.out) HKA.out).mono ?_; rintro e w4 ⟨rfl, he⟩; replace hkr := K2.ext he hkr; clear he) | (go_at_call 27; with_reducible refine (risrat_calls (HB.out.ext hkr.1.out) HKB.out).mono ?_; rintro e w5 ⟨rfl, he⟩; replace hkr := K2.ext he hkr; clear he))
          replace hkr := K2.ext (Ext.refl _).drew hkr
          go_region_held (fun w' => K2 w1 p0 p1 (w.heap.size + 2) (w.heap.size + 3) w2.heap.size w3.heap.size (.int .i64 a.f) (.bool a.neg) (.slice A0 a.num.length c0) (.slice B0 a.den.length d0) (.int .i64 b.f) (.bool b.neg) (.slice A1 b.num.length c1) (.slice B1 b.den.length d1) (.int .i64 f3) (.bool o3) (.int .i64 f4) (.bool o4) (.int .i64 l1) (.bool l2) (.int .i64 s1) (.bool s2) w') (first | assumption | exact K2.ext (by assumption) (by assumption)) (first | (go_at_call 58; with_reducible refine (rLess_calls (HA.out.ext (Aside.out (And.left (show K2 w1 p0 p1 (w.heap.size + 2) (w.heap.size + 3) w2.heap.size w3.heap.size (.int .i64 a.f) (.bool a.neg) (.slice A0 a.num.length c0) (.slice B0 a.den.length d0) (.int .i64 b.f) (.bool b.neg) (.slice A1 b.num.length c1) (.slice B1 b.den.length d1) (.int .i64 f3) (.bool o3) (.int .i64 f4) (.bool o4) (.int .i64 l1) (.bool l2) (.int .i64 s1) (.bool s2) _ from by assumption)))) (HB.out.ext (Aside.out (And.left (show K2 w1 p0 p1 (w.heap.size + 2) (w.heap.size + 3) w2.heap.size w3.heap.size (.int .i64 a.f) (.bool a.neg) (.slice A0 a.num.length c0) (.slice B0 a.den.length d0) (.int .i64 b.f) (.bool b.neg) (.slice A1 b.num.length c1) (.slice B1 b.den.length d1) (.int .i64 f3) (.bool o3) (.int .i64 f4) (.bool o4) (.int .i64 l1) (.bool l2) (.int .i64 s1) (.bool s2) _ from by assumption)))) HKA.out HKB.out HRL.out).mono ?_; rintro e w6 ⟨rfl, he6⟩) | (go_at_call 59; with_reducible refine (rSame_calls (HA.out.ext (Aside.out (And.left (show K2 w1 p0 p1 (w.heap.size + 2) (w.heap.size + 3) w2.heap.size w3.heap.size (.int .i64 a.f) (.bool a.neg) (.slice A0 a.num.length c0) (.slice B0 a.den.length d0) (.int .i64 b.f) (.bool b.neg) (.slice A1 b.num.length c1) (.slice B1 b.den.length d1) (.int .i64 f3) (.bool o3) (.int .i64 f4) (.bool o4) (.int .i64 l1) (.bool l2) (.int .i64 s1) (.bool s2) _ from by assumption)))) (HB.out.ext (Aside.out (And.left (show K2 w1 p0 p1 (w.heap.size + 2) (w.heap.size + 3) w2.heap.size w3.heap.size (.int .i64 a.f) (.bool a.neg) (.slice A0 a.num.length c0) (.slice B0 a.den.length d0) (.int .i64 b.f) (.bool b.neg) (.slice A1 b.num.length c1) (.slice B1 b.den.length d1) (.int .i64 f3) (.bool o3) (.int .i64 f4) (.bool o4) (.int .i64 l1) (.bool l2) (.int .i64 s1) (.bool s2) _ from by assumption)))) HRS.out).mono ?_; rintro e w7 ⟨rfl, he7⟩))
          replace hkr := K2.ext he7 (K2.ext he6 hkr)
          clear he6 he7
          go_wp2_with (first | (go_at_call 60; with_reducible refine (and2_calls HMA.out).mono ?_; rintro e w8 ⟨rfl, he⟩; have hk8 : K3 w1 (w.heap.size + 2) (w.heap.size + 3) w8.heap.size (.int .i64 f3) (.bool o3) (.int .i64 f4) (.bool o4) (.int .i64 0) (.bool false) (w8.alloc (.cells #[.int .i64 0, .bool false] 55)) := ⟨⟨(hkr.1.out.trans he).alloc _⟩, (hkr.2.2.2.1.ext he).ext ((Ext.refl _).alloc _), (hkr.2.2.2.2.1.ext he).ext ((Ext.refl _).alloc _), two_new w8 _ _ _⟩; clear hkr he) | (go_at_call 61; with_reducible refine (or2_calls HMO.out).mono ?_; rintro e w9 ⟨rfl, he⟩; have hkq : KQ w1 (w.heap.size + 2) (w.heap.size + 3) w8.heap.size w9.heap.size (.int .i64 f3) (.bool o3) (.int .i64 f4) (.bool o4) (.int .i64 0) (.bool false) (.int .i64 0) (.bool false) (w9.alloc (.cells #[.int .i64 0, .bool false] 55)) := ⟨⟨(hk8.1.out.trans he).alloc _⟩, (hk8.2.1.ext he).ext ((Ext.refl _).alloc _), (hk8.2.2.1.ext he).ext ((Ext.refl _).alloc _), (hk8.2.2.2.ext he).ext ((Ext.refl _).alloc _), two_new w9 _ _ _⟩; clear hk8 he) | (go_at_call 48; with_reducible refine (risbit_calls HOC.out).mono ?_; rintro e w10 ⟨rfl, he⟩; replace hkq := KQ.ext he hkq; clear he) | (go_at_call 23; with_reducible refine (alive_calls (HG1.out.ext hkq.1.out)).mono ?_; rintro e w12 ⟨rfl, he⟩; have HEND := Aside.mk ((HE1.out.trans hkq.1.out).trans he); clear hkq he))
          go_ret
          exact ⟨rfl, HEND.out⟩
        · have hbadr : (okq a && okq b) = false := by simpa using hgood
          have HML : Aside (askq a b (lessq a.neg (val a.num * val b.den) b.neg (val b.num * val a.den)) = ((0, false), 5)) := ⟨by unfold askq; rw [hbadr]; rfl⟩
          have HMS : Aside (askq a b (sameq a b) = ((0, false), 5)) := ⟨by unfold askq; rw [hbadr]; rfl⟩
          cases hka : okq a
          · have HKA := Aside.mk hka
            clear hgood hbadr hka hlq hsq
            refine ⟨?_⟩
            simp only [Act.put, List.setIfInBounds_toArray, List.set_cons_zero, List.set_cons_succ]
            go_wp2_with (first | (go_at_call 56; with_reducible refine (Less2_calls HA.out HB.out HML.out).mono ?_; rintro e w2 ⟨rfl, he⟩; have hk2 : K1 w1 p0 p1 (w.heap.size + 2) (w.heap.size + 3) w2.heap.size (.int .i64 a.f) (.bool a.neg) (.slice A0 a.num.length c0) (.slice B0 a.den.length d0) (.int .i64 b.f) (.bool b.neg) (.slice A1 b.num.length c1) (.slice B1 b.den.length d1) (.int .i64 f3) (.bool o3) (.int .i64 f4) (.bool o4) (.int .i64 0) (.bool false) (w2.alloc (.cells #[.int .i64 0, .bool false] 55)) := ⟨⟨he.alloc _⟩, (hk1.2.1.ext he).ext ((Ext.refl _).alloc _), (hk1.2.2.1.ext he).ext ((Ext.refl _).alloc _), (hk1.2.2.2.1.ext he).ext ((Ext.refl _).alloc _), (hk1.2.2.2.2.ext he).ext ((Ext.refl _).alloc _), two_new w2 _ _ _⟩; clear hk1 he) | (go_at_call 57; with_reducible refine (Same2_calls (HA.out.ext hk2.1.out) (HB.out.ext hk2.1.out) HMS.out).mono ?_; rintro e w3 ⟨rfl, he⟩; have hkr : K2 w1 p0 p1 (w.heap.size + 2) (w.heap.size + 3) w2.heap.size w3.heap.size (.int .i64 a.f) (.bool a.neg) (.slice A0 a.num.length c0) (.slice B0 a.den.length d0) (.int .i64 b.f) (.bool b.neg) (.slice A1 b.num.length c1) (.slice B1 b.den.length d1) (.int .i64 f3) (.bool o3) (.int .i64 f4) (.bool o4) (.int .i64 0) (.bool false) (.int .i64 0) (.bool false) (w3.alloc (.cells #[.int .i64 0, .bool false] 55)) := ⟨⟨(hk2.1.out.trans he).alloc _⟩, (hk2.2.1.ext he).ext ((Ext.refl _).alloc _), (hk2.2.2.1.ext he).ext ((Ext.refl _).alloc _), (hk2.2.2.2.1.ext he).ext ((Ext.refl _).alloc _), (hk2.2.2.2.2.1.ext he).ext ((Ext.refl _).alloc _), (hk2.2.2.2.2.2.ext he).ext ((Ext.refl _).alloc _), two_new w3 _ _ _⟩; clear hk2 he) | (go_at_call 27; with_reducible refine (risrat_calls (HA.out.ext hkr.1.out) HKA.out).mono ?_; rintro e w4 ⟨rfl, he⟩; replace hkr := K2.ext he hkr; clear he) | (go_at_call 60; with_reducible refine (and2_calls HMA.out).mono ?_; rintro e w8 ⟨rfl, he⟩; have hk8 : K3 w1 (w.heap.size + 2) (w.heap.size + 3) w8.heap.size (.int .i64 f3) (.bool o3) (.int .i64 f4) (.bool o4) (.int .i64 0) (.bool false) (w8.alloc (.cells #[.int .i64 0, .bool false] 55)) := ⟨⟨(hkr.1.out.trans he).alloc _⟩, (hkr.2.2.2.1.ext he).ext ((Ext.refl _).alloc _), (hkr.2.2.2.2.1.ext he).ext ((Ext.refl _).alloc _), two_new w8 _ _ _⟩; clear hkr he) | (go_at_call 61; with_reducible refine (or2_calls HMO.out).mono ?_; rintro e w9 ⟨rfl, he⟩; have hkq : KQ w1 (w.heap.size + 2) (w.heap.size + 3) w8.heap.size w9.heap.size (.int .i64 f3) (.bool o3) (.int .i64 f4) (.bool o4) (.int .i64 0) (.bool false) (.int .i64 0) (.bool false) (w9.alloc (.cells #[.int .i64 0, .bool false] 55)) := ⟨⟨(hk8.1.out.trans he).alloc _⟩, (hk8.2.1.ext he).ext ((Ext.refl _).alloc _), (hk8.2.2.1.ext he).ext ((Ext.refl _).alloc _), (hk8.2.2.2.ext he).ext ((Ext.refl _).alloc _), two_new w9 _ _ _⟩; clear hk8 he) | (go_at_call 48; with_reducible refine (risbit_calls HOC.out).mono ?_; rintro e w10 ⟨rfl, he⟩; replace hkq := KQ.ext he hkq; clear he) | (go_at_call 23; with_reducible refine (alive_calls (HG1.out.ext hkq.1.out)).mono ?_; rintro e w12 ⟨rfl, he⟩; have HEND := Aside.mk ((HE1.out.trans hkq.1.out).trans he); clear hkq he))
            go_ret
            exact ⟨rfl, HEND.out⟩
          · have HKA := Aside.mk hka
            have HKB : Aside (okq b = false) := ⟨by rw [hka] at hbadr; simpa using hbadr⟩
            clear hgood hbadr hka hlq hsq
            refine ⟨?_⟩
            simp only [Act.put, List.setIfInBounds_toArray, List.set_cons_zero, List.set_cons_succ]
            go_wp2_with (first | (go_at_call 56; with_reducible refine (Less2_calls HA.out HB.out HML.out).mono ?_; rintro e w2 ⟨rfl, he⟩; have hk2 : K1 w1 p0 p1 (w.heap.size + 2) (w.heap.size + 3) w2.heap.size (.int .i64 a.f) (.bool a.neg) (.slice A0 a.num.length c0) (.slice B0 a.den.length d0) (.int .i64 b.f) (.bool b.neg) (.slice A1 b.num.length c1) (.slice B1 b.den.length d1) (.int .i64 f3) (.bool o3) (.int .i64 f4) (.bool o4) (.int .i64 0) (.bool false) (w2.alloc (.cells #[.int .i64 0, .bool false] 55)) := ⟨⟨he.alloc _⟩, (hk1.2.1.ext he).ext ((Ext.refl _).alloc _), (hk1.2.2.1.ext he).ext ((Ext.refl _).alloc _), (hk1.2.2.2.1.ext he).ext ((Ext.refl _).alloc _), (hk1.2.2.2.2.ext he).ext ((Ext.refl _).alloc _), two_new w2 _ _ _⟩; clear hk1 he) | (go_at_call 57; with_reducible refine (Same2_calls (HA.out.ext hk2.1.out) (HB.out.ext hk2.1.out) HMS.out).mono ?_; rintro e w3 ⟨rfl, he⟩; have hkr : K2 w1 p0 p1 (w.heap.size + 2) (w.heap.size + 3) w2.heap.size w3.heap.size (.int .i64 a.f) (.bool a.neg) (.slice A0 a.num.length c0) (.slice B0 a.den.length d0) (.int .i64 b.f) (.bool b.neg) (.slice A1 b.num.length c1) (.slice B1 b.den.length d1) (.int .i64 f3) (.bool o3) (.int .i64 f4) (.bool o4) (.int .i64 0) (.bool false) (.int .i64 0) (.bool false) (w3.alloc (.cells #[.int .i64 0, .bool false] 55)) := ⟨⟨(hk2.1.out.trans he).alloc _⟩, (hk2.2.1.ext he).ext ((Ext.refl _).alloc _), (hk2.2.2.1.ext he).ext ((Ext.refl _).alloc _), (hk2.2.2.2.1.ext he).ext ((Ext.refl _).alloc _), (hk2.2.2.2.2.1.ext he).ext ((Ext.refl _).alloc _), (hk2.2.2.2.2.2.ext he).ext ((Ext.refl _).alloc _), two_new w3 _ _ _⟩; clear hk2 he) | (go_at_call 27; with_reducible refine (risrat_calls (HA.out.ext hkr.1.out) HKA.out).mono ?_; rintro e w4 ⟨rfl, he⟩; replace hkr := K2.ext he hkr; clear he) | (go_at_call 27; with_reducible refine (risrat_calls (HB.out.ext hkr.1.out) HKB.out).mono ?_; rintro e w5 ⟨rfl, he⟩; replace hkr := K2.ext he hkr; clear he) | (go_at_call 60; with_reducible refine (and2_calls HMA.out).mono ?_; rintro e w8 ⟨rfl, he⟩; have hk8 : K3 w1 (w.heap.size + 2) (w.heap.size + 3) w8.heap.size (.int .i64 f3) (.bool o3) (.int .i64 f4) (.bool o4) (.int .i64 0) (.bool false) (w8.alloc (.cells #[.int .i64 0, .bool false] 55)) := ⟨⟨(hkr.1.out.trans he).alloc _⟩, (hkr.2.2.2.1.ext he).ext ((Ext.refl _).alloc _), (hkr.2.2.2.2.1.ext he).ext ((Ext.refl _).alloc _), two_new w8 _ _ _⟩; clear hkr he) | (go_at_call 61; with_reducible refine (or2_calls HMO.out).mono ?_; rintro e w9 ⟨rfl, he⟩; have hkq : KQ w1 (w.heap.size + 2) (w.heap.size + 3) w8.heap.size w9.heap.size (.int .i64 f3) (.bool o3) (.int .i64 f4) (.bool o4) (.int .i64 0) (.bool false) (.int .i64 0) (.bool false) (w9.alloc (.cells #[.int .i64 0, .bool false] 55)) := ⟨⟨(hk8.1.out.trans he).alloc _⟩, (hk8.2.1.ext he).ext ((Ext.refl _).alloc _), (hk8.2.2.1.ext he).ext ((Ext.refl _).alloc _), (hk8.2.2.2.ext he).ext ((Ext.refl _).alloc _), two_new w9 _ _ _⟩; clear hk8 he) | (go_at_call 48; with_reducible refine (risbit_calls HOC.out).mono ?_; rintro e w10 ⟨rfl, he⟩; replace hkq := KQ.ext he hkq; clear he) | (go_at_call 23; with_reducible refine (alive_calls (HG1.out.ext hkq.1.out)).mono ?_; rintro e w12 ⟨rfl, he⟩; have HEND := Aside.mk ((HE1.out.trans hkq.1.out).trans he); clear hkq he))
            go_ret
            exact ⟨rfl, HEND.out⟩
      · have HOC := Aside.mk hoc
        have HOD : Aside (okb f4 o4 = false) := ⟨by rw [hoc] at hbad; simpa using hbad⟩
        clear hbits hbad hoc
        by_cases hgood : (okq a && okq b) = true
        · rw [Bool.and_eq_true] at hgood
          have HKA := Aside.mk hgood.1
          have HKB := Aside.mk hgood.2
          obtain ⟨⟨l1, l2⟩, hrl⟩ : ∃ x, rbit (leastq a.f b.f) lq = x := ⟨_, rfl⟩
          obtain ⟨⟨s1, s2⟩, hrs⟩ : ∃ x, rbit (leastq a.f b.f) sq = x := ⟨_, rfl⟩
          have HRL : Aside (rbit (leastq a.f b.f) (lessq a.neg (val a.num * val b.den) b.neg (val b.num * val a.den)) = (l1, l2)) := ⟨by rw [hlq]; exact hrl⟩
          have HRS : Aside (rbit (leastq a.f b.f) (sameq a b) = (s1, s2)) := ⟨by rw [hsq]; exact hrs⟩
          have HML : Aside (askq a b (lessq a.neg (val a.num * val b.den) b.neg (val b.num * val a.den)) = ((l1, l2), 0)) := ⟨by unfold askq; rw [hgood.1, hgood.2, hlq, hrl]; rfl⟩
          have HMS : Aside (askq a b (sameq a b) = ((s1, s2), 0)) := ⟨by unfold askq; rw [hgood.1, hgood.2, hsq, hrs]; rfl⟩
          clear hgood hrl hrs hlq hsq
          refine ⟨?_⟩
          simp only [Act.put, List.setIfInBounds_toArray, List.set_cons_zero, List.set_cons_succ]
          go_wp2_with (first | (go_at_call 56; with_reducible refine (Less2_calls HA.out HB.out HML.out).mono ?_; rintro e w2 ⟨rfl, he⟩; have hk2 : K1 w1 p0 p1 (w.heap.size + 2) (w.heap.size + 3) w2.heap.size (.int .i64 a.f) (.bool a.neg) (.slice A0 a.num.length c0) (.slice B0 a.den.length d0) (.int .i64 b.f) (.bool b.neg) (.slice A1 b.num.length c1) (.slice B1 b.den.length d1) (.int .i64 f3) (.bool o3) (.int .i64 f4) (.bool o4) (.int .i64 l1) (.bool l2) (w2.alloc (.cells #[.int .i64 l1, .bool l2] 55)) := ⟨⟨he.alloc _⟩, (hk1.2.1.ext he).ext ((Ext.refl _).alloc _), (hk1.2.2.1.ext he).ext ((Ext.refl _).alloc _), (hk1.2.2.2.1.ext he).ext ((Ext.refl _).alloc _), (hk1.2.2.2.2.ext he).ext ((Ext.refl _).alloc _), two_new w2 _ _ _⟩; clear hk1 he) | (go_at_call 57; with_reducible refine (Same2_calls (HA.out.ext hk2.1.out) (HB.out.ext hk2.1.out) HMS.out).mono ?_; rintro e w3 ⟨rfl, he⟩; have hkr : K2 w1 p0 p1 (w.heap.size + 2) (w.heap.size + 3) w2.heap.size w3.heap.size (.int .i64 a.f) (.bool a.neg) (.slice A0 a.num.length c0) (.slice B0 a.den.length d0) (.int .i64 b.f) (.bool b.neg) (.slice A1 b.num.length c1) (.slice B1 b.den.length d1) (.int .i64 f3) (.bool o3) (.int .i64 f4) (.bool o4) (.int .i64 l1) (.bool l2) (.int .i64 s1) (.bool s2) (w3.alloc (.cells #[.int .i64 s1, .bool s2] 55)) := ⟨⟨(hk2.1.out.trans he).alloc _⟩, (hk2.2.1.ext he).ext ((Ext.refl _).alloc _), (hk2.2.2.1.ext he).ext ((Ext.refl _).alloc _), (hk2.2.2.2.1.ext he).ext ((Ext.refl _).alloc _), (hk2.2.2.2.2.1.ext he).ext ((Ext.refl _).alloc _), (hk2.2.2.2.2.2.ext he).ext ((Ext.refl _).alloc _), two_new w3 _ _ _⟩; clear hk2 he) | (go_at_call 27; with_reducible refine (risrat_calls (HA.out.ext hkr.1.out) HKA.out).mono ?_; rintro e w4 ⟨rfl, he⟩; replace hkr := K2.ext he hkr; clear he) | (go_at_call 27; with_reducible refine (risrat_calls (HB.out.ext hkr.1.out) HKB.out).mono ?_; rintro e w5 ⟨rfl, he⟩; replace hkr := K2.ext he hkr; clear he))
          replace hkr := K2.ext (Ext.refl _).drew hkr
          go_region_held (fun w' => K2 w1 p0 p1 (w.heap.size + 2) (w.heap.size + 3) w2.heap.size w3.heap.size (.int .i64 a.f) (.bool a.neg) (.slice A0 a.num.length c0) (.slice B0 a.den.length d0) (.int .i64 b.f) (.bool b.neg) (.slice A1 b.num.length c1) (.slice B1 b.den.length d1) (.int .i64 f3) (.bool o3) (.int .i64 f4) (.bool o4) (.int .i64 l1) (.bool l2) (.int .i64 s1) (.bool s2) w') (first | assumption | exact K2.ext (by assumption) (by assumption)) (first | (go_at_call 58; with_reducible refine (rLess_calls (HA.out.ext (Aside.out (And.left (show K2 w1 p0 p1 (w.heap.size + 2) (w.heap.size + 3) w2.heap.size w3.heap.size (.int .i64 a.f) (.bool a.neg) (.slice A0 a.num.length c0) (.slice B0 a.den.length d0) (.int .i64 b.f) (.bool b.neg) (.slice A1 b.num.length c1) (.slice B1 b.den.length d1) (.int .i64 f3) (.bool o3) (.int .i64 f4) (.bool o4) (.int .i64 l1) (.bool l2) (.int .i64 s1) (.bool s2) _ from by assumption)))) (HB.out.ext (Aside.out (And.left (show K2 w1 p0 p1 (w.heap.size + 2) (w.heap.size + 3) w2.heap.size w3.heap.size (.int .i64 a.f) (.bool a.neg) (.slice A0 a.num.length c0) (.slice B0 a.den.length d0) (.int .i64 b.f) (.bool b.neg) (.slice A1 b.num.length c1) (.slice B1 b.den.length d1) (.int .i64 f3) (.bool o3) (.int .i64 f4) (.bool o4) (.int .i64 l1) (.bool l2) (.int .i64 s1) (.bool s2) _ from by assumption)))) HKA.out HKB.out HRL.out).mono ?_; rintro e w6 ⟨rfl, he6⟩) | (go_at_call 59; with_reducible refine (rSame_calls (HA.out.ext (Aside.out (And.left (show K2 w1 p0 p1 (w.heap.size + 2) (w.heap.size + 3) w2.heap.size w3.heap.size (.int .i64 a.f) (.bool a.neg) (.slice A0 a.num.length c0) (.slice B0 a.den.length d0) (.int .i64 b.f) (.bool b.neg) (.slice A1 b.num.length c1) (.slice B1 b.den.length d1) (.int .i64 f3) (.bool o3) (.int .i64 f4) (.bool o4) (.int .i64 l1) (.bool l2) (.int .i64 s1) (.bool s2) _ from by assumption)))) (HB.out.ext (Aside.out (And.left (show K2 w1 p0 p1 (w.heap.size + 2) (w.heap.size + 3) w2.heap.size w3.heap.size (.int .i64 a.f) (.bool a.neg) (.slice A0 a.num.length c0) (.slice B0 a.den.length d0) (.int .i64 b.f) (.bool b.neg) (.slice A1 b.num.length c1) (.slice B1 b.den.length d1) (.int .i64 f3) (.bool o3) (.int .i64 f4) (.bool o4) (.int .i64 l1) (.bool l2) (.int .i64 s1) (.bool s2) _ from by assumption)))) HRS.out).mono ?_; rintro e w7 ⟨rfl, he7⟩))
          replace hkr := K2.ext he7 (K2.ext he6 hkr)
          clear he6 he7
          go_wp2_with (first | (go_at_call 60; with_reducible refine (and2_calls HMA.out).mono ?_; rintro e w8 ⟨rfl, he⟩; have hk8 : K3 w1 (w.heap.size + 2) (w.heap.size + 3) w8.heap.size (.int .i64 f3) (.bool o3) (.int .i64 f4) (.bool o4) (.int .i64 0) (.bool false) (w8.alloc (.cells #[.int .i64 0, .bool false] 55)) := ⟨⟨(hkr.1.out.trans he).alloc _⟩, (hkr.2.2.2.1.ext he).ext ((Ext.refl _).alloc _), (hkr.2.2.2.2.1.ext he).ext ((Ext.refl _).alloc _), two_new w8 _ _ _⟩; clear hkr he) | (go_at_call 61; with_reducible refine (or2_calls HMO.out).mono ?_; rintro e w9 ⟨rfl, he⟩; have hkq : KQ w1 (w.heap.size + 2) (w.heap.size + 3) w8.heap.size w9.heap.size (.int .i64 f3) (.bool o3) (.int .i64 f4) (.bool o4) (.int .i64 0) (.bool false) (.int .i64 0) (.bool false) (w9.alloc (.cells #[.int .i64 0, .bool false] 55)) := ⟨⟨(hk8.1.out.trans he).alloc _⟩, (hk8.2.1.ext he).ext ((Ext.refl _).alloc _), (hk8.2.2.1.ext he).ext ((Ext.refl _).alloc _), (hk8.2.2.2.ext he).ext ((Ext.refl _).alloc _), two_new w9 _ _ _⟩; clear hk8 he) | (go_at_call 48; with_reducible refine (risbit_calls HOC.out).mono ?_; rintro e w10 ⟨rfl, he⟩; replace hkq := KQ.ext he hkq; clear he) | (go_at_call 48; with_reducible refine (risbit_calls HOD.out).mono ?_; rintro e w11 ⟨rfl, he⟩; replace hkq := KQ.ext he hkq; clear he) | (go_at_call 23; with_reducible refine (alive_calls (HG1.out.ext hkq.1.out)).mono ?_; rintro e w12 ⟨rfl, he⟩; have HEND := Aside.mk ((HE1.out.trans hkq.1.out).trans he); clear hkq he))
          go_ret
          exact ⟨rfl, HEND.out⟩
        · have hbadr : (okq a && okq b) = false := by simpa using hgood
          have HML : Aside (askq a b (lessq a.neg (val a.num * val b.den) b.neg (val b.num * val a.den)) = ((0, false), 5)) := ⟨by unfold askq; rw [hbadr]; rfl⟩
          have HMS : Aside (askq a b (sameq a b) = ((0, false), 5)) := ⟨by unfold askq; rw [hbadr]; rfl⟩
          cases hka : okq a
          · have HKA := Aside.mk hka
            clear hgood hbadr hka hlq hsq
            refine ⟨?_⟩
            simp only [Act.put, List.setIfInBounds_toArray, List.set_cons_zero, List.set_cons_succ]
            go_wp2_with (first | (go_at_call 56; with_reducible refine (Less2_calls HA.out HB.out HML.out).mono ?_; rintro e w2 ⟨rfl, he⟩; have hk2 : K1 w1 p0 p1 (w.heap.size + 2) (w.heap.size + 3) w2.heap.size (.int .i64 a.f) (.bool a.neg) (.slice A0 a.num.length c0) (.slice B0 a.den.length d0) (.int .i64 b.f) (.bool b.neg) (.slice A1 b.num.length c1) (.slice B1 b.den.length d1) (.int .i64 f3) (.bool o3) (.int .i64 f4) (.bool o4) (.int .i64 0) (.bool false) (w2.alloc (.cells #[.int .i64 0, .bool false] 55)) := ⟨⟨he.alloc _⟩, (hk1.2.1.ext he).ext ((Ext.refl _).alloc _), (hk1.2.2.1.ext he).ext ((Ext.refl _).alloc _), (hk1.2.2.2.1.ext he).ext ((Ext.refl _).alloc _), (hk1.2.2.2.2.ext he).ext ((Ext.refl _).alloc _), two_new w2 _ _ _⟩; clear hk1 he) | (go_at_call 57; with_reducible refine (Same2_calls (HA.out.ext hk2.1.out) (HB.out.ext hk2.1.out) HMS.out).mono ?_; rintro e w3 ⟨rfl, he⟩; have hkr : K2 w1 p0 p1 (w.heap.size + 2) (w.heap.size + 3) w2.heap.size w3.heap.size (.int .i64 a.f) (.bool a.neg) (.slice A0 a.num.length c0) (.slice B0 a.den.length d0) (.int .i64 b.f) (.bool b.neg) (.slice A1 b.num.length c1) (.slice B1 b.den.length d1) (.int .i64 f3) (.bool o3) (.int .i64 f4) (.bool o4) (.int .i64 0) (.bool false) (.int .i64 0) (.bool false) (w3.alloc (.cells #[.int .i64 0, .bool false] 55)) := ⟨⟨(hk2.1.out.trans he).alloc _⟩, (hk2.2.1.ext he).ext ((Ext.refl _).alloc _), (hk2.2.2.1.ext he).ext ((Ext.refl _).alloc _), (hk2.2.2.2.1.ext he).ext ((Ext.refl _).alloc _), (hk2.2.2.2.2.1.ext he).ext ((Ext.refl _).alloc _), (hk2.2.2.2.2.2.ext he).ext ((Ext.refl _).alloc _), two_new w3 _ _ _⟩; clear hk2 he) | (go_at_call 27; with_reducible refine (risrat_calls (HA.out.ext hkr.1.out) HKA.out).mono ?_; rintro e w4 ⟨rfl, he⟩; replace hkr := K2.ext he hkr; clear he) | (go_at_call 60; with_reducible refine (and2_calls HMA.out).mono ?_; rintro e w8 ⟨rfl, he⟩; have hk8 : K3 w1 (w.heap.size + 2) (w.heap.size + 3) w8.heap.size (.int .i64 f3) (.bool o3) (.int .i64 f4) (.bool o4) (.int .i64 0) (.bool false) (w8.alloc (.cells #[.int .i64 0, .bool false] 55)) := ⟨⟨(hkr.1.out.trans he).alloc _⟩, (hkr.2.2.2.1.ext he).ext ((Ext.refl _).alloc _), (hkr.2.2.2.2.1.ext he).ext ((Ext.refl _).alloc _), two_new w8 _ _ _⟩; clear hkr he) | (go_at_call 61; with_reducible refine (or2_calls HMO.out).mono ?_; rintro e w9 ⟨rfl, he⟩; have hkq : KQ w1 (w.heap.size + 2) (w.heap.size + 3) w8.heap.size w9.heap.size (.int .i64 f3) (.bool o3) (.int .i64 f4) (.bool o4) (.int .i64 0) (.bool false) (.int .i64 0) (.bool false) (w9.alloc (.cells #[.int .i64 0, .bool false] 55)) := ⟨⟨(hk8.1.out.trans he).alloc _⟩, (hk8.2.1.ext he).ext ((Ext.refl _).alloc _), (hk8.2.2.1.ext he).ext ((Ext.refl _).alloc _), (hk8.2.2.2.ext he).ext ((Ext.refl _).alloc _), two_new w9 _ _ _⟩; clear hk8 he) | (go_at_call 48; with_reducible refine (risbit_calls HOC.out).mono ?_; rintro e w10 ⟨rfl, he⟩; replace hkq := KQ.ext he hkq; clear he) | (go_at_call 48; with_reducible refine (risbit_calls HOD.out).mono ?_; rintro e w11 ⟨rfl, he⟩; replace hkq := KQ.ext he hkq; clear he) | (go_at_call 23; with_reducible refine (alive_calls (HG1.out.ext hkq.1.out)).mono ?_; rintro e w12 ⟨rfl, he⟩; have HEND := Aside.mk ((HE1.out.trans hkq.1.out).trans he); clear hkq he))
            go_ret
            exact ⟨rfl, HEND.out⟩
          · have HKA := Aside.mk hka
            have HKB : Aside (okq b = false) := ⟨by rw [hka] at hbadr; simpa using hbadr⟩
            clear hgood hbadr hka hlq hsq
            refine ⟨?_⟩
            simp only [Act.put, List.setIfInBounds_toArray, List.set_cons_zero, List.set_cons_succ]
            go_wp2_with (first | (go_at_call 56; with_reducible refine (Less2_calls HA.out HB.out HML.out).mono ?_; rintro e w2 ⟨rfl, he⟩; have hk2 : K1 w1 p0 p1 (w.heap.size + 2) (w.heap.size + 3) w2.heap.size (.int .i64 a.f) (.bool a.neg) (.slice A0 a.num.length c0) (.slice B0 a.den.length d0) (.int .i64 b.f) (.bool b.neg) (.slice A1 b.num.length c1) (.slice B1 b.den.length d1) (.int .i64 f3) (.bool o3) (.int .i64 f4) (.bool o4) (.int .i64 0) (.bool false) (w2.alloc (.cells #[.int .i64 0, .bool false] 55)) := ⟨⟨he.alloc _⟩, (hk1.2.1.ext he).ext ((Ext.refl _).alloc _), (hk1.2.2.1.ext he).ext ((Ext.refl _).alloc _), (hk1.2.2.2.1.ext he).ext ((Ext.refl _).alloc _), (hk1.2.2.2.2.ext he).ext ((Ext.refl _).alloc _), two_new w2 _ _ _⟩; clear hk1 he) | (go_at_call 57; with_reducible refine (Same2_calls (HA.out.ext hk2.1.out) (HB.out.ext hk2.1.out) HMS.out).mono ?_; rintro e w3 ⟨rfl, he⟩; have hkr : K2 w1 p0 p1 (w.heap.size + 2) (w.heap.size + 3) w2.heap.size w3.heap.size (.int .i64 a.f) (.bool a.neg) (.slice A0 a.num.length c0) (.slice B0 a.den.length d0) (.int .i64 b.f) (.bool b.neg) (.slice A1 b.num.length c1) (.slice B1 b.den.length d1) (.int .i64 f3) (.bool o3) (.int .i64 f4) (.bool o4) (.int .i64 0) (.bool false) (.int .i64 0) (.bool false) (w3.alloc (.cells #[.int .i64 0, .bool false] 55)) := ⟨⟨(hk2.1.out.trans he).alloc _⟩, (hk2.2.1.ext he).ext ((Ext.refl _).alloc _), (hk2.2.2.1.ext he).ext ((Ext.refl _).alloc _), (hk2.2.2.2.1.ext he).ext ((Ext.refl _).alloc _), (hk2.2.2.2.2.1.ext he).ext ((Ext.refl _).alloc _), (hk2.2.2.2.2.2.ext he).ext ((Ext.refl _).alloc _), two_new w3 _ _ _⟩; clear hk2 he) | (go_at_call 27; with_reducible refine (risrat_calls (HA.out.ext hkr.1.out) HKA.out).mono ?_; rintro e w4 ⟨rfl, he⟩; replace hkr := K2.ext he hkr; clear he) | (go_at_call 27; with_reducible refine (risrat_calls (HB.out.ext hkr.1.out) HKB.out).mono ?_; rintro e w5 ⟨rfl, he⟩; replace hkr := K2.ext he hkr; clear he) | (go_at_call 60; with_reducible refine (and2_calls HMA.out).mono ?_; rintro e w8 ⟨rfl, he⟩; have hk8 : K3 w1 (w.heap.size + 2) (w.heap.size + 3) w8.heap.size (.int .i64 f3) (.bool o3) (.int .i64 f4) (.bool o4) (.int .i64 0) (.bool false) (w8.alloc (.cells #[.int .i64 0, .bool false] 55)) := ⟨⟨(hkr.1.out.trans he).alloc _⟩, (hkr.2.2.2.1.ext he).ext ((Ext.refl _).alloc _), (hkr.2.2.2.2.1.ext he).ext ((Ext.refl _).alloc _), two_new w8 _ _ _⟩; clear hkr he) | (go_at_call 61; with_reducible refine (or2_calls HMO.out).mono ?_; rintro e w9 ⟨rfl, he⟩; have hkq : KQ w1 (w.heap.size + 2) (w.heap.size + 3) w8.heap.size w9.heap.size (.int .i64 f3) (.bool o3) (.int .i64 f4) (.bool o4) (.int .i64 0) (.bool false) (.int .i64 0) (.bool false) (w9.alloc (.cells #[.int .i64 0, .bool false] 55)) := ⟨⟨(hk8.1.out.trans he).alloc _⟩, (hk8.2.1.ext he).ext ((Ext.refl _).alloc _), (hk8.2.2.1.ext he).ext ((Ext.refl _).alloc _), (hk8.2.2.2.ext he).ext ((Ext.refl _).alloc _), two_new w9 _ _ _⟩; clear hk8 he) | (go_at_call 48; with_reducible refine (risbit_calls HOC.out).mono ?_; rintro e w10 ⟨rfl, he⟩; replace hkq := KQ.ext he hkq; clear he) | (go_at_call 48; with_reducible refine (risbit_calls HOD.out).mono ?_; rintro e w11 ⟨rfl, he⟩; replace hkq := KQ.ext he hkq; clear he) | (go_at_call 23; with_reducible refine (alive_calls (HG1.out.ext hkq.1.out)).mono ?_; rintro e w12 ⟨rfl, he⟩; have HEND := Aside.mk ((HE1.out.trans hkq.1.out).trans he); clear hkq he))
            go_ret
            exact ⟨rfl, HEND.out⟩
end Go.Proofs.YtgfkachfbnbikaaGreatDoor

namespace Go.Proofs.YtgfkachfbnbikaaGreatDoor
open Go.RowKit Go.ChangeShapes Go.WideShapes Go.ChangeAt

set_option maxRecDepth 100000 in
theorem bit_of {H : Type} {enc : TypeId × Value → H} {W : World} {n base : Nat} {v : Value} {x : DataW H × List MemPlace} {held : Bool} (hv : Value.okWide Tryz.prog W .any base 55 v)
    (h : DataW.trod enc Tryz.prog W 0 (fun _ => true) held n 55 v.cells.toList = some x) : ∃ f on, v = .agg #[.int .i64 f, .bool on] := by
  have c55 : Tryz.prog.cellsOf 55 = 2 := by kernel_rfl
  have c24 : Tryz.prog.cellsOf 24 = 1 := by kernel_rfl
  have c4 : Tryz.prog.cellsOf 4 = 1 := by kernel_rfl
  simp only [Value.okWide, Tryz.underlying55] at hv
  obtain ⟨cs, rfl, hsz, _⟩ := hv
  obtain ⟨a, b, rfl⟩ := arr2 (hsz.trans c55)
  obtain ⟨xs, m, _, _, _, hn, hel⟩ := DataW.trod_struct Tryz.underlying55 h
  have h0 := hel 0 _ rfl
  have h1 := hel 1 _ rfl
  rw [show Tryz.prog.cellsOf (Field.type _) = 1 from c24] at h0
  rw [show Tryz.prog.cellsOf (Field.type _) = 1 from c4] at h1
  match xs, hn with
  | [y0, y1], _ =>
    obtain ⟨f, e0, _⟩ := DataW.trod_int Tryz.underlying24 (show DataW.trod enc Tryz.prog W 0 (fun _ => true) held m 24 [a] = some y0 from h0)
    obtain ⟨on, e1, _⟩ := DataW.trod_bool Tryz.underlying4 (show DataW.trod enc Tryz.prog W 0 (fun _ => true) held m 4 [b] = some y1 from h1)
    simp only [List.cons.injEq, and_true] at e0 e1
    subst e0 e1
    exact ⟨_, _, rfl⟩
end Go.Proofs.YtgfkachfbnbikaaGreatDoor

namespace Go.Proofs.YtgfkachfbnbikaaGreatDoor
open Go.RowKit Go.ChangeShapes Go.WideShapes Go.ChangeAt

set_option maxRecDepth 100000 in
theorem fbits_lifted (os : Os) (started : os.Started) (H : Type) (enc : TypeId × Value → H) :
    ReturnsInHanded {} Tryz.checked os 14 .any (fun w args => (Rows.fracBitsSpec.pre enc Tryz.prog Tryz.f14 [] false w args ∧ laidMetH Tryz.prog Rows.fracBitsRow.laid w) ∧ sizedMet enc Tryz.prog Tryz.f14 (OpenSpec.ofChange Rows.fracBitsSpec) false w args)
      (Rows.fracBitsSpec.post enc Tryz.prog Tryz.f14 false true false false) := by
  refine returns_law (C := Tryz.checked) (X := fun w _ => laidMetH Tryz.prog Rows.fracBitsRow.laid w) (fun _ _ _ hh h => h.of_heap hh) Tryz.own started (by kernel_rfl) Tryz.func14
    (ChangeSpec.witness_shaped (enc := enc) (C := Tryz.checked) (os := os) (X := fun w _ => laidMetH Tryz.prog Rows.fracBitsRow.laid w) false (World.laidAll Tryz.prog os Rows.fracBitsRow.laid) #[.agg #[.int .i64 0, .bool false, .slice none 0 0, .slice none 0 0], .agg #[.int .i64 0, .bool false, .slice none 0 0, .slice none 0 0], .agg #[.int .i64 0, .bool false], .agg #[.int .i64 0, .bool false]] 8 (World.laidAll_os _ _ _)
      (World.shaped_of_ZipB (by kernel_rfl) (by kernel_rfl)) (by kernel_rfl) (by kernel_rfl) (by kernel_rfl)
      (by rw [MakeChecks.laidMetH_plain _ _ _ (by kernel_rfl)]; exact laidMet_laidAll _ (by kernel_rfl) (by kernel_rfl))) ?_
  intro W base args ds gs before hval0 hW hL hsh
  have hval : ∀ (j : Nat) t v, Tryz.f14.params[j]? = some t → args[j]? = some v → Value.okWide Tryz.prog W .any base t v := hval0
  have hW' := hW
  obtain ⟨p, q, hA0, hV, rfl, hfz, hnd⟩ := hW
  have hA : DataW.TrodAll enc Tryz.prog W 0 (fun _ => true) true Tryz.f14.params.toList args.toList ds p := hA0
  have hA' := hA
  rw [Tryz.params14] at hA hval
  obtain ⟨v0, v1, v2, v3, d0, d1, d2, d3, p0, p1, p2, p3, rfl, rfl, rfl, ⟨k0, h0⟩, ⟨k1, h1⟩, ⟨k2, h2⟩, ⟨k3, h3⟩⟩ := trodAll_four hA
  obtain ⟨rfl, rfl⟩ := trodVars_none hV
  have hG := glob_of (by kernel_rfl) rfl hL hsh
  obtain ⟨f1, n1, sx1, sy1, xs1, ys1, rfl, hx1, hy1⟩ := rat_of (hval 0 26 v0 rfl rfl) h0
  obtain ⟨f2, n2, sx2, sy2, xs2, ys2, rfl, hx2, hy2⟩ := rat_of (hval 1 26 v1 rfl rfl) h1
  obtain ⟨f3, o3, rfl⟩ := bit_of (hval 2 55 v2 rfl rfl) h2
  obtain ⟨f4, o4, rfl⟩ := bit_of (hval 3 55 v3 rfl rfl) h3
  refine (fbits_calls hG hx1 hy1 hx2 hy2).mono fun e W' ⟨he, hw⟩ => ?_
  subst he
  refine ⟨_, rfl, law_post (ts := Tryz.f14.params.toList) rfl rfl rfl ?_ ⟨rfl, rfl, rfl⟩ hW' (by simpa using hA') hw⟩
  rw [Tryz.params14]
  exact read_all (by kernel_rfl)

theorem fracBits_holds : Rows.FracBitsSaid :=
  OpenClaim.holds_of_wide 14 Tryz.f14 rfl rfl rfl rfl rfl rfl rfl ⟨rfl, rfl, rfl, rfl, rfl⟩ rfl rfl rfl rfl rfl (by kernel_rfl) Tryz.func14 (by kernel_rfl)
    (of_decide_eq_true (by kernel_rfl)) (by unfold Func.isWrapper; first | (rw [if_neg (by decide +kernel)]; exact ⟨rfl, rfl⟩) | (rw [if_pos (by decide +kernel)]; kernel_rfl))
    (fun os started H enc _ => fbits_lifted os started H enc)
end Go.Proofs.YtgfkachfbnbikaaGreatDoor

namespace Go.Proofs.YtgfkachfbnbikaaGreatDoor
open Go

set_option maxRecDepth 100000 in
theorem fracBits_card : Rows.FracBitsCardSaid :=
  Claim7.holds_tied_plain_at .later [] [.data, .data, .pinned] true (true, "d85da3931ba373f0f2d5a7ce168e29c3a5db8cee51669ffe15e332533fbaa330") false
    fracBits_holds (fun _ h => by cases h) (by kernel_rfl) (fun _ h => by cases h) fracBits_row_tie rfl ⟨rfl, rfl⟩ (by kernel_rfl) rfl
    (fun f fn hf hfn => by
      obtain rfl : f = 14 := Option.some.inj ((show Tryz.prog.funcNamed "fluxion/fluxionlaw02.FracBits" = some 14 by kernel_rfl).symm.trans hf) |>.symm
      obtain rfl : fn = Tryz.f14 := (Option.some.inj (Tryz.func14.symm.trans hfn)).symm
      exact ⟨by kernel_rfl, fun j t ht => by
        rw [Tryz.params14] at ht
        have hm : t ∈ Tryz.f14.params.toList := by rw [Tryz.params14]; exact Array.mem_toList_iff.2 (Array.mem_of_getElem? ht)
        have hall : (Tryz.f14.params.toList.all fun u => !Tryz.prog.wantsStandIn u) = true := by kernel_rfl
        exact (show Tryz.prog.wantsStandIn t = false by simpa using List.all_eq_true.1 hall t hm)⟩)
    (by kernel_rfl)
#print axioms fracBits_card
end Go.Proofs.YtgfkachfbnbikaaGreatDoor
