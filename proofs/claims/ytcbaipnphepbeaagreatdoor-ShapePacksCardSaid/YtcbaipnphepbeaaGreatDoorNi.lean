/- Contracts of package frac: opposite. Contracts of package frac: Sub, Neg and their closures. Contracts of package fluxionref02: good, IsRat, Least. Contracts of package fluxionref01: Mul, Add. Contracts of package fluxionref02: Mul, Div. Contracts of package fluxionref01: Add. Contracts of package fluxionref02: signed, Add. Contracts of package fluxionref02: Neg, Sub. Contracts: Floor of package frac and of package fluxionref02. Contracts of package frac: the closures of Less and Same. Contracts of fluxionlaw02: natural, tame, number, good. The plain law of Floor: what is whole, at most the number, and next to it. The plain law of valid results: each result is valid; a number's parts, both times a number, make the number. The plain law of rational numbers: `ratio` is the number of its cross products. Contracts about bits: joined, Not, And, Or of package frac; IsBit, Not, And, Or of package fluxionref02. Contracts of package frac: asked, Same; the closure of Same. Contracts about bits of package fluxionref02: Not, And, Or. Contracts: Same of package frac and of package fluxionref02; Equal of package fluxionref02, of any two Rats. The plain law of rational numbers: a Rat's value, of sums, products and opposites; numbers of the same value are the same. -/
import Derived.Test.YtcbaipnphepbeaaGreatDoorNe
import Derived.Test.YtcbaipnphepbeaaGreatDoorNd
import Derived.Deep.RegionHeld
import Derived.Test.YtcbaipnphepbeaaGreatDoorNg
namespace Go.Proofs.YtcbaipnphepbeaaGreatDoor
open Go.RowKit

/-- The opposite number. -/
def oppq (q : Rq) : Rq := ⟨0, !q.neg && decide (0 < q.num.length), q.num, q.den⟩

/-- A box of four cells, and a result of four. -/
abbrev KeepO (w : World) (x0 x1 x2 x3 : Value) (w' : World) : Prop :=
  Aside (Ext w w') ∧ (w'.cell? ⟨w.heap.size, 0, none⟩ = some x0 ∧ w'.cell? ⟨w.heap.size, 1, none⟩ = some x1 ∧ w'.cell? ⟨w.heap.size, 2, none⟩ = some x2 ∧ w'.cell? ⟨w.heap.size, 3, none⟩ = some x3) ∧
    (Fits w' ⟨w.heap.size + 1, 0, none⟩ ∧ Fits w' ⟨w.heap.size + 1, 1, none⟩ ∧ Fits w' ⟨w.heap.size + 1, 2, none⟩ ∧ Fits w' ⟨w.heap.size + 1, 3, none⟩)
theorem KeepO.ext {w w1 w2 : World} {x0 x1 x2 x3 : Value} (e : Ext w1 w2) (h : KeepO w x0 x1 x2 x3 w1) : KeepO w x0 x1 x2 x3 w2 :=
  ⟨⟨h.1.out.trans e⟩, ⟨e.cell h.2.1.1, e.cell h.2.1.2.1, e.cell h.2.1.2.2.1, e.cell h.2.1.2.2.2⟩, ⟨h.2.2.1.ext e, h.2.2.2.1.ext e, h.2.2.2.2.1.ext e, h.2.2.2.2.2.ext e⟩⟩
theorem KeepO.init (w : World) (x0 x1 x2 x3 z0 z1 z2 z3 : Value) (t t' : TypeId) : KeepO w x0 x1 x2 x3 ((w.alloc (.cells #[x0, x1, x2, x3] t)).alloc (.cells #[z0, z1, z2, z3] t')) :=
  ⟨⟨((Ext.refl w).alloc _).alloc _⟩, ⟨cell_old (cell_new rfl rfl), cell_old (cell_new rfl rfl), cell_old (cell_new rfl rfl), cell_old (cell_new rfl rfl)⟩,
    ⟨fits_new (v := z0) (by simp) rfl, fits_new (v := z1) (by simp) rfl, fits_new (v := z2) (by simp) rfl, fits_new (v := z3) (by simp) rfl⟩⟩
theorem KeepO.set {w w1 : World} {x0 x1 x2 x3 : Value} (h : KeepO w x0 x1 x2 x3 w1) (j : Nat) (v : Value) : KeepO w x0 x1 x2 x3 (w1.setCell ⟨w.heap.size + 1, j, none⟩ v) :=
  ⟨⟨h.1.out.set (by show w.heap.size ≤ w.heap.size + 1; omega) v⟩, ⟨cell_other h.2.1.1 (by omega), cell_other h.2.1.2.1 (by omega), cell_other h.2.1.2.2.1 (by omega), cell_other h.2.1.2.2.2 (by omega)⟩,
    ⟨h.2.2.1.set _ _, h.2.2.2.1.set _ _, h.2.2.2.2.1.set _ _, h.2.2.2.2.2.set _ _⟩⟩


end Go.Proofs.YtcbaipnphepbeaaGreatDoor

namespace Go.Proofs.YtcbaipnphepbeaaGreatDoor
open Go.RowKit

theorem opp_rr {w : World} {r : Value} {q : Rq} {c d : Nat} (h : RR w r (oppq q)) (k : IsNum q c d) : RR w r ⟨0, (oppq q).neg, dig c, dig d⟩ := by
  have e : oppq q = ⟨0, (oppq q).neg, dig c, dig d⟩ := by
    show (⟨0, !q.neg && decide (0 < q.num.length), q.num, q.den⟩ : Rq) = ⟨0, !q.neg && decide (0 < q.num.length), dig c, dig d⟩
    rw [← k.num, ← k.den]
  rw [← e]; exact h


/-- The opposite of a number has its own sign. -/
theorem oppq_neg {q : Rq} {c d : Nat} (k : IsNum q c d) : (oppq q).neg = (!q.neg && decide (0 < c)) := by
  show (!q.neg && decide (0 < q.num.length)) = _
  rw [k.num]
  rcases Nat.eq_zero_or_pos c with rfl | h
  · rw [dig_zero]; rfl
  · rw [decide_eq_true h, decide_eq_true (dig_length_pos h)]







end Go.Proofs.YtcbaipnphepbeaaGreatDoor

namespace Go.Proofs.YtcbaipnphepbeaaGreatDoor
open Go.RowKit

set_option maxRecDepth 10000 in
theorem rgood_calls {w : World} {v : Value} {xs : List Nat} {b : Bool} (h : RV w v xs) (hb : (decide (natErr xs = 0) && !isLong (val xs)) = b) :
    Calls Tryz.prog 98 #[v] w fun e w' => e = .returned (.bool b) ∧ w = w' := by
  obtain ⟨A, c, rfl, hc, hd, hr⟩ := h
  have hds : Ds xs := hd.2
  rcases Nat.lt_or_ge 128 xs.length with h1 | h1
  · have HB : Aside (b = false) := ⟨by
      rw [← hb]
      by_cases hn : natErr xs = 0
      · have hx := (natErr_zero hds hn).2
        have : isLong (val xs) = true := by
          cases hh : isLong (val xs)
          · have := isLong_false.1 hh; rw [← hx] at this; omega
          · rfl
        rw [this]; simp
      · simp [hn]⟩
    rw [HB.out]
    clear hr hd hds hb
    go_enter Tryz.func98, Tryz.ntmps98
    go_wp2
    go_ret
    exact ⟨rfl, rfl⟩
  · rcases Nat.eq_zero_or_pos xs.length with h0 | h0
    · have hx : xs = [] := List.eq_nil_of_length_eq_zero h0
      subst hx
      have HB : Aside (b = true) := ⟨by rw [← hb]; rfl⟩
      rw [HB.out]
      clear hr hd hds hb h0 h1
      go_enter Tryz.func98, Tryz.ntmps98
      go_wp2
      go_ret
      exact ⟨by simp, rfl⟩
    · obtain ⟨k, hk⟩ : ∃ k, xs.length = k + 1 := ⟨xs.length - 1, by omega⟩
      obtain ⟨ad, rfl, hcell⟩ := hr.at32 k (by omega)
      obtain ⟨x, hx⟩ : ∃ x, xs.getD k 0 = x := ⟨_, rfl⟩
      rw [hx] at hcell
      have hb' : b = !(x == 0) := by
        rw [← hb]
        by_cases hz : x = 0
        · have : natErr xs = 5 := by unfold natErr; rw [if_neg (by omega), if_pos ⟨h0, by rw [hk]; simpa [hz] using hx⟩]
          rw [this, hz]; rfl
        · have hn : natErr xs = 0 := by
            unfold natErr
            rw [if_neg (by omega), if_neg]
            rintro ⟨_, h3⟩
            rw [hk, show k + 1 - 1 = k from rfl, hx] at h3
            exact hz h3
          have hxs := (natErr_zero hds hn).2
          have hl : isLong (val xs) = false := isLong_false.2 (by rw [← hxs]; exact h1)
          rw [hn, hl]; simp [hz]
      rw [hk] at h1 hc ⊢
      have h1' : k < 128 := by omega
      have hne : ((k : Int) + 1 == 0) = false := beq_eq_false_iff_ne.2 (by omega)
      by_cases hz : x = 0
      · subst hz
        have HB : Aside (b = false) := ⟨by rw [hb']; rfl⟩
        rw [HB.out]
        clear hr hd hds hb hb' hx hk h0 h1
        go_enter Tryz.func98, Tryz.ntmps98
        go_wp2
        go_ret
        exact ⟨by simp, rfl⟩
      · have HB : Aside (b = true) := ⟨by rw [hb']; simp [hz]⟩
        have hxz : ((x : Int) == 0) = false := beq_eq_false_iff_ne.2 (by omega)
        have hxz2 : ((x : Int) != 0) = true := by simp [bne, hxz]
        rw [HB.out]
        clear hr hd hds hb hb' hx hk h0 h1 hz
        go_enter Tryz.func98, Tryz.ntmps98
        go_wp2
        go_ret
        exact ⟨by simp, rfl⟩


set_option maxRecDepth 10000 in
set_option maxHeartbeats 2000000 in
theorem risrat_calls {w : World} {v : Value} {q : Rq} {b : Bool} (h : RR w v q) (hb : okq q = b) :
    Calls Tryz.prog 51 #[v] w fun e w' => e = .returned (.bool b) ∧ Ext w w' := by
  obtain ⟨x, y, rfl, hx, hy⟩ := h
  obtain ⟨f, neg, xs, ys⟩ := q
  have HX := Aside.mk hx
  have HY := Aside.mk hy
  obtain ⟨A, c, rfl, _, hdx, _⟩ := hx
  obtain ⟨B, d, rfl, _, hdy, _⟩ := hy
  dsimp only at *
  have hk0 := KeepB.init w (.int .i64 f) (.bool neg) (.slice A xs.length c) (.slice B ys.length d) 83
  by_cases hf : f = 0
  · subst hf
    obtain ⟨b1, hb1⟩ : ∃ z, (decide (natErr xs = 0) && !isLong (val xs)) = z := ⟨_, rfl⟩
    obtain ⟨b2, hb2⟩ : ∃ z, (decide (natErr ys = 0) && !isLong (val ys)) = z := ⟨_, rfl⟩
    obtain ⟨g, hg⟩ : ∃ g, Nat.gcd (val xs) (val ys) = g := ⟨_, rfl⟩
    have hS : b = (b1 && b2 && !(decide (ys.length = 0)) && !(neg && decide (xs.length = 0)) && (g == 1)) := by
      rw [← hb, ← hb1, ← hb2, ← hg]
      simp only [okq, if_true]
      cases decide (natErr xs = 0) <;> cases decide (natErr ys = 0) <;> cases isLong (val xs) <;> cases isLong (val ys) <;> simp
    have HB1 := Aside.mk hb1
    have HB2 := Aside.mk hb2
    have HG := Aside.mk hg
    have HDX := Aside.mk hdx.2
    have HDY := Aside.mk hdy.2
    obtain ⟨nx, hnx⟩ : ∃ n, xs.length = n := ⟨_, rfl⟩
    obtain ⟨ny, hny⟩ : ∃ n, ys.length = n := ⟨_, rfl⟩
    have HNX := Aside.mk hnx
    have HNY := Aside.mk hny
    rw [hnx] at HX hk0 ⊢
    rw [hny] at HY hk0 ⊢
    rw [hnx, hny] at hS
    have HK := Aside.mk hk0.1.out
    clear hb hb1 hb2 hg hdx hdy hnx hny
    cases b1
    · have HBF : Aside (b = false) := ⟨by rw [hS]; rfl⟩
      rw [HBF.out]
      clear hS
      go_enter Tryz.func51, Tryz.ntmps51
      go_wp2_with (go_at_call 98; with_reducible refine (rgood_calls (HX.out.ext hk0.1.out) HB1.out).mono ?_; rintro e w' ⟨rfl, rfl⟩)
      go_ret
      exact ⟨rfl, HK.out⟩
    cases b2
    · have HBF : Aside (b = false) := ⟨by rw [hS]; rfl⟩
      rw [HBF.out]
      clear hS
      go_enter Tryz.func51, Tryz.ntmps51
      go_wp2_with (first | (go_at_call 98; with_reducible refine (rgood_calls (HX.out.ext hk0.1.out) HB1.out).mono ?_; rintro e w' ⟨rfl, rfl⟩) | (go_at_call 98; with_reducible refine (rgood_calls (HY.out.ext hk0.1.out) HB2.out).mono ?_; rintro e w' ⟨rfl, rfl⟩))
      go_ret
      exact ⟨rfl, HK.out⟩
    rcases Nat.eq_zero_or_pos ny with rfl | hy0
    · have HBF : Aside (b = false) := ⟨by rw [hS]; rfl⟩
      rw [HBF.out]
      clear hS
      go_enter Tryz.func51, Tryz.ntmps51
      go_wp2_with (first | (go_at_call 98; with_reducible refine (rgood_calls (HX.out.ext hk0.1.out) HB1.out).mono ?_; rintro e w' ⟨rfl, rfl⟩) | (go_at_call 98; with_reducible refine (rgood_calls (HY.out.ext hk0.1.out) HB2.out).mono ?_; rintro e w' ⟨rfl, rfl⟩))
      go_ret
      exact ⟨rfl, HK.out⟩
    have hy1 : ((ny : Int) == 0) = false := beq_eq_false_iff_ne.2 (by omega)
    by_cases hbad : neg = true ∧ nx = 0
    · obtain ⟨rfl, rfl⟩ := hbad
      have HBF : Aside (b = false) := ⟨by rw [hS]; simp⟩
      rw [HBF.out]
      clear hS
      go_enter Tryz.func51, Tryz.ntmps51
      go_wp2_with (first | (go_at_call 98; with_reducible refine (rgood_calls (HX.out.ext hk0.1.out) HB1.out).mono ?_; rintro e w' ⟨rfl, rfl⟩) | (go_at_call 98; with_reducible refine (rgood_calls (HY.out.ext hk0.1.out) HB2.out).mono ?_; rintro e w' ⟨rfl, rfl⟩))
      go_ret
      exact ⟨rfl, HK.out⟩
    have hS2 : b = (g == 1) := by
      rw [hS, show decide (ny = 0) = false from by simp; omega]
      have : (neg && decide (nx = 0)) = false := by
        cases neg
        · rfl
        · simp at hbad; simp [hbad]
      rw [this]; simp
    have hneg : neg = true → ((nx : Int) == 0) = false := fun h => beq_eq_false_iff_ne.2 (by
      intro h2; exact hbad ⟨h, by omega⟩)
    have hg1 : ∀ z : Bool, z && true = true → z = true := fun z h => by simpa using h
    have h1 := HB1.out
    have h2 := HB2.out
    simp only [Bool.and_eq_true, decide_eq_true_eq, Bool.not_eq_true'] at h1 h2
    have HEX := Aside.mk (natErr_zero HDX.out h1.1)
    have HEY := Aside.mk (natErr_zero HDY.out h2.1)
    have HXD : Aside (RV w (.slice A nx c) (dig (val xs))) := ⟨by rw [← HEX.out.2]; exact HX.out⟩
    have HYD : Aside (RV w (.slice B ny d) (dig (val ys))) := ⟨by rw [← HEY.out.2]; exact HY.out⟩
    have HLB : Aside ((dig (val ys)).length < 1073741824) := ⟨by rw [← HEY.out.2]; have := HEY.out.1; omega⟩
    have hvy : 0 < val ys := by
      rcases Nat.eq_zero_or_pos (val ys) with h | h
      · have := HEY.out.2; rw [h, dig_zero] at this
        have := HNY.out; simp [‹ys = []›] at this; omega
      · exact h
    have HGP : Aside (0 < g) := ⟨by rw [← HG.out]; exact Nat.gcd_pos_of_pos_right _ hvy⟩
    clear hS hbad hg1 h1 h2 hvy
    rcases Nat.lt_or_ge g 4294967296 with hgB | hgB
    · have hdl : (dig g).length = 1 := by rw [dig_pos (by have := HGP.out; omega), Nat.div_eq_of_lt hgB, dig_zero]; rfl
      have HN0 : Aside (∀ n, (dig g).length = n + 1 → n = 0) := ⟨fun n h => by omega⟩
      by_cases hg1 : g = 1
      · subst hg1
        have HX1 : Aside (∀ x, x = 1 % 4294967296 → x = 1) := ⟨fun x h => by rw [h]⟩
        have HBT : Aside (b = true) := ⟨by rw [hS2]; rfl⟩
        rw [HBT.out]
        clear hS2 hdl hgB
        cases neg
        · go_enter Tryz.func51, Tryz.ntmps51
          go_wp2_with (first | (go_at_call 98; with_reducible refine (rgood_calls (HX.out.ext hk0.1.out) HB1.out).mono ?_; rintro e w' ⟨rfl, rfl⟩) | (go_at_call 98; with_reducible refine (rgood_calls (HY.out.ext hk0.1.out) HB2.out).mono ?_; rintro e w' ⟨rfl, rfl⟩) | ((go_at_call 99; with_reducible refine (rgcd_calls (HXD.out.ext hk0.1.out) (HYD.out.ext hk0.1.out) HLB.out HG.out).mono ?_; rintro e w5 ⟨r, rfl, hr, he⟩; have hk5 := KeepB.ext he hk0; obtain ⟨ad, n, c5, x, rfl, hcell, hx, hcn, hdl⟩ := hr.rv.first2 HGP.out; have HXX := Aside.mk hx; have HDL := Aside.mk hdl; clear hk0 hr he hx hdl); obtain rfl : n = 0 := HN0.out n HDL.out; obtain rfl : x = 1 := HX1.out x HXX.out))
          go_ret
          exact ⟨by simp, hk5.1.out⟩
        · have hneg2 := hneg rfl
          go_enter Tryz.func51, Tryz.ntmps51
          go_wp2_with (first | (go_at_call 98; with_reducible refine (rgood_calls (HX.out.ext hk0.1.out) HB1.out).mono ?_; rintro e w' ⟨rfl, rfl⟩) | (go_at_call 98; with_reducible refine (rgood_calls (HY.out.ext hk0.1.out) HB2.out).mono ?_; rintro e w' ⟨rfl, rfl⟩) | ((go_at_call 99; with_reducible refine (rgcd_calls (HXD.out.ext hk0.1.out) (HYD.out.ext hk0.1.out) HLB.out HG.out).mono ?_; rintro e w5 ⟨r, rfl, hr, he⟩; have hk5 := KeepB.ext he hk0; obtain ⟨ad, n, c5, x, rfl, hcell, hx, hcn, hdl⟩ := hr.rv.first2 HGP.out; have HXX := Aside.mk hx; have HDL := Aside.mk hdl; clear hk0 hr he hx hdl); obtain rfl : n = 0 := HN0.out n HDL.out; obtain rfl : x = 1 := HX1.out x HXX.out))
          go_ret
          exact ⟨by simp, hk5.1.out⟩
      · have HX1 : Aside (∀ x, x = g % 4294967296 → ((x : Int) == 1) = false) := ⟨fun x h => by rw [Nat.mod_eq_of_lt hgB] at h; exact beq_eq_false_iff_ne.2 (by omega)⟩
        have HBT : Aside (b = false) := ⟨by rw [hS2]; simp [hg1]⟩
        rw [HBT.out]
        clear hS2 hdl hgB hg1
        cases neg
        · go_enter Tryz.func51, Tryz.ntmps51
          go_wp2_with (first | (go_at_call 98; with_reducible refine (rgood_calls (HX.out.ext hk0.1.out) HB1.out).mono ?_; rintro e w' ⟨rfl, rfl⟩) | (go_at_call 98; with_reducible refine (rgood_calls (HY.out.ext hk0.1.out) HB2.out).mono ?_; rintro e w' ⟨rfl, rfl⟩) | ((go_at_call 99; with_reducible refine (rgcd_calls (HXD.out.ext hk0.1.out) (HYD.out.ext hk0.1.out) HLB.out HG.out).mono ?_; rintro e w5 ⟨r, rfl, hr, he⟩; have hk5 := KeepB.ext he hk0; obtain ⟨ad, n, c5, x, rfl, hcell, hx, hcn, hdl⟩ := hr.rv.first2 HGP.out; have HXX := Aside.mk hx; have HDL := Aside.mk hdl; clear hk0 hr he hx hdl); obtain rfl : n = 0 := HN0.out n HDL.out; have hx1 : ((x : Int) == 1) = false := HX1.out x HXX.out))
          go_ret
          exact ⟨by simp, hk5.1.out⟩
        · have hneg2 := hneg rfl
          go_enter Tryz.func51, Tryz.ntmps51
          go_wp2_with (first | (go_at_call 98; with_reducible refine (rgood_calls (HX.out.ext hk0.1.out) HB1.out).mono ?_; rintro e w' ⟨rfl, rfl⟩) | (go_at_call 98; with_reducible refine (rgood_calls (HY.out.ext hk0.1.out) HB2.out).mono ?_; rintro e w' ⟨rfl, rfl⟩) | ((go_at_call 99; with_reducible refine (rgcd_calls (HXD.out.ext hk0.1.out) (HYD.out.ext hk0.1.out) HLB.out HG.out).mono ?_; rintro e w5 ⟨r, rfl, hr, he⟩; have hk5 := KeepB.ext he hk0; obtain ⟨ad, n, c5, x, rfl, hcell, hx, hcn, hdl⟩ := hr.rv.first2 HGP.out; have HXX := Aside.mk hx; have HDL := Aside.mk hdl; clear hk0 hr he hx hdl); obtain rfl : n = 0 := HN0.out n HDL.out; have hx1 : ((x : Int) == 1) = false := HX1.out x HXX.out))
          go_ret
          exact ⟨by simp, hk5.1.out⟩
    · have HN0 : Aside (∀ n, (dig g).length = n + 1 → ((n : Int) + 1 == 1) = false) := ⟨fun n h => by
        have h1 := lt_of_dig_length (Nat.le_of_eq h)
        rcases Nat.eq_zero_or_pos n with rfl | h2
        · rw [Nat.zero_add, Nat.pow_one] at h1; omega
        · exact beq_eq_false_iff_ne.2 (by omega)⟩
      have HBT : Aside (b = false) := ⟨by rw [hS2]; simp; omega⟩
      rw [HBT.out]
      clear hS2 hgB
      cases neg
      · go_enter Tryz.func51, Tryz.ntmps51
        go_wp2_with (first | (go_at_call 98; with_reducible refine (rgood_calls (HX.out.ext hk0.1.out) HB1.out).mono ?_; rintro e w' ⟨rfl, rfl⟩) | (go_at_call 98; with_reducible refine (rgood_calls (HY.out.ext hk0.1.out) HB2.out).mono ?_; rintro e w' ⟨rfl, rfl⟩) | ((go_at_call 99; with_reducible refine (rgcd_calls (HXD.out.ext hk0.1.out) (HYD.out.ext hk0.1.out) HLB.out HG.out).mono ?_; rintro e w5 ⟨r, rfl, hr, he⟩; have hk5 := KeepB.ext he hk0; obtain ⟨ad, n, c5, x, rfl, hcell, hx, hcn, hdl⟩ := hr.rv.first2 HGP.out; have HXX := Aside.mk hx; have HDL := Aside.mk hdl; clear hk0 hr he hx hdl); have hn1 : ((n : Int) + 1 == 1) = false := HN0.out n HDL.out))
        go_ret
        exact ⟨by simp, hk5.1.out⟩
      · have hneg2 := hneg rfl
        go_enter Tryz.func51, Tryz.ntmps51
        go_wp2_with (first | (go_at_call 98; with_reducible refine (rgood_calls (HX.out.ext hk0.1.out) HB1.out).mono ?_; rintro e w' ⟨rfl, rfl⟩) | (go_at_call 98; with_reducible refine (rgood_calls (HY.out.ext hk0.1.out) HB2.out).mono ?_; rintro e w' ⟨rfl, rfl⟩) | ((go_at_call 99; with_reducible refine (rgcd_calls (HXD.out.ext hk0.1.out) (HYD.out.ext hk0.1.out) HLB.out HG.out).mono ?_; rintro e w5 ⟨r, rfl, hr, he⟩; have hk5 := KeepB.ext he hk0; obtain ⟨ad, n, c5, x, rfl, hcell, hx, hcn, hdl⟩ := hr.rv.first2 HGP.out; have HXX := Aside.mk hx; have HDL := Aside.mk hdl; clear hk0 hr he hx hdl); have hn1 : ((n : Int) + 1 == 1) = false := HN0.out n HDL.out))
        go_ret
        exact ⟨by simp, hk5.1.out⟩
  · have hf0 : (f == 0) = false := beq_eq_false_iff_ne.2 hf
    have hf1 : (f != 0) = true := by simp [bne, hf0]
    have HS : Aside (b = ((f == 4 || f == 11) && !neg && decide (xs.length + ys.length = 0))) := ⟨by rw [← hb]; simp [okq, hf]⟩
    have HK := Aside.mk hk0.1.out
    have hlx : ((xs.length : Int) == 0) = decide (xs.length = 0) := by
      by_cases h0 : xs.length = 0
      · simp [h0]
      · rw [decide_eq_false h0]; exact beq_eq_false_iff_ne.2 (by omega)
    have hly : ((ys.length : Int) == 0) = decide (ys.length = 0) := by
      by_cases h0 : ys.length = 0
      · simp [h0]
      · rw [decide_eq_false h0]; exact beq_eq_false_iff_ne.2 (by omega)
    have hsum : decide (xs.length + ys.length = 0) = (decide (xs.length = 0) && decide (ys.length = 0)) := by
      by_cases h0 : xs.length = 0 <;> by_cases h1 : ys.length = 0 <;> simp [h0, h1]
    rw [HS.out, hsum]
    clear hb HS hsum hdx hdy hf
    generalize decide (xs.length = 0) = bx at *
    generalize decide (ys.length = 0) = by_ at *
    generalize xs.length = nx at *
    generalize ys.length = ny at *
    cases h4 : (f == 4) <;> cases h11 : (f == 11) <;> cases neg <;> cases bx <;> cases by_ <;> (go_enter Tryz.func51, Tryz.ntmps51; go_wp2; go_ret; exact ⟨by simp, HK.out⟩)
end Go.Proofs.YtcbaipnphepbeaaGreatDoor

namespace Go.Proofs.YtcbaipnphepbeaaGreatDoor
open Go.RowKit

theorem mul_room {i k c l : Nat} {zs xs ys : List Nat} (hx : Ds xs) (hy : Ds ys) (hi : i < xs.length) (hl : l = ys.length) (hk : l ≤ k) (hc : 0 < c)
    (h : val zs + 4294967296 ^ (i + k) * c = val (xs.take (i + 1)) * val ys) : k = l := by
  have h1 := val_lt (hx.take (i + 1))
  rw [List.length_take, Nat.min_eq_left (by omega)] at h1
  have h2 := val_lt hy
  have h3 : val (xs.take (i + 1)) * val ys < 4294967296 ^ (i + 1) * 4294967296 ^ ys.length := Nat.mul_lt_mul'' h1 h2
  rw [← Nat.pow_add] at h3
  have h4 : 4294967296 ^ (i + k) ≤ 4294967296 ^ (i + k) * c := Nat.le_mul_of_pos_right _ hc
  have h5 : 4294967296 ^ (i + k) < 4294967296 ^ (i + 1 + ys.length) := by omega
  have h6 := (Nat.pow_lt_pow_iff_right (show 1 < 4294967296 by decide)).1 h5
  omega

end Go.Proofs.YtcbaipnphepbeaaGreatDoor

namespace Go.Proofs.YtcbaipnphepbeaaGreatDoor
open Go.RowKit


theorem RV.eq' {w : World} {v : Value} {xs ys : List Nat} (h : RV w v xs) (e : xs = ys) : RV w v ys := e ▸ h
theorem made1 {a b res q : Rq} (ka : okq a = true) (kb : okq b = true) (hq : (madeq a b res).1 = q) : (leastq a.f b.f = 0 → q = res) ∧ (leastq a.f b.f ≠ 0 → q = fq (leastq a.f b.f)) := by
  unfold madeq at hq
  rw [ka, kb] at hq
  constructor
  · intro h; rw [← hq]; simp [h]
  · intro h; rw [← hq]; simp [h]



end Go.Proofs.YtcbaipnphepbeaaGreatDoor

namespace Go.Proofs.YtcbaipnphepbeaaGreatDoor
open Go.RowKit

theorem add_step {X Y Z P a b c d e : Nat} (h : Z + P * c = X + Y) (hs : a + b + c = d + 4294967296 * e) :
    (Z + P * d) + (P * 4294967296) * e = (X + P * a) + (Y + P * b) := by
  have h1 : P * (a + b + c) = P * (d + 4294967296 * e) := by rw [hs]
  simp only [Nat.mul_add, ← Nat.mul_assoc] at h1
  omega
theorem add_last {X Y Z P c m n k : Nat} (hX : X < 4294967296 ^ m) (hY : Y < 4294967296 ^ n) (hm : m + 1 ≤ k) (hn : n + 1 ≤ k) (hP : 4294967296 ^ k = P) (h : Z + P * c = X + Y) : Z = X + Y := by
  obtain ⟨j, rfl⟩ : ∃ j, k = j + 1 := ⟨k - 1, by omega⟩
  have h1 : 4294967296 ^ m ≤ 4294967296 ^ j := Nat.pow_le_pow_right (by decide) (by omega)
  have h2 : 4294967296 ^ n ≤ 4294967296 ^ j := Nat.pow_le_pow_right (by decide) (by omega)
  rw [Nat.pow_succ] at hP
  rcases Nat.eq_zero_or_pos c with rfl | hc
  · simpa using h
  · exfalso
    have h3 : P ≤ P * c := Nat.le_mul_of_pos_right _ hc
    omega

end Go.Proofs.YtcbaipnphepbeaaGreatDoor

namespace Go.Proofs.YtcbaipnphepbeaaGreatDoor
open Go.RowKit


theorem rsub_m {w : World} {u v : Value} {a b m : Nat} (hu : RV w u (dig a)) (hv : RV w v (dig b)) (h : b ≤ a) (hm : a - b = m) :
    Calls Tryz.prog 132 #[u, v] w fun e w' => ∃ r, e = .returned r ∧ OV w.heap.size w' r (dig m) ∧ Ext w w' := by
  subst hm
  exact rsub_n hu hv h


end Go.Proofs.YtcbaipnphepbeaaGreatDoor

namespace Go.Proofs.YtcbaipnphepbeaaGreatDoor
open Go.RowKit

theorem ratio_num {q : Rq} {a b : Nat} (k : IsNum q a b) (n : Bool) : ratio n a b = ⟨0, n && decide (0 < a), q.num, q.den⟩ := by
  have hb := k.pos
  unfold ratio
  rw [if_neg (by omega), k.gcd, Nat.div_one, Nat.div_one, isLong_false.2 k.la, isLong_false.2 k.lb, k.num, k.den]
  rfl
theorem ratio_opp {q : Rq} {a b : Nat} (k : IsNum q a b) : ratio (!q.neg) a b = oppq q := by
  rw [ratio_num k]
  have := oppq_neg k
  cases h : oppq q with
  | mk f n x y =>
    rw [h] at this
    simp only [oppq, Rq.mk.injEq] at h this
    rw [this, ← h.1, ← h.2.2.1, ← h.2.2.2]
theorem okq_opp {q : Rq} (h : okq q = true) (hf : q.f = 0) : okq (oppq q) = true := by
  obtain ⟨f, n, x, y⟩ := q
  obtain rfl : f = 0 := hf
  show okq ⟨0, !n && decide (0 < x.length), x, y⟩ = true
  unfold okq at h ⊢
  dsimp only at h ⊢
  rw [if_pos rfl] at h ⊢
  simp only [Bool.and_eq_true] at h ⊢
  refine ⟨⟨h.1.1, ?_⟩, h.2⟩
  rcases Nat.eq_zero_or_pos x.length with h0 | h0
  · rw [h0]; simp
  · rw [decide_eq_false (show ¬ x.length = 0 by omega)]; simp
theorem leastq_self (a : Int) : leastq a a = a := by unfold leastq; split <;> simp_all
theorem madeq_self {a : Rq} (h : okq a = true) (res : Rq) : (madeq a a res).1 = if a.f = 0 then res else fq a.f := by
  unfold madeq; rw [h, leastq_self]; rfl



end Go.Proofs.YtcbaipnphepbeaaGreatDoor

namespace Go.Proofs.YtcbaipnphepbeaaGreatDoor
open Go.RowKit

/-- The greatest whole number that is not greater. -/
def floorq (n : Bool) (x y : Nat) : Rq := ratio n (if n = true ∧ 0 < x % y then x / y + 1 else x / y) 1
theorem lit1n {w : World} {n : Nat} (hs : w.heap.size = n) : NV (w.alloc (.cells #[.int .u32 1] 89)) (.slice (some ⟨n, 0, none⟩) 1 1) 1 := by
  subst hs
  have h := OV.lit w [1] (by simp) (Ds.cons (by decide) Ds.nil)
  simp only [u32s, List.map_cons, List.map_nil, List.length_cons, List.length_nil] at h
  exact ⟨by rw [dig_one]; exact h.rv, by rw [dig_one]; simp⟩
theorem KeepM.far {w w1 : World} {x0 x1 x2 x3 y0 y1 y2 y3 : Value} (h : KeepM w x0 x1 x2 x3 y0 y1 y2 y3 w1) {g : Nat} (hg : w.heap.size + 2 < g) (j : Nat) (v : Value) : KeepM w x0 x1 x2 x3 y0 y1 y2 y3 (w1.setCell ⟨g, j, none⟩ v) :=
  ⟨⟨h.1.out.set (show w.heap.size ≤ g by omega) v⟩, ⟨cell_other h.2.1.1 (by omega), cell_other h.2.1.2.1 (by omega), cell_other h.2.1.2.2.1 (by omega), cell_other h.2.1.2.2.2 (by omega)⟩, ⟨cell_other h.2.2.1.1 (by omega), cell_other h.2.2.1.2.1 (by omega), cell_other h.2.2.1.2.2.1 (by omega), cell_other h.2.2.1.2.2.2 (by omega)⟩,
    ⟨h.2.2.2.1.set _ _, h.2.2.2.2.1.set _ _, h.2.2.2.2.2.1.set _ _, h.2.2.2.2.2.2.set _ _⟩⟩

theorem dig_div {x y : Nat} (h : (dig x).length ≤ 128) : (dig (x / y)).length ≤ 128 := Nat.le_trans (dig_len_mono (Nat.div_le_self _ _)) h
theorem dig_div1 {x y : Nat} (h : (dig x).length ≤ 128) : (dig (x / y + 1)).length ≤ 129 := len_add (dig_div h) (by rw [dig_one]; simp)
theorem dig_mod {x y : Nat} : (0 < x % y → 0 < (dig (x % y)).length) ∧ (x % y = 0 → (dig (x % y)).length = 0) :=
  ⟨fun h => dig_length_pos h, fun h => by rw [h, dig_zero]; rfl⟩




theorem rdiv_q {w : World} {u v : Value} {a b x y : Nat} (hu : RV w u (dig a)) (hv : RV w v (dig b)) (hb : 0 < b) (hbl : (dig b).length < 1073741824) (hx : a / b = x) (hy : a % b = y) :
    Calls Tryz.prog 154 #[u, v] w fun e w' => ∃ q r, e = .returned (.tuple #[q, r]) ∧ OV w.heap.size w' q (dig x) ∧ OV w.heap.size w' r (dig y) ∧ Ext w w' := by
  subst hx hy; exact rdiv_calls hu hv hb hbl

end Go.Proofs.YtcbaipnphepbeaaGreatDoor

namespace Go.Proofs.YtcbaipnphepbeaaGreatDoor
open Go.RowKit

/-- Is a number less than another one: with the products of the numerators and the other denominators. -/
def lessq (n1 : Bool) (p : Nat) (n2 : Bool) (r : Nat) : Bool := if n1 = n2 then (if n1 = true then decide (r < p) else decide (p < r)) else n1
theorem less_ssum {n1 n2 : Bool} {x y c d : Nat} (hx : n1 = true → 0 < x) (hc : n2 = true → 0 < c) (hy : 0 < y) (hd : 0 < d) {s : Bool} {m : Nat} (hs : ssum n1 (x * d) (!n2 && decide (0 < c)) (c * y) = (s, m)) :
    (s && decide (0 < m)) = lessq n1 (x * d) n2 (c * y) := by
  have h1 : n1 = true → 0 < x * d := fun h => Nat.mul_pos (hx h) hd
  have h2 : 0 < c → 0 < c * y := fun h => Nat.mul_pos h hy
  have h3 : c = 0 → c * y = 0 := fun h => by rw [h, Nat.zero_mul]
  generalize x * d = p at *
  generalize c * y = r at *
  unfold ssum at hs
  unfold lessq
  rcases Nat.eq_zero_or_pos c with h0 | h0
  · have hr := h3 h0
    have hn2 : n2 = false := by cases n2; rfl; exact absurd (hc rfl) (by omega)
    subst hn2 hr
    rw [decide_eq_false (show ¬ 0 < c by omega)] at hs
    cases n1
    · simp at hs; rw [hs.1]; simp
    · have := h1 rfl
      rw [if_neg (by simp), if_neg (by omega)] at hs
      injection hs with e1 e2
      subst e1 e2
      simp; omega
  · rw [decide_eq_true h0, Bool.and_true] at hs
    have hr := h2 h0
    cases n1
    · cases n2
      · rw [if_neg (by simp)] at hs
        by_cases hlt : p < r
        · rw [if_pos hlt] at hs
          injection hs with e1 e2
          subst e1 e2
          simp [hlt]; omega
        · rw [if_neg hlt] at hs
          injection hs with e1 e2
          subst e1 e2
          simp; omega
      · rw [if_pos (by simp)] at hs
        injection hs with e1 e2
        subst e1 e2
        simp
    · have hp := h1 rfl
      cases n2
      · rw [if_pos (by simp)] at hs
        injection hs with e1 e2
        subst e1 e2
        simp; omega
      · rw [if_neg (by simp)] at hs
        by_cases hlt : p < r
        · rw [if_pos hlt] at hs
          injection hs with e1 e2
          subst e1 e2
          simp; omega
        · rw [if_neg hlt] at hs
          injection hs with e1 e2
          subst e1 e2
          by_cases hpr : r < p
          · simp [hpr]; omega
          · simp [hpr]; omega

/-- A box of two cells that may be stored into. -/
abbrev Box2 (w : World) (g : Nat) : Prop := Fits w ⟨g, 0, none⟩ ∧ Fits w ⟨g, 1, none⟩
theorem Box2.ext {a b : World} (e : Ext a b) {g : Nat} (h : Box2 a g) : Box2 b g := ⟨h.1.ext e, h.2.ext e⟩

theorem RR.opened {w : World} {v : Value} {f : Int} {n : Bool} {xs ys : List Nat} (h : RR w v ⟨f, n, xs, ys⟩) :
    ∃ A c B d, v = .agg #[.int .i64 f, .bool n, .slice A xs.length c, .slice B ys.length d] ∧ RV w (.slice A xs.length c) xs ∧ RV w (.slice B ys.length d) ys := by
  obtain ⟨x, y, rfl, h1, h2⟩ := h
  obtain ⟨A, c, rfl, _⟩ := id h1
  obtain ⟨B, d, rfl, _⟩ := id h2
  exact ⟨A, c, B, d, rfl, h1, h2⟩



end Go.Proofs.YtcbaipnphepbeaaGreatDoor

namespace Go.Proofs.YtcbaipnphepbeaaGreatDoor
open Go.RowKit



/-- The digits of a list, 1 if they are 0. -/
def den1 (n : Nat) : Nat := if n = 0 then 1 else n
/-- A valid Rat made of any one. -/
def tameq (f : Int) (neg : Bool) (xs ys : List Nat) (most : Nat) : Rq := if f = 4 ∨ f = 11 then fq f else ratio neg (val (xs.take most)) (den1 (val (ys.take most)))
theorem dig_take {xs : List Nat} {most : Nat} (h : Ds xs) : (dig (val (xs.take most))).length ≤ most := by
  apply dig_length_le
  have h1 := val_lt (h.take most)
  exact Nat.lt_of_lt_of_le h1 (Nat.pow_le_pow_right (by decide) (by rw [List.length_take]; exact Nat.min_le_left _ _))
theorem RL.ds {w : World} {u : Value} {xs : List Nat} (h : RL w u xs) : Ds xs := by
  obtain ⟨_, _, _, _, _, hd, _⟩ := h
  exact hd
theorem lit1r {w : World} {n : Nat} (hs : w.heap.size = n) : RV (w.alloc (.cells #[.int .u32 1] 89)) (.slice (some ⟨n, 0, none⟩) 1 1) (dig 1) := by
  subst hs
  have h := OV.lit w [1] (by simp) (Ds.cons (by decide) Ds.nil)
  simp only [u32s, List.map_cons, List.map_nil, List.length_cons, List.length_nil] at h
  rw [dig_one]; exact h.rv


theorem KeepBR.first {w w1 : World} {x0 x1 x2 x3 : Value} (h : KeepBR w x0 x1 x2 x3 w1) (v : Value) : KeepBR w v x1 x2 x3 (w1.setCell ⟨w.heap.size, 0, none⟩ v) :=
  ⟨⟨h.1.out.set (Nat.le_refl _) v⟩, ⟨cell_same h.2.1.1, off_other h.2.1.2.1 (by decide), off_other h.2.1.2.2.1 (by decide), off_other h.2.1.2.2.2 (by decide)⟩, ⟨h.2.2.1.set _ _, h.2.2.2.1.set _ _, h.2.2.2.2.1.set _ _, h.2.2.2.2.2.set _ _⟩⟩


end Go.Proofs.YtcbaipnphepbeaaGreatDoor

namespace Go.Proofs.YtcbaipnphepbeaaGreatDoor
open Go.RowKit

theorem IsNum.ok {q : Rq} {a b : Nat} (k : IsNum q a b) : okq q = true := by
  have h1 := k.f
  have h2 := k.num
  have h3 := k.den
  have hb := dig_length_pos k.pos
  have hn : (q.neg && decide ((dig a).length = 0)) = false := by
    cases hq : q.neg
    · rfl
    · have := dig_length_pos (k.neg hq)
      rw [decide_eq_false (by omega)]; rfl
  unfold okq
  rw [if_pos h1, h2, h3, natErr_dig0 (Nat.le_trans k.la (by decide)), natErr_dig0 (Nat.le_trans k.lb (by decide)), val_dig, val_dig, isLong_false.2 k.la, isLong_false.2 k.lb, hn, decide_eq_false (show ¬ (dig b).length = 0 by omega), k.gcd]
  rfl
theorem ratio_is {n : Bool} {x y : Nat} (hy : 0 < y) (hx : (dig x).length ≤ 128) (hl : (dig y).length ≤ 128) : IsNum (ratio n x y) (x / Nat.gcd x y) (y / Nat.gcd x y) := by
  have hg : 0 < Nat.gcd x y := Nat.gcd_pos_of_pos_right _ hy
  have lx := Nat.le_trans (dig_len_mono (Nat.div_le_self x (Nat.gcd x y))) hx
  have ly := Nat.le_trans (dig_len_mono (Nat.div_le_self y (Nat.gcd x y))) hl
  have e : ratio n x y = ⟨0, n && decide (0 < x), dig (x / Nat.gcd x y), dig (y / Nat.gcd x y)⟩ := by
    unfold ratio
    rw [if_neg (by omega), isLong_false.2 lx, isLong_false.2 ly]; rfl
  rw [e]
  refine ⟨rfl, rfl, rfl, lx, ly, Nat.div_pos (Nat.le_of_dvd hy (Nat.gcd_dvd_right _ _)) hg, ?_, ?_⟩
  · rw [Nat.gcd_div (Nat.gcd_dvd_left _ _) (Nat.gcd_dvd_right _ _), Nat.div_self hg]
  · intro h
    simp only [Bool.and_eq_true, decide_eq_true_eq] at h
    exact Nat.div_pos (Nat.le_of_dvd h.2 (Nat.gcd_dvd_left _ _)) hg
theorem ratio_whole {n : Bool} {m : Nat} (hm : (dig m).length ≤ 128) : ratio n m 1 = ⟨0, n && decide (0 < m), dig m, dig 1⟩ := by
  unfold ratio
  rw [Nat.gcd_one_right, Nat.div_one, if_neg (by decide), isLong_false.2 hm, isLong_false.2 (by rw [dig_one]; decide)]; rfl
theorem whole_is {n : Bool} {m : Nat} (hm : (dig m).length ≤ 128) : IsNum ⟨0, n && decide (0 < m), dig m, dig 1⟩ m 1 :=
  ⟨rfl, rfl, rfl, hm, by rw [dig_one]; decide, by decide, Nat.gcd_one_right _, fun h => by simp only [Bool.and_eq_true, decide_eq_true_eq] at h; exact h.2⟩
/-- The whole number that Floor finds. -/
def flo (n : Bool) (p d : Nat) : Nat := if n = true ∧ 0 < p % d then p / d + 1 else p / d
theorem flo_less {n : Bool} {p d : Nat} (hd : 0 < d) (hn : n = true → 0 < p) : lessq n p (n && decide (0 < flo n p d)) (flo n p d * d) = false := by
  have h1 := Nat.div_add_mod p d
  have h2 := Nat.mod_lt p hd
  rw [Nat.mul_comm] at h1
  unfold flo
  cases n
  · rw [if_neg (by simp)]
    simp [lessq]; omega
  · have hp := hn rfl
    by_cases h : 0 < p % d
    · rw [if_pos ⟨rfl, h⟩]
      have e : (p / d + 1) * d = p / d * d + d := by rw [Nat.add_mul, Nat.one_mul]
      simp [lessq]; omega
    · rw [if_neg (by simpa using h)]
      have hq : 0 < p / d := by
        rcases Nat.eq_zero_or_pos (p / d) with h0 | h0
        · rw [h0, Nat.zero_mul] at h1; omega
        · exact h0
      rw [decide_eq_true hq]
      simp [lessq]; omega
/-- The next whole number, with its sign. -/
def nxt (n : Bool) (m : Nat) : Bool × Nat := ssum (n && decide (0 < m)) (m * 1) false (1 * 1)
theorem nxt_less {n : Bool} {p d : Nat} (hd : 0 < d) (hn : n = true → 0 < p) : lessq n p ((nxt n (flo n p d)).1 && decide (0 < (nxt n (flo n p d)).2)) ((nxt n (flo n p d)).2 * d) = true := by
  have h1 := Nat.div_add_mod p d
  have h2 := Nat.mod_lt p hd
  rw [Nat.mul_comm] at h1
  cases n
  · have e : flo false p d = p / d := by unfold flo; rw [if_neg (by simp)]
    have e2 : nxt false (p / d) = (false, p / d + 1) := by simp [nxt, ssum]
    rw [e, e2]
    have e3 : (p / d + 1) * d = p / d * d + d := by rw [Nat.add_mul, Nat.one_mul]
    simp [lessq]; omega
  · have hp := hn rfl
    obtain ⟨m, hm⟩ : ∃ m, flo true p d = m + 1 ∧ m * d < p := by
      unfold flo
      by_cases h : 0 < p % d
      · rw [if_pos ⟨rfl, h⟩]
        exact ⟨p / d, rfl, by omega⟩
      · rw [if_neg (by simpa using h)]
        have hq : 0 < p / d := by
          rcases Nat.eq_zero_or_pos (p / d) with h0 | h0
          · rw [h0, Nat.zero_mul] at h1; omega
          · exact h0
        obtain ⟨k, hk⟩ : ∃ k, p / d = k + 1 := ⟨p / d - 1, by omega⟩
        rw [hk, Nat.add_mul, Nat.one_mul] at h1
        exact ⟨k, hk, by omega⟩
    rw [hm.1]
    have e2 : nxt true (m + 1) = (true, m) := by
      unfold nxt ssum
      rw [decide_eq_true (show 0 < m + 1 by omega)]
      rw [if_neg (by simp), if_neg (by omega)]
      simp
    rw [e2]
    rcases Nat.eq_zero_or_pos m with h0 | h0
    · subst h0; simp [lessq]
    · rw [decide_eq_true h0]
      simp [lessq]; omega
theorem flo_le {n : Bool} {p d : Nat} : flo n p d ≤ p + 1 := by
  unfold flo
  have := Nat.div_le_self p d
  split <;> omega
theorem nxt_le {n : Bool} {m : Nat} : (nxt n m).2 ≤ m + 1 := by
  unfold nxt ssum
  split
  · simp
  · split
    · simp; omega
    · simp; omega
end Go.Proofs.YtcbaipnphepbeaaGreatDoor

namespace Go.Proofs.YtcbaipnphepbeaaGreatDoor
open Go.RowKit

theorem okq_fault {l : Int} (h : l = 4 ∨ l = 11) : okq (fq l) = true := by rcases h with rfl | rfl <;> rfl
theorem okq_f {q : Rq} (h : okq q = true) : q.f = 0 ∨ q.f = 4 ∨ q.f = 11 := by
  unfold okq at h
  split at h
  · rename_i h0; exact .inl h0
  · simp only [Bool.and_eq_true, Bool.or_eq_true, beq_iff_eq] at h
    exact .inr h.1.1
theorem okq_fq {q : Rq} (h : okq q = true) (hf : q.f ≠ 0) : q = fq q.f := by
  unfold okq at h
  rw [if_neg hf] at h
  simp only [Bool.and_eq_true, Bool.not_eq_true', decide_eq_true_eq] at h
  obtain ⟨f, n, x, y⟩ := q
  dsimp only at h
  have hx : x = [] := List.eq_nil_of_length_eq_zero (by omega)
  have hy : y = [] := List.eq_nil_of_length_eq_zero (by omega)
  obtain rfl : n = false := h.1.2
  subst hx hy
  rfl
theorem ratio_okq (n : Bool) (x y : Nat) : okq (ratio n x y) = true := by
  rcases Nat.eq_zero_or_pos y with h | h
  · subst h; unfold ratio; rw [if_pos rfl]; rfl
  · cases h1 : (isLong (x / Nat.gcd x y) || isLong (y / Nat.gcd x y))
    · rw [Bool.or_eq_false_iff] at h1
      have hg : 0 < Nat.gcd x y := Nat.gcd_pos_of_pos_right _ h
      have k : IsNum (ratio n x y) (x / Nat.gcd x y) (y / Nat.gcd x y) := by
        have e : ratio n x y = ⟨0, n && decide (0 < x), dig (x / Nat.gcd x y), dig (y / Nat.gcd x y)⟩ := by
          unfold ratio
          rw [if_neg (by omega), h1.1, h1.2]; rfl
        rw [e]
        refine ⟨rfl, rfl, rfl, isLong_false.1 h1.1, isLong_false.1 h1.2, Nat.div_pos (Nat.le_of_dvd h (Nat.gcd_dvd_right _ _)) hg, ?_, ?_⟩
        · rw [Nat.gcd_div (Nat.gcd_dvd_left _ _) (Nat.gcd_dvd_right _ _), Nat.div_self hg]
        · intro hh
          simp only [Bool.and_eq_true, decide_eq_true_eq] at hh
          exact Nat.div_pos (Nat.le_of_dvd hh.2 (Nat.gcd_dvd_left _ _)) hg
      exact k.ok
    · unfold ratio; rw [if_neg (by omega), if_pos h1]; rfl
theorem madeq_okq {a b res : Rq} (ka : okq a = true) (kb : okq b = true) (hr : okq res = true) : okq (madeq a b res).1 = true := by
  unfold madeq
  rw [ka, kb]
  show okq (if leastq a.f b.f = 0 then res else fq (leastq a.f b.f)) = true
  split
  · exact hr
  · rename_i h
    apply okq_fault
    have h1 := okq_f ka
    have h2 := okq_f kb
    unfold leastq at h ⊢
    split at h <;> rename_i h3
    · rw [if_pos h3]; omega
    · rw [if_neg h3]; omega
theorem tameq_okq (f : Int) (n : Bool) (xs ys : List Nat) (most : Nat) : okq (tameq f n xs ys most) = true := by
  unfold tameq
  split
  · rename_i h; exact okq_fault h
  · exact ratio_okq _ _ _
theorem ratio_times {q : Rq} {p d z : Nat} (k : IsNum q p d) (hz : 0 < z) : ratio q.neg (p * z) (d * z) = q := by
  have hg : Nat.gcd (p * z) (d * z) = z := by rw [Nat.gcd_mul_right, k.gcd, Nat.one_mul]
  have hd : 0 < d * z := Nat.mul_pos k.pos hz
  unfold ratio
  rw [if_neg (by omega), hg, Nat.mul_div_cancel _ hz, Nat.mul_div_cancel _ hz, isLong_false.2 k.la, isLong_false.2 k.lb]
  have hn : (q.neg && decide (0 < p * z)) = q.neg := by
    cases h : q.neg
    · rfl
    · rw [decide_eq_true (Nat.mul_pos (k.neg h) hz)]; rfl
  rw [hn]
  cases q with
  | mk f n x y =>
    have h1 := k.f
    have h2 := k.num
    have h3 := k.den
    dsimp only at h1 h2 h3
    rw [h1, h2, h3]
    rfl
end Go.Proofs.YtcbaipnphepbeaaGreatDoor

namespace Go.Proofs.YtcbaipnphepbeaaGreatDoor
open Go.RowKit

/-- A whole number with a sign. -/
def sgn (n : Bool) (a : Nat) : Int := if n = true then -(a : Int) else (a : Int)
theorem sgn_zero (n : Bool) : sgn n 0 = 0 := by cases n <;> rfl
theorem sgn_abs (n : Bool) (a : Nat) : (sgn n a).natAbs = a := by cases n <;> simp [sgn]
theorem sgn_neg {n : Bool} {a : Nat} : (n && decide (0 < a)) = decide (sgn n a < 0) := by
  cases n
  · simp [sgn]
  · simp only [sgn, if_true, Bool.true_and]
    by_cases h : 0 < a
    · rw [decide_eq_true h, decide_eq_true (by omega)]
    · rw [decide_eq_false h, decide_eq_false (by omega)]
theorem sgn_ssum {n1 n2 s : Bool} {a b m : Nat} (h : ssum n1 a n2 b = (s, m)) : sgn s m = sgn n1 a + sgn n2 b := by
  unfold ssum at h
  split at h
  · rename_i e
    injection h with e1 e2
    subst e e1 e2
    cases n1 <;> simp [sgn] <;> omega
  · split at h
    · injection h with e1 e2
      subst e1 e2
      cases n1 <;> cases n2 <;> simp_all [sgn] <;> omega
    · injection h with e1 e2
      subst e1 e2
      cases n1 <;> cases n2 <;> simp_all [sgn] <;> omega
theorem sgn_mul (n1 n2 : Bool) (a b : Nat) : sgn (n1 != n2) (a * b) = sgn n1 a * sgn n2 b := by
  cases n1 <;> cases n2 <;> simp [sgn, Int.neg_mul, Int.mul_neg]
theorem sgn_mul_nat (n : Bool) (a b : Nat) : sgn n (a * b) = sgn n a * (b : Int) := by
  cases n <;> simp [sgn, Int.neg_mul]
/-- Lowest terms are the number's own. -/
theorem lowest {a b a' b' : Nat} (hb : 0 < b) (hb' : 0 < b') (h : a * b' = a' * b) : a / Nat.gcd a b = a' / Nat.gcd a' b' ∧ b / Nat.gcd a b = b' / Nat.gcd a' b' := by
  have hg : 0 < Nat.gcd a b := Nat.gcd_pos_of_pos_right _ hb
  have hg' : 0 < Nat.gcd a' b' := Nat.gcd_pos_of_pos_right _ hb'
  obtain ⟨g, hgg⟩ : ∃ g, Nat.gcd a b = g := ⟨_, rfl⟩
  obtain ⟨g', hgg'⟩ : ∃ g, Nat.gcd a' b' = g := ⟨_, rfl⟩
  obtain ⟨x, hx⟩ := Nat.gcd_dvd_left a b
  obtain ⟨y, hy⟩ := Nat.gcd_dvd_right a b
  obtain ⟨x', hx'⟩ := Nat.gcd_dvd_left a' b'
  obtain ⟨y', hy'⟩ := Nat.gcd_dvd_right a' b'
  have hc : Nat.Coprime x y := by
    have := Nat.gcd_div (Nat.gcd_dvd_left a b) (Nat.gcd_dvd_right a b)
    rw [Nat.div_self hg] at this
    have e1 : a / Nat.gcd a b = x := Nat.div_eq_of_eq_mul_right hg hx
    have e2 : b / Nat.gcd a b = y := Nat.div_eq_of_eq_mul_right hg hy
    rw [e1, e2] at this
    exact this
  have hc' : Nat.Coprime x' y' := by
    have := Nat.gcd_div (Nat.gcd_dvd_left a' b') (Nat.gcd_dvd_right a' b')
    rw [Nat.div_self hg'] at this
    have e1 : a' / Nat.gcd a' b' = x' := Nat.div_eq_of_eq_mul_right hg' hx'
    have e2 : b' / Nat.gcd a' b' = y' := Nat.div_eq_of_eq_mul_right hg' hy'
    rw [e1, e2] at this
    exact this
  rw [Nat.div_eq_of_eq_mul_right hg hx, Nat.div_eq_of_eq_mul_right hg hy, Nat.div_eq_of_eq_mul_right hg' hx', Nat.div_eq_of_eq_mul_right hg' hy']
  rw [hgg] at hx hy hg
  rw [hgg'] at hx' hy' hg'
  have hxy : x * y' = x' * y := by
    have : (g * g') * (x * y') = (g * g') * (x' * y) := by
      rw [hx, hy, hx', hy'] at h
      calc (g * g') * (x * y') = g * x * (g' * y') := by simp only [Nat.mul_left_comm, Nat.mul_comm]
        _ = g' * x' * (g * y) := h
        _ = (g * g') * (x' * y) := by simp only [Nat.mul_left_comm, Nat.mul_comm]
    exact Nat.eq_of_mul_eq_mul_left (Nat.mul_pos hg hg') this
  have hy0 : 0 < y := by
    rcases Nat.eq_zero_or_pos y with h0 | h0
    · rw [h0, Nat.mul_zero] at hy; omega
    · exact h0
  have d1 : y ∣ y' := hc.symm.dvd_of_dvd_mul_left (by rw [hxy]; exact Nat.dvd_mul_left _ _)
  have d2 : y' ∣ y := hc'.symm.dvd_of_dvd_mul_left (by rw [← hxy]; exact Nat.dvd_mul_left _ _)
  have e : y = y' := Nat.dvd_antisymm d1 d2
  subst e
  exact ⟨Nat.eq_of_mul_eq_mul_right hy0 hxy, rfl⟩
/-- Two quotients with the same cross products are the same number. -/
theorem ratio_congr {n n' : Bool} {a b a' b' : Nat} (hb : 0 < b) (hb' : 0 < b') (h : sgn n a * (b' : Int) = sgn n' a' * (b : Int)) : ratio n a b = ratio n' a' b' := by
  have h1 : a * b' = a' * b := by
    have := congrArg Int.natAbs h
    rwa [Int.natAbs_mul, Int.natAbs_mul, sgn_abs, sgn_abs, Int.natAbs_natCast, Int.natAbs_natCast] at this
  obtain ⟨e1, e2⟩ := lowest hb hb' h1
  have hn : (n && decide (0 < a)) = (n' && decide (0 < a')) := by
    rw [sgn_neg, sgn_neg]
    have hbz : (0 : Int) < (b : Int) := by omega
    have hbz' : (0 : Int) < (b' : Int) := by omega
    by_cases hs : sgn n a < 0
    · have : sgn n a * (b' : Int) < 0 := Int.mul_neg_of_neg_of_pos hs hbz'
      have hs' : sgn n' a' < 0 := by
        rcases Int.lt_or_le (sgn n' a') 0 with h3 | h3
        · exact h3
        · have := Int.mul_nonneg h3 (Int.le_of_lt hbz); omega
      rw [decide_eq_true hs, decide_eq_true hs']
    · have : 0 ≤ sgn n a * (b' : Int) := Int.mul_nonneg (by omega) (Int.le_of_lt hbz')
      have hs' : ¬ sgn n' a' < 0 := by
        intro h3
        have := Int.mul_neg_of_neg_of_pos h3 hbz; omega
      rw [decide_eq_false hs, decide_eq_false hs']
  unfold ratio
  rw [if_neg (show ¬ b = 0 by omega), if_neg (show ¬ b' = 0 by omega), e1, e2, hn]
end Go.Proofs.YtcbaipnphepbeaaGreatDoor

namespace Go.Proofs.YtcbaipnphepbeaaGreatDoor
open Go.RowKit

theorem leastq_self' (a : Int) : leastq a a = a := by unfold leastq; split <;> simp_all
/-- A bit, or a fault. -/
def rbit (l : Int) (is : Bool) : Int × Bool := if l = 0 then (0, is) else (l, false)
/-- The result of a function of two bits that asks for valid ones. -/
def bitq (fa fb : Int) (oa ob is : Bool) : (Int × Bool) × Int := if okb fa oa && okb fb ob then (rbit (leastq fa fb) is, 0) else ((0, false), 5)
theorem isbit_b {w : World} {f : Int} {on b : Bool} (hb : okb f on = b) :
    Calls Tryz.prog 64 #[.agg #[.int .i64 f, .bool on]] w fun e w' => e = .returned (.bool b) ∧ Ext w w' := by subst hb; exact isbit_calls




/-- A box of two cells, and a result of two. -/
abbrev Keep2R (w : World) (x0 x1 : Value) (w' : World) : Prop :=
  Aside (Ext w w') ∧ (w'.cell? ⟨w.heap.size, 0, none⟩ = some x0 ∧ w'.cell? ⟨w.heap.size, 1, none⟩ = some x1) ∧ (Fits w' ⟨w.heap.size + 1, 0, none⟩ ∧ Fits w' ⟨w.heap.size + 1, 1, none⟩)
theorem Keep2R.ext {w w1 w2 : World} {x0 x1 : Value} (e : Ext w1 w2) (h : Keep2R w x0 x1 w1) : Keep2R w x0 x1 w2 :=
  ⟨⟨h.1.out.trans e⟩, ⟨e.cell h.2.1.1, e.cell h.2.1.2⟩, ⟨h.2.2.1.ext e, h.2.2.2.ext e⟩⟩
theorem Keep2R.init (w : World) (x0 x1 z0 z1 : Value) (t t' : TypeId) : Keep2R w x0 x1 ((w.alloc (.cells #[x0, x1] t)).alloc (.cells #[z0, z1] t')) :=
  ⟨⟨((Ext.refl w).alloc _).alloc _⟩, ⟨cell_old (cell_new rfl rfl), cell_old (cell_new rfl rfl)⟩, ⟨fits_new (v := z0) (by simp) rfl, fits_new (v := z1) (by simp) rfl⟩⟩

theorem risbit_calls {w : World} {f : Int} {on b : Bool} (hb : okb f on = b) :
    Calls Tryz.prog 57 #[.agg #[.int .i64 f, .bool on]] w fun e w' => e = .returned (.bool b) ∧ Ext w w' := by
  subst hb
  unfold okb
  cases h0 : (f == 0)
  · cases h4 : (f == 4)
    · cases h11 : (f == 11)
      · go_enter Tryz.func57, Tryz.ntmps57
        go_wp2
        go_ret
        exact ⟨by simp, (Ext.refl w).alloc _⟩
      · go_enter Tryz.func57, Tryz.ntmps57
        go_wp2
        go_ret
        exact ⟨by simp, (Ext.refl w).alloc _⟩
    · go_enter Tryz.func57, Tryz.ntmps57
      go_wp2
      go_ret
      exact ⟨by simp, (Ext.refl w).alloc _⟩
  · go_enter Tryz.func57, Tryz.ntmps57
    go_wp2
    go_ret
    exact ⟨by simp, (Ext.refl w).alloc _⟩
end Go.Proofs.YtcbaipnphepbeaaGreatDoor

namespace Go.Proofs.YtcbaipnphepbeaaGreatDoor
open Go.RowKit

/-- The result of a question about two Rats that asks for valid ones. -/
def askq (a b : Rq) (is : Bool) : (Int × Bool) × Int := if okq a && okq b then (rbit (leastq a.f b.f) is, 0) else ((0, false), 5)

/-- Two boxes of four cells, and a result of two. -/
abbrev KeepK (w : World) (x0 x1 x2 x3 y0 y1 y2 y3 : Value) (w' : World) : Prop :=
  Aside (Ext w w') ∧ (w'.cell? ⟨w.heap.size, 0, none⟩ = some x0 ∧ w'.cell? ⟨w.heap.size, 1, none⟩ = some x1 ∧ w'.cell? ⟨w.heap.size, 2, none⟩ = some x2 ∧ w'.cell? ⟨w.heap.size, 3, none⟩ = some x3) ∧
    (w'.cell? ⟨w.heap.size + 1, 0, none⟩ = some y0 ∧ w'.cell? ⟨w.heap.size + 1, 1, none⟩ = some y1 ∧ w'.cell? ⟨w.heap.size + 1, 2, none⟩ = some y2 ∧ w'.cell? ⟨w.heap.size + 1, 3, none⟩ = some y3) ∧
    (Fits w' ⟨w.heap.size + 2, 0, none⟩ ∧ Fits w' ⟨w.heap.size + 2, 1, none⟩)
theorem KeepK.ext {w w1 w2 : World} {x0 x1 x2 x3 y0 y1 y2 y3 : Value} (e : Ext w1 w2) (h : KeepK w x0 x1 x2 x3 y0 y1 y2 y3 w1) : KeepK w x0 x1 x2 x3 y0 y1 y2 y3 w2 :=
  ⟨⟨h.1.out.trans e⟩, ⟨e.cell h.2.1.1, e.cell h.2.1.2.1, e.cell h.2.1.2.2.1, e.cell h.2.1.2.2.2⟩, ⟨e.cell h.2.2.1.1, e.cell h.2.2.1.2.1, e.cell h.2.2.1.2.2.1, e.cell h.2.2.1.2.2.2⟩, ⟨h.2.2.2.1.ext e, h.2.2.2.2.ext e⟩⟩
theorem KeepK.init (w : World) (x0 x1 x2 x3 y0 y1 y2 y3 z0 z1 : Value) (t t' t'' : TypeId) : KeepK w x0 x1 x2 x3 y0 y1 y2 y3 (((w.alloc (.cells #[x0, x1, x2, x3] t)).alloc (.cells #[y0, y1, y2, y3] t')).alloc (.cells #[z0, z1] t'')) :=
  ⟨⟨(((Ext.refl w).alloc _).alloc _).alloc _⟩, ⟨cell_old (cell_old (cell_new rfl rfl)), cell_old (cell_old (cell_new rfl rfl)), cell_old (cell_old (cell_new rfl rfl)), cell_old (cell_old (cell_new rfl rfl))⟩,
    ⟨cell_old (cell_new (by simp) rfl), cell_old (cell_new (by simp) rfl), cell_old (cell_new (by simp) rfl), cell_old (cell_new (by simp) rfl)⟩,
    ⟨fits_new (v := z0) (by simp) rfl, fits_new (v := z1) (by simp) rfl⟩⟩


/-- What is known of a callee that answers a question about two numbers. -/
structure AskBy (F : FuncId) (a b : Rq) (is : Bool) : Prop where
  runs : ∀ args w, Sem.run Tryz.prog (callFunc F args) w = .ok (.enter F args) w
  calls : ∀ w u v, RR w u a → RR w v b → okq a = true → okq b = true → leastq a.f b.f = 0 → Calls Tryz.prog F #[u, v] w fun e w' => e = .returned (.bool is) ∧ Ext w w'

end Go.Proofs.YtcbaipnphepbeaaGreatDoor

namespace Go.Proofs.YtcbaipnphepbeaaGreatDoor
open Go.RowKit




end Go.Proofs.YtcbaipnphepbeaaGreatDoor

namespace Go.Proofs.YtcbaipnphepbeaaGreatDoor
open Go.RowKit


/-- The fields of two numbers are the same. -/
def sameq (a b : Rq) : Bool := a.neg == b.neg && decide (a.num = b.num) && decide (a.den = b.den)

set_option maxRecDepth 10000 in
set_option maxHeartbeats 1000000 in
theorem requal_calls {w : World} {u v : Value} {a b : Rq} {z : Bool} (hu : RR w u a) (hv : RR w v b) (hz : (a.f == b.f && sameq a b) = z) :
    Calls Tryz.prog 82 #[u, v] w fun e w' => e = .returned (.bool z) ∧ Ext w w' := by
  subst hz
  obtain ⟨x, y, rfl, hx, hy⟩ := hu
  obtain ⟨x', y', rfl, hx', hy'⟩ := hv
  obtain ⟨f1, n1, xs, ys⟩ := a
  obtain ⟨f2, n2, xs', ys'⟩ := b
  dsimp only at *
  have HX := Aside.mk hx
  have HY := Aside.mk hy
  have HX' := Aside.mk hx'
  have HY' := Aside.mk hy'
  obtain ⟨A, ca, rfl, _⟩ := hx
  obtain ⟨B, cb, rfl, _⟩ := hy
  obtain ⟨C, cc, rfl, _⟩ := hx'
  obtain ⟨D, cd, rfl, _⟩ := hy'
  obtain ⟨b1, hb1⟩ : ∃ z, decide (xs = xs') = z := ⟨_, rfl⟩
  obtain ⟨b2, hb2⟩ : ∃ z, decide (ys = ys') = z := ⟨_, rfl⟩
  have HB1 := Aside.mk hb1
  have HB2 := Aside.mk hb2
  generalize xs.length = lx at *
  generalize ys.length = ly at *
  generalize xs'.length = lx' at *
  generalize ys'.length = ly' at *
  have hk0 := KeepE.init w (.int .i64 f1) (.bool n1) (.slice A lx ca) (.slice B ly cb) (.int .i64 f2) (.bool n2) (.slice C lx' cc) (.slice D ly' cd) 83 83
  have hS : sameq ⟨f1, n1, xs, ys⟩ ⟨f2, n2, xs', ys'⟩ = (n1 == n2 && b1 && b2) := by simp [sameq, ← hb1, ← hb2]
  rw [hS]
  clear hS hb1 hb2
  have HK := Aside.mk hk0.1.out
  cases hf : (f1 == f2)
  · go_enter Tryz.func82, Tryz.ntmps82
    go_wp2
    go_ret
    exact ⟨rfl, HK.out⟩
  · cases hn : (n1 == n2)
    · go_enter Tryz.func82, Tryz.ntmps82
      go_wp2
      go_ret
      exact ⟨by simp, HK.out⟩
    · cases b1
      · go_enter Tryz.func82, Tryz.ntmps82
        go_wp2_with (go_at_call 123; with_reducible refine (rdigits_calls (HX.out.ext hk0.1.out) (HX'.out.ext hk0.1.out) HB1.out).mono ?_; rintro e w1 ⟨rfl, he⟩; have hk1 := KeepE.ext he hk0; clear hk0 he)
        go_ret
        exact ⟨rfl, hk1.1.out⟩
      · cases b2
        · go_enter Tryz.func82, Tryz.ntmps82
          go_wp2_with (first | (go_at_call 123; with_reducible refine (rdigits_calls (HX.out.ext hk0.1.out) (HX'.out.ext hk0.1.out) HB1.out).mono ?_; rintro e w1 ⟨rfl, he⟩; have hk1 := KeepE.ext he hk0; clear hk0 he) | (go_at_call 123; with_reducible refine (rdigits_calls (HY.out.ext hk1.1.out) (HY'.out.ext hk1.1.out) HB2.out).mono ?_; rintro e w2 ⟨rfl, he⟩; have hk2 := KeepE.ext he hk1; clear hk1 he))
          go_ret
          exact ⟨rfl, hk2.1.out⟩
        · go_enter Tryz.func82, Tryz.ntmps82
          go_wp2_with (first | (go_at_call 123; with_reducible refine (rdigits_calls (HX.out.ext hk0.1.out) (HX'.out.ext hk0.1.out) HB1.out).mono ?_; rintro e w1 ⟨rfl, he⟩; have hk1 := KeepE.ext he hk0; clear hk0 he) | (go_at_call 123; with_reducible refine (rdigits_calls (HY.out.ext hk1.1.out) (HY'.out.ext hk1.1.out) HB2.out).mono ?_; rintro e w2 ⟨rfl, he⟩; have hk2 := KeepE.ext he hk1; clear hk1 he))
          go_ret
          exact ⟨rfl, hk2.1.out⟩
end Go.Proofs.YtcbaipnphepbeaaGreatDoor

namespace Go.Proofs.YtcbaipnphepbeaaGreatDoor
open Go.RowKit

/-- The value of a Rat that is no fault. -/
def rv (q : Rq) : Rat := mkRat (sgn q.neg (val q.num)) (val q.den)
theorem rv_num {q : Rq} {p d : Nat} (k : IsNum q p d) : rv q = mkRat (sgn q.neg p) d := by
  unfold rv; rw [k.num, k.den, val_dig, val_dig]
theorem ratio_own {q : Rq} {p d : Nat} (k : IsNum q p d) : ratio q.neg p d = q := by
  have := ratio_times k (z := 1) (by decide)
  rwa [Nat.mul_one, Nat.mul_one] at this
theorem rv_inj {q q' : Rq} {p d p' d' : Nat} (k : IsNum q p d) (k' : IsNum q' p' d') (h : rv q = rv q') : q = q' := by
  rw [rv_num k, rv_num k'] at h
  have hd := k.pos
  have hd' := k'.pos
  have h2 := (Rat.mkRat_eq_iff (by omega) (by omega)).1 h
  rw [← ratio_own k, ← ratio_own k']
  exact ratio_congr hd hd' h2
theorem rv_ratio {n : Bool} {a b x y : Nat} (hb : 0 < b) (k : IsNum (ratio n a b) x y) : rv (ratio n a b) = mkRat (sgn n a) b := by
  have hl : (isLong (a / Nat.gcd a b) || isLong (b / Nat.gcd a b)) = false := by
    cases h : (isLong (a / Nat.gcd a b) || isLong (b / Nat.gcd a b))
    · rfl
    · have h1 := k.f
      unfold ratio at h1
      rw [if_neg (by omega), if_pos h] at h1
      exact absurd h1 (by decide)
  have e : ratio n a b = ⟨0, n && decide (0 < a), dig (a / Nat.gcd a b), dig (b / Nat.gcd a b)⟩ := by
    unfold ratio
    rw [if_neg (by omega), hl]; rfl
  have hg : 0 < Nat.gcd a b := Nat.gcd_pos_of_pos_right _ hb
  obtain ⟨g, hgg⟩ : ∃ g, Nat.gcd a b = g := ⟨_, rfl⟩
  obtain ⟨x, hx⟩ := Nat.gcd_dvd_left a b
  obtain ⟨y, hy⟩ := Nat.gcd_dvd_right a b
  have e1 : a / Nat.gcd a b = x := Nat.div_eq_of_eq_mul_right hg hx
  have e2 : b / Nat.gcd a b = y := Nat.div_eq_of_eq_mul_right hg hy
  rw [e, e1, e2]
  unfold rv
  dsimp only
  rw [val_dig, val_dig]
  rw [hgg] at hx hy hg
  have hy0 : 0 < y := by
    rcases Nat.eq_zero_or_pos y with h | h
    · rw [h, Nat.mul_zero] at hy; omega
    · exact h
  have hs : sgn (n && decide (0 < a)) x = sgn n x := by
    rcases Nat.eq_zero_or_pos a with h | h
    · have : x = 0 := by
        rcases Nat.eq_zero_or_pos x with h2 | h2
        · exact h2
        · have := Nat.mul_pos hg h2; omega
      rw [this, sgn_zero, sgn_zero]
    · rw [decide_eq_true h, Bool.and_true]
  rw [hs]
  refine (Rat.mkRat_eq_iff (by omega) (by omega)).2 ?_
  rw [hy, hx, Nat.mul_comm g x, sgn_mul_nat]
  simp only [Int.natCast_mul, Int.mul_assoc]
theorem rv_sum {n1 n2 : Bool} {a b c d x y : Nat} (hb : 0 < b) (hd : 0 < d) (k : IsNum (sumq n1 a b n2 c d) x y) : rv (sumq n1 a b n2 c d) = mkRat (sgn n1 a) b + mkRat (sgn n2 c) d := by
  unfold sumq at k ⊢
  obtain ⟨⟨s, m⟩, hs⟩ : ∃ q, ssum n1 (a * d) n2 (c * b) = q := ⟨_, rfl⟩
  rw [hs] at k ⊢
  rw [rv_ratio (Nat.mul_pos hb hd) k, Rat.mkRat_add_mkRat _ _ (by omega) (by omega), sgn_ssum hs, sgn_mul_nat, sgn_mul_nat]
theorem rv_mul {n1 n2 : Bool} {a b c d x y : Nat} (hb : 0 < b) (hd : 0 < d) (k : IsNum (ratio (n1 != n2) (a * c) (b * d)) x y) : rv (ratio (n1 != n2) (a * c) (b * d)) = mkRat (sgn n1 a) b * mkRat (sgn n2 c) d := by
  rw [rv_ratio (Nat.mul_pos hb hd) k, Rat.mkRat_mul_mkRat, sgn_mul]
theorem rv_opp {q : Rq} {p d : Nat} (k : IsNum q p d) : rv (oppq q) = -rv q := by
  have hn := oppq_neg k
  have e1 : (oppq q).num = q.num := rfl
  have e2 : (oppq q).den = q.den := rfl
  unfold rv
  rw [Rat.neg_mkRat, e1, e2, hn, k.num, k.den, val_dig, val_dig]
  congr 1
  rcases Nat.eq_zero_or_pos p with h | h
  · subst h; rw [sgn_zero, sgn_zero]; rfl
  · rw [decide_eq_true h, Bool.and_true]
    cases q.neg <;> simp [sgn]
theorem lessq_sgn {n1 n2 : Bool} {P R : Nat} (h1 : n1 = true → 0 < P) (h2 : n2 = true → 0 < R) : lessq n1 P n2 R = decide (sgn n1 P < sgn n2 R) := by
  unfold lessq sgn
  cases n1 <;> cases n2
  · simp
  · simp
  · have := h1 rfl
    simp; omega
  · simp
theorem rv_lt {q q' : Rq} {p d p' d' : Nat} (k : IsNum q p d) (k' : IsNum q' p' d') : lessq q.neg (p * d') q'.neg (p' * d) = decide (rv q < rv q') := by
  have hd := k.pos
  have hd' := k'.pos
  rw [lessq_sgn (fun h => Nat.mul_pos (k.neg h) hd') (fun h => Nat.mul_pos (k'.neg h) hd), sgn_mul_nat, sgn_mul_nat]
  have e1 : (rv q).num = sgn q.neg p ∧ (rv q).den = d := by
    rw [rv_num k, Rat.num_mkRat, Rat.den_mkRat, sgn_abs, Nat.gcd_comm, k.gcd, if_neg (by omega), if_neg (by omega)]
    simp
  have e2 : (rv q').num = sgn q'.neg p' ∧ (rv q').den = d' := by
    rw [rv_num k', Rat.num_mkRat, Rat.den_mkRat, sgn_abs, Nat.gcd_comm, k'.gcd, if_neg (by omega), if_neg (by omega)]
    simp
  have := Rat.lt_iff (rv q) (rv q')
  rw [e1.1, e1.2, e2.1, e2.2] at this
  by_cases h : rv q < rv q'
  · rw [decide_eq_true h, decide_eq_true (this.1 h)]
  · rw [decide_eq_false h, decide_eq_false (fun h2 => h (this.2 h2))]
theorem rv_same {q q' : Rq} {p d p' d' : Nat} (k : IsNum q p d) (k' : IsNum q' p' d') : sameq q q' = decide (rv q = rv q') := by
  by_cases h : rv q = rv q'
  · have := rv_inj k k' h
    subst this
    rw [decide_eq_true h]
    simp [sameq]
  · rw [decide_eq_false h]
    cases hs : sameq q q'
    · rfl
    · exfalso
      apply h
      simp only [sameq, Bool.and_eq_true, decide_eq_true_eq, beq_iff_eq] at hs
      unfold rv
      rw [hs.1.1, hs.1.2, hs.2]
end Go.Proofs.YtcbaipnphepbeaaGreatDoor
