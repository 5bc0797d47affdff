/- Contracts of package frac: opposite. Contracts of package frac: Sub, Neg and their closures. Contracts of package fluxionref02: good, IsRat, Least. Contracts of package fluxionref01: Mul, Add. Contracts of package fluxionref02: Mul, Div. Contracts of package fluxionref01: Add. Contracts of package fluxionref02: signed, Add. Contracts of package fluxionref02: Neg, Sub. Contracts: Floor of package frac and of package fluxionref02. Contracts of package frac: the closures of Less and Same. Contracts of fluxionlaw02: natural, tame, number, good. The plain law of Floor: what is whole, at most the number, and next to it. The plain law of valid results: each result is valid; a number's parts, both times a number, make the number. The plain law of rational numbers: `ratio` is the number of its cross products. Contracts about bits: joined, Not, And, Or of package frac; IsBit, Not, And, Or of package fluxionref02. Contracts of package frac: asked, Same; the closure of Same. Contracts about bits of package fluxionref02: Not, And, Or. Contracts: Same of package frac and of package fluxionref02; Equal of package fluxionref02, of any two Rats. The plain law of rational numbers: a Rat's value, of sums, products and opposites; numbers of the same value are the same. -/
import Derived.Test.YtcbaipnphepbeaaGreatDoorNe
import Derived.Test.YtcbaipnphepbeaaGreatDoorNd
import Derived.Deep.RegionHeld
import Derived.Test.YtcbaipnphepbeaaGreatDoorNg
namespace Go.Proofs.YtcbaipnphepbeaaGreatDoor
open Go.RowKit

/-- A box of four cells, and a result of four. -/
abbrev KeepO (w : World) (x0 x1 x2 x3 : Value) (w' : World) : Prop :=
  Aside (Ext w w') ∧ (w'.cell? ⟨w.heap.size, 0, none⟩ = some x0 ∧ w'.cell? ⟨w.heap.size, 1, none⟩ = some x1 ∧ w'.cell? ⟨w.heap.size, 2, none⟩ = some x2 ∧ w'.cell? ⟨w.heap.size, 3, none⟩ = some x3) ∧
    (Fits w' ⟨w.heap.size + 1, 0, none⟩ ∧ Fits w' ⟨w.heap.size + 1, 1, none⟩ ∧ Fits w' ⟨w.heap.size + 1, 2, none⟩ ∧ Fits w' ⟨w.heap.size + 1, 3, none⟩)
theorem KeepO.ext {w w1 w2 : World} {x0 x1 x2 x3 : Value} (e : Ext w1 w2) (h : KeepO w x0 x1 x2 x3 w1) : KeepO w x0 x1 x2 x3 w2 :=
  ⟨⟨h.1.out.trans e⟩, ⟨e.cell h.2.1.1, e.cell h.2.1.2.1, e.cell h.2.1.2.2.1, e.cell h.2.1.2.2.2⟩, ⟨h.2.2.1.ext e, h.2.2.2.1.ext e, h.2.2.2.2.1.ext e, h.2.2.2.2.2.ext e⟩⟩
theorem KeepO.init (w : World) (x0 x1 x2 x3 z0 z1 z2 z3 : Value) (t t' : TypeId) : KeepO w x0 x1 x2 x3 ((w.alloc (.cells #[x0, x1, x2, x3] t)).alloc (.cells #[z0, z1, z2, z3] t')) :=
  ⟨⟨((Ext.refl w).alloc _).alloc _⟩, ⟨cell_old (cell_new rfl rfl), cell_old (cell_new rfl rfl), cell_old (cell_new rfl rfl), cell_old (cell_new rfl rfl)⟩,
    ⟨fits_new (v := z0) (by simp) rfl, fits_new (v := z1) (by simp) rfl, fits_new (v := z2) (by simp) rfl, fits_new (v := z3) (by simp) rfl⟩⟩
theorem KeepO.set {w w1 : World} {x0 x1 x2 x3 : Value} (h : KeepO w x0 x1 x2 x3 w1) (j : Nat) (v : Value) : KeepO w x0 x1 x2 x3 (w1.setCell ⟨w.heap.size + 1, j, none⟩ v) :=
  ⟨⟨h.1.out.set (by show w.heap.size ≤ w.heap.size + 1; omega) v⟩, ⟨cell_other h.2.1.1 (by omega), cell_other h.2.1.2.1 (by omega), cell_other h.2.1.2.2.1 (by omega), cell_other h.2.1.2.2.2 (by omega)⟩,
    ⟨h.2.2.1.set _ _, h.2.2.2.1.set _ _, h.2.2.2.2.1.set _ _, h.2.2.2.2.2.set _ _⟩⟩


end Go.Proofs.YtcbaipnphepbeaaGreatDoor

namespace Go.Proofs.YtcbaipnphepbeaaGreatDoor
open Go.RowKit

end Go.Proofs.YtcbaipnphepbeaaGreatDoor

namespace Go.Proofs.YtcbaipnphepbeaaGreatDoor
open Go.RowKit

set_option maxRecDepth 10000 in
theorem rgood_calls {w : World} {v : Value} {xs : List Nat} {b : Bool} (h : RV w v xs) (hb : (decide (natErr xs = 0) && !isLong (val xs)) = b) :
    Calls Tryz.prog 98 #[v] w fun e w' => e = .returned (.bool b) ∧ w = w' := by
  obtain ⟨A, c, rfl, hc, hd, hr⟩ := h
  have hds : Ds xs := hd.2
  rcases Nat.lt_or_ge 128 xs.length with h1 | h1
  · have HB : Aside (b = false) := ⟨by
      rw [← hb]
      by_cases hn : natErr xs = 0
      · have hx := (natErr_zero hds hn).2
        have : isLong (val xs) = true := by
          cases hh : isLong (val xs)
          · have := isLong_false.1 hh; rw [← hx] at this; omega
          · rfl
        rw [this]; simp
      · simp [hn]⟩
    rw [HB.out]
    clear hr hd hds hb
    go_enter Tryz.func98, Tryz.ntmps98
    go_wp2
    go_ret
    exact ⟨rfl, rfl⟩
  · rcases Nat.eq_zero_or_pos xs.length with h0 | h0
    · have hx : xs = [] := List.eq_nil_of_length_eq_zero h0
      subst hx
      have HB : Aside (b = true) := ⟨by rw [← hb]; rfl⟩
      rw [HB.out]
      clear hr hd hds hb h0 h1
      go_enter Tryz.func98, Tryz.ntmps98
      go_wp2
      go_ret
      exact ⟨by simp, rfl⟩
    · obtain ⟨k, hk⟩ : ∃ k, xs.length = k + 1 := ⟨xs.length - 1, by omega⟩
      obtain ⟨ad, rfl, hcell⟩ := hr.at32 k (by omega)
      obtain ⟨x, hx⟩ : ∃ x, xs.getD k 0 = x := ⟨_, rfl⟩
      rw [hx] at hcell
      have hb' : b = !(x == 0) := by
        rw [← hb]
        by_cases hz : x = 0
        · have : natErr xs = 5 := by unfold natErr; rw [if_neg (by omega), if_pos ⟨h0, by rw [hk]; simpa [hz] using hx⟩]
          rw [this, hz]; rfl
        · have hn : natErr xs = 0 := by
            unfold natErr
            rw [if_neg (by omega), if_neg]
            rintro ⟨_, h3⟩
            rw [hk, show k + 1 - 1 = k from rfl, hx] at h3
            exact hz h3
          have hxs := (natErr_zero hds hn).2
          have hl : isLong (val xs) = false := isLong_false.2 (by rw [← hxs]; exact h1)
          rw [hn, hl]; simp [hz]
      rw [hk] at h1 hc ⊢
      have h1' : k < 128 := by omega
      have hne : ((k : Int) + 1 == 0) = false := beq_eq_false_iff_ne.2 (by omega)
      by_cases hz : x = 0
      · subst hz
        have HB : Aside (b = false) := ⟨by rw [hb']; rfl⟩
        rw [HB.out]
        clear hr hd hds hb hb' hx hk h0 h1
        go_enter Tryz.func98, Tryz.ntmps98
        go_wp2
        go_ret
        exact ⟨by simp, rfl⟩
      · have HB : Aside (b = true) := ⟨by rw [hb']; simp [hz]⟩
        have hxz : ((x : Int) == 0) = false := beq_eq_false_iff_ne.2 (by omega)
        have hxz2 : ((x : Int) != 0) = true := by simp [bne, hxz]
        rw [HB.out]
        clear hr hd hds hb hb' hx hk h0 h1 hz
        go_enter Tryz.func98, Tryz.ntmps98
        go_wp2
        go_ret
        exact ⟨by simp, rfl⟩


set_option maxRecDepth 10000 in
set_option maxHeartbeats 2000000 in
theorem risrat_calls {w : World} {v : Value} {q : Rq} {b : Bool} (h : RR w v q) (hb : okq q = b) :
    Calls Tryz.prog 51 #[v] w fun e w' => e = .returned (.bool b) ∧ Ext w w' := by
  obtain ⟨x, y, rfl, hx, hy⟩ := h
  obtain ⟨f, neg, xs, ys⟩ := q
  have HX := Aside.mk hx
  have HY := Aside.mk hy
  obtain ⟨A, c, rfl, _, hdx, _⟩ := hx
  obtain ⟨B, d, rfl, _, hdy, _⟩ := hy
  dsimp only at *
  have hk0 := KeepB.init w (.int .i64 f) (.bool neg) (.slice A xs.length c) (.slice B ys.length d) 83
  by_cases hf : f = 0
  · subst hf
    obtain ⟨b1, hb1⟩ : ∃ z, (decide (natErr xs = 0) && !isLong (val xs)) = z := ⟨_, rfl⟩
    obtain ⟨b2, hb2⟩ : ∃ z, (decide (natErr ys = 0) && !isLong (val ys)) = z := ⟨_, rfl⟩
    obtain ⟨g, hg⟩ : ∃ g, Nat.gcd (val xs) (val ys) = g := ⟨_, rfl⟩
    have hS : b = (b1 && b2 && !(decide (ys.length = 0)) && !(neg && decide (xs.length = 0)) && (g == 1)) := by
      rw [← hb, ← hb1, ← hb2, ← hg]
      simp only [okq, if_true]
      cases decide (natErr xs = 0) <;> cases decide (natErr ys = 0) <;> cases isLong (val xs) <;> cases isLong (val ys) <;> simp
    have HB1 := Aside.mk hb1
    have HB2 := Aside.mk hb2
    have HG := Aside.mk hg
    have HDX := Aside.mk hdx.2
    have HDY := Aside.mk hdy.2
    obtain ⟨nx, hnx⟩ : ∃ n, xs.length = n := ⟨_, rfl⟩
    obtain ⟨ny, hny⟩ : ∃ n, ys.length = n := ⟨_, rfl⟩
    have HNX := Aside.mk hnx
    have HNY := Aside.mk hny
    rw [hnx] at HX hk0 ⊢
    rw [hny] at HY hk0 ⊢
    rw [hnx, hny] at hS
    have HK := Aside.mk hk0.1.out
    clear hb hb1 hb2 hg hdx hdy hnx hny
    cases b1
    · have HBF : Aside (b = false) := ⟨by rw [hS]; rfl⟩
      rw [HBF.out]
      clear hS
      go_enter Tryz.func51, Tryz.ntmps51
      go_wp2_with (go_at_call 98; with_reducible refine (rgood_calls (HX.out.ext hk0.1.out) HB1.out).mono ?_; rintro e w' ⟨rfl, rfl⟩)
      go_ret
      exact ⟨rfl, HK.out⟩
    cases b2
    · have HBF : Aside (b = false) := ⟨by rw [hS]; rfl⟩
      rw [HBF.out]
      clear hS
      go_enter Tryz.func51, Tryz.ntmps51
      go_wp2_with (first | (go_at_call 98; with_reducible refine (rgood_calls (HX.out.ext hk0.1.out) HB1.out).mono ?_; rintro e w' ⟨rfl, rfl⟩) | (go_at_call 98; with_reducible refine (rgood_calls (HY.out.ext hk0.1.out) HB2.out).mono ?_; rintro e w' ⟨rfl, rfl⟩))
      go_ret
      exact ⟨rfl, HK.out⟩
    rcases Nat.eq_zero_or_pos ny with rfl | hy0
    · have HBF : Aside (b = false) := ⟨by rw [hS]; rfl⟩
      rw [HBF.out]
      clear hS
      go_enter Tryz.func51, Tryz.ntmps51
      go_wp2_with (first | (go_at_call 98; with_reducible refine (rgood_calls (HX.out.ext hk0.1.out) HB1.out).mono ?_; rintro e w' ⟨rfl, rfl⟩) | (go_at_call 98; with_reducible refine (rgood_calls (HY.out.ext hk0.1.out) HB2.out).mono ?_; rintro e w' ⟨rfl, rfl⟩))
      go_ret
      exact ⟨rfl, HK.out⟩
    have hy1 : ((ny : Int) == 0) = false := beq_eq_false_iff_ne.2 (by omega)
    by_cases hbad : neg = true ∧ nx = 0
    · obtain ⟨rfl, rfl⟩ := hbad
      have HBF : Aside (b = false) := ⟨by rw [hS]; simp⟩
      rw [HBF.out]
      clear hS
      go_enter Tryz.func51, Tryz.ntmps51
      go_wp2_with (first | (go_at_call 98; with_reducible refine (rgood_calls (HX.out.ext hk0.1.out) HB1.out).mono ?_; rintro e w' ⟨rfl, rfl⟩) | (go_at_call 98; with_reducible refine (rgood_calls (HY.out.ext hk0.1.out) HB2.out).mono ?_; rintro e w' ⟨rfl, rfl⟩))
      go_ret
      exact ⟨rfl, HK.out⟩
    have hS2 : b = (g == 1) := by
      rw [hS, show decide (ny = 0) = false from by simp; omega]
      have : (neg && decide (nx = 0)) = false := by
        cases neg
        · rfl
        · simp at hbad; simp [hbad]
      rw [this]; simp
    have hneg : neg = true → ((nx : Int) == 0) = false := fun h => beq_eq_false_iff_ne.2 (by
      intro h2; exact hbad ⟨h, by omega⟩)
    have hg1 : ∀ z : Bool, z && true = true → z = true := fun z h => by simpa using h
    have h1 := HB1.out
    have h2 := HB2.out
    simp only [Bool.and_eq_true, decide_eq_true_eq, Bool.not_eq_true'] at h1 h2
    have HEX := Aside.mk (natErr_zero HDX.out h1.1)
    have HEY := Aside.mk (natErr_zero HDY.out h2.1)
    have HXD : Aside (RV w (.slice A nx c) (dig (val xs))) := ⟨by rw [← HEX.out.2]; exact HX.out⟩
    have HYD : Aside (RV w (.slice B ny d) (dig (val ys))) := ⟨by rw [← HEY.out.2]; exact HY.out⟩
    have HLB : Aside ((dig (val ys)).length < 1073741824) := ⟨by rw [← HEY.out.2]; have := HEY.out.1; omega⟩
    have hvy : 0 < val ys := by
      rcases Nat.eq_zero_or_pos (val ys) with h | h
      · have := HEY.out.2; rw [h, dig_zero] at this
        have := HNY.out; simp [‹ys = []›] at this; omega
      · exact h
    have HGP : Aside (0 < g) := ⟨by rw [← HG.out]; exact Nat.gcd_pos_of_pos_right _ hvy⟩
    clear hS hbad hg1 h1 h2 hvy
    rcases Nat.lt_or_ge g 4294967296 with hgB | hgB
    · have hdl : (dig g).length = 1 := by rw [dig_pos (by have := HGP.out; omega), Nat.div_eq_of_lt hgB, dig_zero]; rfl
      have HN0 : Aside (∀ n, (dig g).length = n + 1 → n = 0) := ⟨fun n h => by omega⟩
      by_cases hg1 : g = 1
      · subst hg1
        have HX1 : Aside (∀ x, x = 1 % 4294967296 → x = 1) := ⟨fun x h => by rw [h]⟩
        have HBT : Aside (b = true) := ⟨by rw [hS2]; rfl⟩
        rw [HBT.out]
        clear hS2 hdl hgB
        cases neg
        · go_enter Tryz.func51, Tryz.ntmps51
          go_wp2_with (first | (go_at_call 98; with_reducible refine (rgood_calls (HX.out.ext hk0.1.out) HB1.out).mono ?_; rintro e w' ⟨rfl, rfl⟩) | (go_at_call 98; with_reducible refine (rgood_calls (HY.out.ext hk0.1.out) HB2.out).mono ?_; rintro e w' ⟨rfl, rfl⟩) | ((go_at_call 99; with_reducible refine (rgcd_calls (HXD.out.ext hk0.1.out) (HYD.out.ext hk0.1.out) HLB.out HG.out).mono ?_; rintro e w5 ⟨r, rfl, hr, he⟩; have hk5 := KeepB.ext he hk0; obtain ⟨ad, n, c5, x, rfl, hcell, hx, hcn, hdl⟩ := hr.rv.first2 HGP.out; have HXX := Aside.mk hx; have HDL := Aside.mk hdl; clear hk0 hr he hx hdl); obtain rfl : n = 0 := HN0.out n HDL.out; obtain rfl : x = 1 := HX1.out x HXX.out))
          go_ret
          exact ⟨by simp, hk5.1.out⟩
        · have hneg2 := hneg rfl
          go_enter Tryz.func51, Tryz.ntmps51
          go_wp2_with (first | (go_at_call 98; with_reducible refine (rgood_calls (HX.out.ext hk0.1.out) HB1.out).mono ?_; rintro e w' ⟨rfl, rfl⟩) | (go_at_call 98; with_reducible refine (rgood_calls (HY.out.ext hk0.1.out) HB2.out).mono ?_; rintro e w' ⟨rfl, rfl⟩) | ((go_at_call 99; with_reducible refine (rgcd_calls (HXD.out.ext hk0.1.out) (HYD.out.ext hk0.1.out) HLB.out HG.out).mono ?_; rintro e w5 ⟨r, rfl, hr, he⟩; have hk5 := KeepB.ext he hk0; obtain ⟨ad, n, c5, x, rfl, hcell, hx, hcn, hdl⟩ := hr.rv.first2 HGP.out; have HXX := Aside.mk hx; have HDL := Aside.mk hdl; clear hk0 hr he hx hdl); obtain rfl : n = 0 := HN0.out n HDL.out; obtain rfl : x = 1 := HX1.out x HXX.out))
          go_ret
          exact ⟨by simp, hk5.1.out⟩
      · have HX1 : Aside (∀ x, x = g % 4294967296 → ((x : Int) == 1) = false) := ⟨fun x h => by rw [Nat.mod_eq_of_lt hgB] at h; exact beq_eq_false_iff_ne.2 (by omega)⟩
        have HBT : Aside (b = false) := ⟨by rw [hS2]; simp [hg1]⟩
        rw [HBT.out]
        clear hS2 hdl hgB hg1
        cases neg
        · go_enter Tryz.func51, Tryz.ntmps51
          go_wp2_with (first | (go_at_call 98; with_reducible refine (rgood_calls (HX.out.ext hk0.1.out) HB1.out).mono ?_; rintro e w' ⟨rfl, rfl⟩) | (go_at_call 98; with_reducible refine (rgood_calls (HY.out.ext hk0.1.out) HB2.out).mono ?_; rintro e w' ⟨rfl, rfl⟩) | ((go_at_call 99; with_reducible refine (rgcd_calls (HXD.out.ext hk0.1.out) (HYD.out.ext hk0.1.out) HLB.out HG.out).mono ?_; rintro e w5 ⟨r, rfl, hr, he⟩; have hk5 := KeepB.ext he hk0; obtain ⟨ad, n, c5, x, rfl, hcell, hx, hcn, hdl⟩ := hr.rv.first2 HGP.out; have HXX := Aside.mk hx; have HDL := Aside.mk hdl; clear hk0 hr he hx hdl); obtain rfl : n = 0 := HN0.out n HDL.out; have hx1 : ((x : Int) == 1) = false := HX1.out x HXX.out))
          go_ret
          exact ⟨by simp, hk5.1.out⟩
        · have hneg2 := hneg rfl
          go_enter Tryz.func51, Tryz.ntmps51
          go_wp2_with (first | (go_at_call 98; with_reducible refine (rgood_calls (HX.out.ext hk0.1.out) HB1.out).mono ?_; rintro e w' ⟨rfl, rfl⟩) | (go_at_call 98; with_reducible refine (rgood_calls (HY.out.ext hk0.1.out) HB2.out).mono ?_; rintro e w' ⟨rfl, rfl⟩) | ((go_at_call 99; with_reducible refine (rgcd_calls (HXD.out.ext hk0.1.out) (HYD.out.ext hk0.1.out) HLB.out HG.out).mono ?_; rintro e w5 ⟨r, rfl, hr, he⟩; have hk5 := KeepB.ext he hk0; obtain ⟨ad, n, c5, x, rfl, hcell, hx, hcn, hdl⟩ := hr.rv.first2 HGP.out; have HXX := Aside.mk hx; have HDL := Aside.mk hdl; clear hk0 hr he hx hdl); obtain rfl : n = 0 := HN0.out n HDL.out; have hx1 : ((x : Int) == 1) = false := HX1.out x HXX.out))
          go_ret
          exact ⟨by simp, hk5.1.out⟩
    · have HN0 : Aside (∀ n, (dig g).length = n + 1 → ((n : Int) + 1 == 1) = false) := ⟨fun n h => by
        have h1 := lt_of_dig_length (Nat.le_of_eq h)
        rcases Nat.eq_zero_or_pos n with rfl | h2
        · rw [Nat.zero_add, Nat.pow_one] at h1; omega
        · exact beq_eq_false_iff_ne.2 (by omega)⟩
      have HBT : Aside (b = false) := ⟨by rw [hS2]; simp; omega⟩
      rw [HBT.out]
      clear hS2 hgB
      cases neg
      · go_enter Tryz.func51, Tryz.ntmps51
        go_wp2_with (first | (go_at_call 98; with_reducible refine (rgood_calls (HX.out.ext hk0.1.out) HB1.out).mono ?_; rintro e w' ⟨rfl, rfl⟩) | (go_at_call 98; with_reducible refine (rgood_calls (HY.out.ext hk0.1.out) HB2.out).mono ?_; rintro e w' ⟨rfl, rfl⟩) | ((go_at_call 99; with_reducible refine (rgcd_calls (HXD.out.ext hk0.1.out) (HYD.out.ext hk0.1.out) HLB.out HG.out).mono ?_; rintro e w5 ⟨r, rfl, hr, he⟩; have hk5 := KeepB.ext he hk0; obtain ⟨ad, n, c5, x, rfl, hcell, hx, hcn, hdl⟩ := hr.rv.first2 HGP.out; have HXX := Aside.mk hx; have HDL := Aside.mk hdl; clear hk0 hr he hx hdl); have hn1 : ((n : Int) + 1 == 1) = false := HN0.out n HDL.out))
        go_ret
        exact ⟨by simp, hk5.1.out⟩
      · have hneg2 := hneg rfl
        go_enter Tryz.func51, Tryz.ntmps51
        go_wp2_with (first | (go_at_call 98; with_reducible refine (rgood_calls (HX.out.ext hk0.1.out) HB1.out).mono ?_; rintro e w' ⟨rfl, rfl⟩) | (go_at_call 98; with_reducible refine (rgood_calls (HY.out.ext hk0.1.out) HB2.out).mono ?_; rintro e w' ⟨rfl, rfl⟩) | ((go_at_call 99; with_reducible refine (rgcd_calls (HXD.out.ext hk0.1.out) (HYD.out.ext hk0.1.out) HLB.out HG.out).mono ?_; rintro e w5 ⟨r, rfl, hr, he⟩; have hk5 := KeepB.ext he hk0; obtain ⟨ad, n, c5, x, rfl, hcell, hx, hcn, hdl⟩ := hr.rv.first2 HGP.out; have HXX := Aside.mk hx; have HDL := Aside.mk hdl; clear hk0 hr he hx hdl); have hn1 : ((n : Int) + 1 == 1) = false := HN0.out n HDL.out))
        go_ret
        exact ⟨by simp, hk5.1.out⟩
  · have hf0 : (f == 0) = false := beq_eq_false_iff_ne.2 hf
    have hf1 : (f != 0) = true := by simp [bne, hf0]
    have HS : Aside (b = ((f == 4 || f == 11) && !neg && decide (xs.length + ys.length = 0))) := ⟨by rw [← hb]; simp [okq, hf]⟩
    have HK := Aside.mk hk0.1.out
    have hlx : ((xs.length : Int) == 0) = decide (xs.length = 0) := by
      by_cases h0 : xs.length = 0
      · simp [h0]
      · rw [decide_eq_false h0]; exact beq_eq_false_iff_ne.2 (by omega)
    have hly : ((ys.length : Int) == 0) = decide (ys.length = 0) := by
      by_cases h0 : ys.length = 0
      · simp [h0]
      · rw [decide_eq_false h0]; exact beq_eq_false_iff_ne.2 (by omega)
    have hsum : decide (xs.length + ys.length = 0) = (decide (xs.length = 0) && decide (ys.length = 0)) := by
      by_cases h0 : xs.length = 0 <;> by_cases h1 : ys.length = 0 <;> simp [h0, h1]
    rw [HS.out, hsum]
    clear hb HS hsum hdx hdy hf
    generalize decide (xs.length = 0) = bx at *
    generalize decide (ys.length = 0) = by_ at *
    generalize xs.length = nx at *
    generalize ys.length = ny at *
    cases h4 : (f == 4) <;> cases h11 : (f == 11) <;> cases neg <;> cases bx <;> cases by_ <;> (go_enter Tryz.func51, Tryz.ntmps51; go_wp2; go_ret; exact ⟨by simp, HK.out⟩)
end Go.Proofs.YtcbaipnphepbeaaGreatDoor

namespace Go.Proofs.YtcbaipnphepbeaaGreatDoor
open Go.RowKit

end Go.Proofs.YtcbaipnphepbeaaGreatDoor

namespace Go.Proofs.YtcbaipnphepbeaaGreatDoor
open Go.RowKit


end Go.Proofs.YtcbaipnphepbeaaGreatDoor

namespace Go.Proofs.YtcbaipnphepbeaaGreatDoor
open Go.RowKit

end Go.Proofs.YtcbaipnphepbeaaGreatDoor

namespace Go.Proofs.YtcbaipnphepbeaaGreatDoor
open Go.RowKit


end Go.Proofs.YtcbaipnphepbeaaGreatDoor

namespace Go.Proofs.YtcbaipnphepbeaaGreatDoor
open Go.RowKit

end Go.Proofs.YtcbaipnphepbeaaGreatDoor

namespace Go.Proofs.YtcbaipnphepbeaaGreatDoor
open Go.RowKit

end Go.Proofs.YtcbaipnphepbeaaGreatDoor

namespace Go.Proofs.YtcbaipnphepbeaaGreatDoor
open Go.RowKit

end Go.Proofs.YtcbaipnphepbeaaGreatDoor

namespace Go.Proofs.YtcbaipnphepbeaaGreatDoor
open Go.RowKit



end Go.Proofs.YtcbaipnphepbeaaGreatDoor

namespace Go.Proofs.YtcbaipnphepbeaaGreatDoor
open Go.RowKit

theorem IsNum.ok {q : Rq} {a b : Nat} (k : IsNum q a b) : okq q = true := by
  have h1 := k.f
  have h2 := k.num
  have h3 := k.den
  have hb := dig_length_pos k.pos
  have hn : (q.neg && decide ((dig a).length = 0)) = false := by
    cases hq : q.neg
    · rfl
    · have := dig_length_pos (k.neg hq)
      rw [decide_eq_false (by omega)]; rfl
  unfold okq
  rw [if_pos h1, h2, h3, natErr_dig0 (Nat.le_trans k.la (by decide)), natErr_dig0 (Nat.le_trans k.lb (by decide)), val_dig, val_dig, isLong_false.2 k.la, isLong_false.2 k.lb, hn, decide_eq_false (show ¬ (dig b).length = 0 by omega), k.gcd]
  rfl
end Go.Proofs.YtcbaipnphepbeaaGreatDoor

namespace Go.Proofs.YtcbaipnphepbeaaGreatDoor
open Go.RowKit

theorem okq_fault {l : Int} (h : l = 4 ∨ l = 11) : okq (fq l) = true := by rcases h with rfl | rfl <;> rfl
theorem okq_f {q : Rq} (h : okq q = true) : q.f = 0 ∨ q.f = 4 ∨ q.f = 11 := by
  unfold okq at h
  split at h
  · rename_i h0; exact .inl h0
  · simp only [Bool.and_eq_true, Bool.or_eq_true, beq_iff_eq] at h
    exact .inr h.1.1
theorem okq_fq {q : Rq} (h : okq q = true) (hf : q.f ≠ 0) : q = fq q.f := by
  unfold okq at h
  rw [if_neg hf] at h
  simp only [Bool.and_eq_true, Bool.not_eq_true', decide_eq_true_eq] at h
  obtain ⟨f, n, x, y⟩ := q
  dsimp only at h
  have hx : x = [] := List.eq_nil_of_length_eq_zero (by omega)
  have hy : y = [] := List.eq_nil_of_length_eq_zero (by omega)
  obtain rfl : n = false := h.1.2
  subst hx hy
  rfl
theorem ratio_okq (n : Bool) (x y : Nat) : okq (ratio n x y) = true := by
  rcases Nat.eq_zero_or_pos y with h | h
  · subst h; unfold ratio; rw [if_pos rfl]; rfl
  · cases h1 : (isLong (x / Nat.gcd x y) || isLong (y / Nat.gcd x y))
    · rw [Bool.or_eq_false_iff] at h1
      have hg : 0 < Nat.gcd x y := Nat.gcd_pos_of_pos_right _ h
      have k : IsNum (ratio n x y) (x / Nat.gcd x y) (y / Nat.gcd x y) := by
        have e : ratio n x y = ⟨0, n && decide (0 < x), dig (x / Nat.gcd x y), dig (y / Nat.gcd x y)⟩ := by
          unfold ratio
          rw [if_neg (by omega), h1.1, h1.2]; rfl
        rw [e]
        refine ⟨rfl, rfl, rfl, isLong_false.1 h1.1, isLong_false.1 h1.2, Nat.div_pos (Nat.le_of_dvd h (Nat.gcd_dvd_right _ _)) hg, ?_, ?_⟩
        · rw [Nat.gcd_div (Nat.gcd_dvd_left _ _) (Nat.gcd_dvd_right _ _), Nat.div_self hg]
        · intro hh
          simp only [Bool.and_eq_true, decide_eq_true_eq] at hh
          exact Nat.div_pos (Nat.le_of_dvd hh.2 (Nat.gcd_dvd_left _ _)) hg
      exact k.ok
    · unfold ratio; rw [if_neg (by omega), if_pos h1]; rfl
end Go.Proofs.YtcbaipnphepbeaaGreatDoor

namespace Go.Proofs.YtcbaipnphepbeaaGreatDoor
open Go.RowKit

/-- A whole number with a sign. -/
def sgn (n : Bool) (a : Nat) : Int := if n = true then -(a : Int) else (a : Int)
end Go.Proofs.YtcbaipnphepbeaaGreatDoor

namespace Go.Proofs.YtcbaipnphepbeaaGreatDoor
open Go.RowKit

theorem risbit_calls {w : World} {f : Int} {on b : Bool} (hb : okb f on = b) :
    Calls Tryz.prog 57 #[.agg #[.int .i64 f, .bool on]] w fun e w' => e = .returned (.bool b) ∧ Ext w w' := by
  subst hb
  unfold okb
  cases h0 : (f == 0)
  · cases h4 : (f == 4)
    · cases h11 : (f == 11)
      · go_enter Tryz.func57, Tryz.ntmps57
        go_wp2
        go_ret
        exact ⟨by simp, (Ext.refl w).alloc _⟩
      · go_enter Tryz.func57, Tryz.ntmps57
        go_wp2
        go_ret
        exact ⟨by simp, (Ext.refl w).alloc _⟩
    · go_enter Tryz.func57, Tryz.ntmps57
      go_wp2
      go_ret
      exact ⟨by simp, (Ext.refl w).alloc _⟩
  · go_enter Tryz.func57, Tryz.ntmps57
    go_wp2
    go_ret
    exact ⟨by simp, (Ext.refl w).alloc _⟩
end Go.Proofs.YtcbaipnphepbeaaGreatDoor

namespace Go.Proofs.YtcbaipnphepbeaaGreatDoor
open Go.RowKit

end Go.Proofs.YtcbaipnphepbeaaGreatDoor

namespace Go.Proofs.YtcbaipnphepbeaaGreatDoor
open Go.RowKit




end Go.Proofs.YtcbaipnphepbeaaGreatDoor

namespace Go.Proofs.YtcbaipnphepbeaaGreatDoor
open Go.RowKit


end Go.Proofs.YtcbaipnphepbeaaGreatDoor

namespace Go.Proofs.YtcbaipnphepbeaaGreatDoor
open Go.RowKit

/-- The value of a Rat that is no fault. -/
def rv (q : Rq) : Rat := mkRat (sgn q.neg (val q.num)) (val q.den)
end Go.Proofs.YtcbaipnphepbeaaGreatDoor
