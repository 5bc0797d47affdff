/- Contracts of package frac: IsRat, IsBit, least. -/
import Derived.Test.YtgfkachfbnbikaaGreatDoorFracD
namespace Go.Proofs.YtgfkachfbnbikaaGreatDoor
open Go.RowKit

/-- Is a Rat valid? -/
def okq (q : Rq) : Bool :=
  if q.f = 0 then decide (natErr q.num = 0) && decide (natErr q.den = 0) && !isLong (val q.num) && !isLong (val q.den) && !(decide (q.den.length = 0)) && !(q.neg && decide (q.num.length = 0)) && (Nat.gcd (val q.num) (val q.den) == 1)
  else (q.f == 4 || q.f == 11) && !q.neg && decide (q.num.length + q.den.length = 0)

/-- A box of four cells. -/
abbrev KeepB (w : World) (x0 x1 x2 x3 : Value) (w' : World) : Prop :=
  Aside (Ext w w') ∧ w'.cell? ⟨w.heap.size, 0, none⟩ = some x0 ∧ w'.cell? ⟨w.heap.size, 1, none⟩ = some x1 ∧ w'.cell? ⟨w.heap.size, 2, none⟩ = some x2 ∧ w'.cell? ⟨w.heap.size, 3, none⟩ = some x3
theorem KeepB.ext {w w1 w2 : World} {x0 x1 x2 x3 : Value} (e : Ext w1 w2) (h : KeepB w x0 x1 x2 x3 w1) : KeepB w x0 x1 x2 x3 w2 :=
  ⟨⟨h.1.out.trans e⟩, e.cell h.2.1, e.cell h.2.2.1, e.cell h.2.2.2.1, e.cell h.2.2.2.2⟩
theorem KeepB.init (w : World) (x0 x1 x2 x3 : Value) (t : TypeId) : KeepB w x0 x1 x2 x3 (w.alloc (.cells #[x0, x1, x2, x3] t)) :=
  ⟨⟨(Ext.refl w).alloc _⟩, cell_new rfl rfl, cell_new rfl rfl, cell_new rfl rfl, cell_new rfl rfl⟩

theorem isnat_b {w : World} {v : Value} {xs : List Nat} {b : Bool} (h : RV w v xs) (hb : decide (natErr xs = 0) = b) :
    Calls Tryz.prog 70 #[v] w fun e w' => e = .returned (.bool b) ∧ Ext w w' := by subst hb; exact isnat_calls h
theorem long_b {w : World} {u : Value} {xs : List Nat} {b : Bool} (h : RV w u xs) (hn : natErr xs = 0) (hb : isLong (val xs) = b) :
    Calls Tryz.prog 109 #[u] w fun e w' => e = .returned (.bool b) ∧ Ext w w' := by
  subst hb
  have hx := (natErr_zero h.dg.2 hn).2
  rw [hx] at h
  exact long_calls h
theorem gcd_b {w : World} {u v : Value} {xs ys : List Nat} {g : Nat} (hu : RV w u xs) (hv : RV w v ys) (hx : natErr xs = 0) (hy : natErr ys = 0) (hg : Nat.gcd (val xs) (val ys) = g) :
    Calls Tryz.prog 110 #[u, v] w fun e w' => ∃ r, e = .returned (.tuple #[r, .int .i64 0]) ∧ OV w.heap.size w' r (dig g) ∧ Ext w w' := by
  subst hg
  obtain ⟨h1, h2⟩ := natErr_zero hu.dg.2 hx
  obtain ⟨k1, k2⟩ := natErr_zero hv.dg.2 hy
  rw [h2] at hu h1
  rw [k2] at hv k1
  exact Gcd_calls ⟨hu, h1⟩ ⟨hv, k1⟩

set_option maxHeartbeats 1000000 in
theorem israt_calls {w : World} {v : Value} {q : Rq} (h : RR w v q) :
    Calls Tryz.prog 49 #[v] w fun e w' => e = .returned (.bool (okq q)) ∧ Ext w w' := by
  obtain ⟨x, y, rfl, hx, hy⟩ := h
  obtain ⟨f, neg, xs, ys⟩ := q
  have HX := Aside.mk hx
  have HY := Aside.mk hy
  obtain ⟨A, c, rfl, _, hdx, _⟩ := hx
  obtain ⟨B, d, rfl, _, hdy, _⟩ := hy
  have hlx : xs.length ≤ 1073741824 := hdx.1
  have hly : ys.length ≤ 1073741824 := hdy.1
  clear hdx hdy
  dsimp only at *
  have hk0 := KeepB.init w (.int .i64 f) (.bool neg) (.slice A xs.length c) (.slice B ys.length d) 26
  by_cases hf : f = 0
  · subst hf
    have HS : Aside (okq ⟨0, neg, xs, ys⟩ = (decide (natErr xs = 0) && decide (natErr ys = 0) && !isLong (val xs) && !isLong (val ys) && !(decide (ys.length = 0)) && !(neg && decide (xs.length = 0)) && (Nat.gcd (val xs) (val ys) == 1))) := ⟨by simp [okq]⟩
    rw [HS.out]
    clear HS
    obtain ⟨g, hg⟩ : ∃ g, Nat.gcd (val xs) (val ys) = g := ⟨_, rfl⟩
    rw [hg]
    have HG := Aside.mk hg
    clear hg
    obtain ⟨b1, hb1⟩ : ∃ b, decide (natErr xs = 0) = b := ⟨_, rfl⟩
    obtain ⟨b2, hb2⟩ : ∃ b, decide (natErr ys = 0) = b := ⟨_, rfl⟩
    obtain ⟨l1, hl1⟩ : ∃ b, isLong (val xs) = b := ⟨_, rfl⟩
    obtain ⟨l2, hl2⟩ : ∃ b, isLong (val ys) = b := ⟨_, rfl⟩
    rw [hb1, hb2, hl1, hl2]
    have HB1 := Aside.mk hb1
    have HB2 := Aside.mk hb2
    have HL1 := Aside.mk hl1
    have HL2 := Aside.mk hl2
    clear hb1 hb2 hl1 hl2
    generalize hxn : xs.length = nx at *
    generalize hyn : ys.length = ny at *
    have HXN := Aside.mk hxn
    have HYN := Aside.mk hyn
    clear hxn hyn
    cases b1
    · go_enter Tryz.func49, Tryz.ntmps49
      go_wp2_with (go_at_call 70; with_reducible refine (isnat_b (HX.out.ext hk0.1.out) HB1.out).mono ?_; rintro e w1 ⟨rfl, he⟩; have hk1 := KeepB.ext he hk0; clear hk0 he)
      go_ret
      exact ⟨by simp, hk1.1.out⟩
    have HN1 : Aside (natErr xs = 0) := ⟨of_decide_eq_true HB1.out⟩
    cases b2
    · go_enter Tryz.func49, Tryz.ntmps49
      go_wp2_with (first | (go_at_call 70; with_reducible refine (isnat_b (HX.out.ext hk0.1.out) HB1.out).mono ?_; rintro e w1 ⟨rfl, he⟩; have hk1 := KeepB.ext he hk0; clear hk0 he) | (go_at_call 70; with_reducible refine (isnat_b (HY.out.ext hk1.1.out) HB2.out).mono ?_; rintro e w2 ⟨rfl, he⟩; have hk2 := KeepB.ext he hk1; clear hk1 he))
      go_ret
      exact ⟨by simp, hk2.1.out⟩
    have HN2 : Aside (natErr ys = 0) := ⟨of_decide_eq_true HB2.out⟩
    cases l1
    rotate_left
    · go_enter Tryz.func49, Tryz.ntmps49
      go_wp2_with (first | (go_at_call 70; with_reducible refine (isnat_b (HX.out.ext hk0.1.out) HB1.out).mono ?_; rintro e w1 ⟨rfl, he⟩; have hk1 := KeepB.ext he hk0; clear hk0 he) | (go_at_call 70; with_reducible refine (isnat_b (HY.out.ext hk1.1.out) HB2.out).mono ?_; rintro e w2 ⟨rfl, he⟩; have hk2 := KeepB.ext he hk1; clear hk1 he) | (go_at_call 109; with_reducible refine (long_b (HX.out.ext hk2.1.out) HN1.out HL1.out).mono ?_; rintro e w3 ⟨rfl, he⟩; have hk3 := KeepB.ext he hk2; clear hk2 he))
      go_ret
      exact ⟨by simp, hk3.1.out⟩
    cases l2
    rotate_left
    · go_enter Tryz.func49, Tryz.ntmps49
      go_wp2_with (first | (go_at_call 70; with_reducible refine (isnat_b (HX.out.ext hk0.1.out) HB1.out).mono ?_; rintro e w1 ⟨rfl, he⟩; have hk1 := KeepB.ext he hk0; clear hk0 he) | (go_at_call 70; with_reducible refine (isnat_b (HY.out.ext hk1.1.out) HB2.out).mono ?_; rintro e w2 ⟨rfl, he⟩; have hk2 := KeepB.ext he hk1; clear hk1 he) | (go_at_call 109; with_reducible refine (long_b (HX.out.ext hk2.1.out) HN1.out HL1.out).mono ?_; rintro e w3 ⟨rfl, he⟩; have hk3 := KeepB.ext he hk2; clear hk2 he) | (go_at_call 109; with_reducible refine (long_b (HY.out.ext hk3.1.out) HN2.out HL2.out).mono ?_; rintro e w4 ⟨rfl, he⟩; have hk4 := KeepB.ext he hk3; clear hk3 he))
      go_ret
      exact ⟨by simp, hk4.1.out⟩
    rcases Nat.eq_zero_or_pos ny with rfl | hy0
    · go_enter Tryz.func49, Tryz.ntmps49
      go_wp2_with (first | (go_at_call 70; with_reducible refine (isnat_b (HX.out.ext hk0.1.out) HB1.out).mono ?_; rintro e w1 ⟨rfl, he⟩; have hk1 := KeepB.ext he hk0; clear hk0 he) | (go_at_call 70; with_reducible refine (isnat_b (HY.out.ext hk1.1.out) HB2.out).mono ?_; rintro e w2 ⟨rfl, he⟩; have hk2 := KeepB.ext he hk1; clear hk1 he) | (go_at_call 109; with_reducible refine (long_b (HX.out.ext hk2.1.out) HN1.out HL1.out).mono ?_; rintro e w3 ⟨rfl, he⟩; have hk3 := KeepB.ext he hk2; clear hk2 he) | (go_at_call 109; with_reducible refine (long_b (HY.out.ext hk3.1.out) HN2.out HL2.out).mono ?_; rintro e w4 ⟨rfl, he⟩; have hk4 := KeepB.ext he hk3; clear hk3 he))
      go_ret
      exact ⟨by simp, hk4.1.out⟩
    have hyz : ((ny : Int) == 0) = false := by simp; omega
    have hyd : decide (ny = 0) = false := by simp; omega
    rw [hyd]
    clear hyd
    have hx0 : neg = true → nx = 0 → decide (nx = 0) = true := fun _ h => by simp [h]
    by_cases hbad : neg = true ∧ nx = 0
    · obtain ⟨rfl, rfl⟩ := hbad
      go_enter Tryz.func49, Tryz.ntmps49
      go_wp2_with (first | (go_at_call 70; with_reducible refine (isnat_b (HX.out.ext hk0.1.out) HB1.out).mono ?_; rintro e w1 ⟨rfl, he⟩; have hk1 := KeepB.ext he hk0; clear hk0 he) | (go_at_call 70; with_reducible refine (isnat_b (HY.out.ext hk1.1.out) HB2.out).mono ?_; rintro e w2 ⟨rfl, he⟩; have hk2 := KeepB.ext he hk1; clear hk1 he) | (go_at_call 109; with_reducible refine (long_b (HX.out.ext hk2.1.out) HN1.out HL1.out).mono ?_; rintro e w3 ⟨rfl, he⟩; have hk3 := KeepB.ext he hk2; clear hk2 he) | (go_at_call 109; with_reducible refine (long_b (HY.out.ext hk3.1.out) HN2.out HL2.out).mono ?_; rintro e w4 ⟨rfl, he⟩; have hk4 := KeepB.ext he hk3; clear hk3 he))
      go_ret
      exact ⟨by simp, hk4.1.out⟩
    have hnn : (neg && decide (nx = 0)) = false := by
      cases neg
      · rfl
      · simp at hbad; simp [hbad]
    rw [hnn]
    have hxz : neg = true → ((nx : Int) == 0) = false := by intro h; subst h; simp at hbad; simp [hbad]
    clear hnn hbad hx0
    obtain ⟨n5, hn5⟩ : ∃ n, (dig g).length = n := ⟨_, rfl⟩
    have HDG : Aside (Dg (dig g)) := ⟨by
      have h1 := (HX.out).dg.1
      refine ⟨?_, ds_dig g⟩
      rw [← HG.out]
      rcases Nat.eq_zero_or_pos (val xs) with h0 | h0
      · rw [h0, Nat.gcd_zero_left]
        have h2 := HY.out.dg
        rw [(natErr_zero h2.2 HN2.out).2] at h2; simpa [val_dig] using h2.1
      · have h2 := HX.out.dg
        rw [(natErr_zero h2.2 HN1.out).2] at h2
        exact Nat.le_trans (dig_len_mono (Nat.gcd_le_left _ h0)) (by simpa [val_dig] using h2.1)⟩
    have hn5b : n5 ≤ 1073741824 := by rw [← hn5]; exact HDG.out.1
    have HN5 := Aside.mk hn5
    by_cases hone : n5 = 1
    · subst hone
      obtain ⟨t, ht⟩ : ∃ t, (dig g).getD 0 0 = t := ⟨_, rfl⟩
      have hgt : g = t := by
        have h1 := val_dig g
        have : dig g = [t] := by
          rw [List.length_eq_one_iff] at hn5
          obtain ⟨z, hz⟩ := hn5
          rw [hz] at ht ⊢
          simp at ht
          rw [ht]
        rw [this] at h1
        simp [val] at h1
        exact h1.symm
      have HT := Aside.mk ht
      have hti : ((t : Int) == 1) = (t == 1) := by
        by_cases h : t = 1
        · subst h; rfl
        · rw [show (t == 1) = false from by simp [h]]; simp; omega
      rw [hgt]
      clear hn5 ht hgt
      cases neg
      · go_enter Tryz.func49, Tryz.ntmps49
        go_wp2_with (first | (go_at_call 70; with_reducible refine (isnat_b (HX.out.ext hk0.1.out) HB1.out).mono ?_; rintro e w1 ⟨rfl, he⟩; have hk1 := KeepB.ext he hk0; clear hk0 he) | (go_at_call 70; with_reducible refine (isnat_b (HY.out.ext hk1.1.out) HB2.out).mono ?_; rintro e w2 ⟨rfl, he⟩; have hk2 := KeepB.ext he hk1; clear hk1 he) | (go_at_call 109; with_reducible refine (long_b (HX.out.ext hk2.1.out) HN1.out HL1.out).mono ?_; rintro e w3 ⟨rfl, he⟩; have hk3 := KeepB.ext he hk2; clear hk2 he) | (go_at_call 109; with_reducible refine (long_b (HY.out.ext hk3.1.out) HN2.out HL2.out).mono ?_; rintro e w4 ⟨rfl, he⟩; have hk4 := KeepB.ext he hk3; clear hk3 he) | (go_at_call 110; with_reducible refine (gcd_b (HX.out.ext hk4.1.out) (HY.out.ext hk4.1.out) HN1.out HN2.out HG.out).mono ?_; rintro e w5 ⟨r, rfl, hr, he⟩; have hk5 := KeepB.ext he hk4; obtain ⟨g5, c5, rfl, _, _, hc5, _⟩ := hr.row (by rw [HN5.out]; exact Nat.one_pos); rw [HN5.out] at hr ⊢; have hcell := hr.cell 0 (by rw [HN5.out]; exact Nat.one_pos); rw [HT.out] at hcell; clear hk4 hr he))
        go_ret
        exact ⟨by simp, hk5.1.out⟩
      · have hxz' := hxz rfl
        go_enter Tryz.func49, Tryz.ntmps49
        go_wp2_with (first | (go_at_call 70; with_reducible refine (isnat_b (HX.out.ext hk0.1.out) HB1.out).mono ?_; rintro e w1 ⟨rfl, he⟩; have hk1 := KeepB.ext he hk0; clear hk0 he) | (go_at_call 70; with_reducible refine (isnat_b (HY.out.ext hk1.1.out) HB2.out).mono ?_; rintro e w2 ⟨rfl, he⟩; have hk2 := KeepB.ext he hk1; clear hk1 he) | (go_at_call 109; with_reducible refine (long_b (HX.out.ext hk2.1.out) HN1.out HL1.out).mono ?_; rintro e w3 ⟨rfl, he⟩; have hk3 := KeepB.ext he hk2; clear hk2 he) | (go_at_call 109; with_reducible refine (long_b (HY.out.ext hk3.1.out) HN2.out HL2.out).mono ?_; rintro e w4 ⟨rfl, he⟩; have hk4 := KeepB.ext he hk3; clear hk3 he) | (go_at_call 110; with_reducible refine (gcd_b (HX.out.ext hk4.1.out) (HY.out.ext hk4.1.out) HN1.out HN2.out HG.out).mono ?_; rintro e w5 ⟨r, rfl, hr, he⟩; have hk5 := KeepB.ext he hk4; obtain ⟨g5, c5, rfl, _, _, hc5, _⟩ := hr.row (by rw [HN5.out]; exact Nat.one_pos); rw [HN5.out] at hr ⊢; have hcell := hr.cell 0 (by rw [HN5.out]; exact Nat.one_pos); rw [HT.out] at hcell; clear hk4 hr he))
        go_ret
        exact ⟨by simp, hk5.1.out⟩
    · have hn51 : ((n5 : Int) == 1) = false := by simp; omega
      have hg1 : (g == 1) = false := by
        have : g ≠ 1 := by
          intro h; subst h
          apply hone
          rw [← hn5, dig_pos (by omega), show (1 : Nat) / 4294967296 = 0 from rfl, dig_zero]; rfl
        simp [this]
      rw [hg1]
      clear hn5 hone hg1
      cases neg
      · go_enter Tryz.func49, Tryz.ntmps49
        go_wp2_with (first | (go_at_call 70; with_reducible refine (isnat_b (HX.out.ext hk0.1.out) HB1.out).mono ?_; rintro e w1 ⟨rfl, he⟩; have hk1 := KeepB.ext he hk0; clear hk0 he) | (go_at_call 70; with_reducible refine (isnat_b (HY.out.ext hk1.1.out) HB2.out).mono ?_; rintro e w2 ⟨rfl, he⟩; have hk2 := KeepB.ext he hk1; clear hk1 he) | (go_at_call 109; with_reducible refine (long_b (HX.out.ext hk2.1.out) HN1.out HL1.out).mono ?_; rintro e w3 ⟨rfl, he⟩; have hk3 := KeepB.ext he hk2; clear hk2 he) | (go_at_call 109; with_reducible refine (long_b (HY.out.ext hk3.1.out) HN2.out HL2.out).mono ?_; rintro e w4 ⟨rfl, he⟩; have hk4 := KeepB.ext he hk3; clear hk3 he) | (go_at_call 110; with_reducible refine (gcd_b (HX.out.ext hk4.1.out) (HY.out.ext hk4.1.out) HN1.out HN2.out HG.out).mono ?_; rintro e w5 ⟨r, rfl, hr, he⟩; have hk5 := KeepB.ext he hk4; have HR := Aside.mk hr; obtain ⟨A5, c5, rfl, _⟩ := hr.form; rw [HN5.out] at HR ⊢; clear hk4 hr he))
        go_ret
        exact ⟨by simp, hk5.1.out⟩
      · have hxz' := hxz rfl
        go_enter Tryz.func49, Tryz.ntmps49
        go_wp2_with (first | (go_at_call 70; with_reducible refine (isnat_b (HX.out.ext hk0.1.out) HB1.out).mono ?_; rintro e w1 ⟨rfl, he⟩; have hk1 := KeepB.ext he hk0; clear hk0 he) | (go_at_call 70; with_reducible refine (isnat_b (HY.out.ext hk1.1.out) HB2.out).mono ?_; rintro e w2 ⟨rfl, he⟩; have hk2 := KeepB.ext he hk1; clear hk1 he) | (go_at_call 109; with_reducible refine (long_b (HX.out.ext hk2.1.out) HN1.out HL1.out).mono ?_; rintro e w3 ⟨rfl, he⟩; have hk3 := KeepB.ext he hk2; clear hk2 he) | (go_at_call 109; with_reducible refine (long_b (HY.out.ext hk3.1.out) HN2.out HL2.out).mono ?_; rintro e w4 ⟨rfl, he⟩; have hk4 := KeepB.ext he hk3; clear hk3 he) | (go_at_call 110; with_reducible refine (gcd_b (HX.out.ext hk4.1.out) (HY.out.ext hk4.1.out) HN1.out HN2.out HG.out).mono ?_; rintro e w5 ⟨r, rfl, hr, he⟩; have hk5 := KeepB.ext he hk4; have HR := Aside.mk hr; obtain ⟨A5, c5, rfl, _⟩ := hr.form; rw [HN5.out] at HR ⊢; clear hk4 hr he))
        go_ret
        exact ⟨by simp, hk5.1.out⟩
  · have hf0 : (f == 0) = false := by simp [hf]
    have HS : Aside (okq ⟨f, neg, xs, ys⟩ = ((f == 4 || f == 11) && !neg && decide (xs.length + ys.length = 0))) := ⟨by simp [okq, hf]⟩
    have HK := Aside.mk hk0.1.out
    have hsum : (((xs.length : Int) + (ys.length : Int)) == 0) = decide (xs.length + ys.length = 0) := by
      by_cases h0 : xs.length + ys.length = 0
      · rw [decide_eq_true h0]; simp; omega
      · rw [decide_eq_false h0]; simp; omega
    generalize hdd : decide (xs.length + ys.length = 0) = dd at *
    rw [HS.out]
    clear hdd HS
    generalize hxn : xs.length = nx at *
    generalize hyn : ys.length = ny at *
    have HXN := Aside.mk hxn
    have HYN := Aside.mk hyn
    clear hf hxn hyn
    cases hif : (f == 4 || f == 11)
    · go_enter Tryz.func49, Tryz.ntmps49
      go_wp2_with (go_at_call 108; refine isfault_calls.mono ?_; rw [hif]; rintro e w1 ⟨rfl, rfl⟩)
      go_ret
      exact ⟨rfl, HK.out⟩
    · cases neg
      · go_enter Tryz.func49, Tryz.ntmps49
        go_wp2_with (go_at_call 108; refine isfault_calls.mono ?_; rw [hif]; rintro e w1 ⟨rfl, rfl⟩)
        go_ret
        exact ⟨by simp, HK.out⟩
      · go_enter Tryz.func49, Tryz.ntmps49
        go_wp2_with (go_at_call 108; refine isfault_calls.mono ?_; rw [hif]; rintro e w1 ⟨rfl, rfl⟩)
        go_ret
        exact ⟨rfl, HK.out⟩
end Go.Proofs.YtgfkachfbnbikaaGreatDoor
