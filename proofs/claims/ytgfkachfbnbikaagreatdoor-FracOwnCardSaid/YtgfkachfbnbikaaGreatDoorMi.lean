/- Contracts of package frac: IsRat, IsBit, least. Contracts of package frac: IsBit, least, made. -/
import Derived.Test.YtgfkachfbnbikaaGreatDoorMh
namespace Go.Proofs.YtgfkachfbnbikaaGreatDoor
open Go.RowKit

/-- Is a Rat valid? -/
def okq (q : Rq) : Bool :=
  if q.f = 0 then decide (natErr q.num = 0) && decide (natErr q.den = 0) && !isLong (val q.num) && !isLong (val q.den) && !(decide (q.den.length = 0)) && !(q.neg && decide (q.num.length = 0)) && (Nat.gcd (val q.num) (val q.den) == 1)
  else (q.f == 4 || q.f == 11) && !q.neg && decide (q.num.length + q.den.length = 0)

/-- A box of four cells. -/
abbrev KeepB (w : World) (x0 x1 x2 x3 : Value) (w' : World) : Prop :=
  Aside (Ext w w') ∧ w'.cell? ⟨w.heap.size, 0, none⟩ = some x0 ∧ w'.cell? ⟨w.heap.size, 1, none⟩ = some x1 ∧ w'.cell? ⟨w.heap.size, 2, none⟩ = some x2 ∧ w'.cell? ⟨w.heap.size, 3, none⟩ = some x3
theorem KeepB.ext {w w1 w2 : World} {x0 x1 x2 x3 : Value} (e : Ext w1 w2) (h : KeepB w x0 x1 x2 x3 w1) : KeepB w x0 x1 x2 x3 w2 :=
  ⟨⟨h.1.out.trans e⟩, e.cell h.2.1, e.cell h.2.2.1, e.cell h.2.2.2.1, e.cell h.2.2.2.2⟩
theorem KeepB.init (w : World) (x0 x1 x2 x3 : Value) (t : TypeId) : KeepB w x0 x1 x2 x3 (w.alloc (.cells #[x0, x1, x2, x3] t)) :=
  ⟨⟨(Ext.refl w).alloc _⟩, cell_new rfl rfl, cell_new rfl rfl, cell_new rfl rfl, cell_new rfl rfl⟩

theorem isnat_b {w : World} {v : Value} {xs : List Nat} {b : Bool} (h : RV w v xs) (hb : decide (natErr xs = 0) = b) :
    Calls Tryz.prog 70 #[v] w fun e w' => e = .returned (.bool b) ∧ Ext w w' := by subst hb; exact isnat_calls h
theorem long_b {w : World} {u : Value} {xs : List Nat} {b : Bool} (h : RV w u xs) (hn : natErr xs = 0) (hb : isLong (val xs) = b) :
    Calls Tryz.prog 109 #[u] w fun e w' => e = .returned (.bool b) ∧ Ext w w' := by
  subst hb
  have hx := (natErr_zero h.dg.2 hn).2
  rw [hx] at h
  exact long_calls h
theorem gcd_b {w : World} {u v : Value} {xs ys : List Nat} {g : Nat} (hu : RV w u xs) (hv : RV w v ys) (hx : natErr xs = 0) (hy : natErr ys = 0) (hg : Nat.gcd (val xs) (val ys) = g) :
    Calls Tryz.prog 110 #[u, v] w fun e w' => ∃ r, e = .returned (.tuple #[r, .int .i64 0]) ∧ OV w.heap.size w' r (dig g) ∧ Ext w w' := by
  subst hg
  obtain ⟨h1, h2⟩ := natErr_zero hu.dg.2 hx
  obtain ⟨k1, k2⟩ := natErr_zero hv.dg.2 hy
  rw [h2] at hu h1
  rw [k2] at hv k1
  exact Gcd_calls ⟨hu, h1⟩ ⟨hv, k1⟩

set_option maxHeartbeats 1000000 in
theorem israt_calls {w : World} {v : Value} {q : Rq} (h : RR w v q) :
    Calls Tryz.prog 49 #[v] w fun e w' => e = .returned (.bool (okq q)) ∧ Ext w w' := by
  obtain ⟨x, y, rfl, hx, hy⟩ := h
  obtain ⟨f, neg, xs, ys⟩ := q
  have HX := Aside.mk hx
  have HY := Aside.mk hy
  obtain ⟨A, c, rfl, _, hdx, _⟩ := hx
  obtain ⟨B, d, rfl, _, hdy, _⟩ := hy
  have hlx : xs.length ≤ 1073741824 := hdx.1
  have hly : ys.length ≤ 1073741824 := hdy.1
  clear hdx hdy
  dsimp only at *
  have hk0 := KeepB.init w (.int .i64 f) (.bool neg) (.slice A xs.length c) (.slice B ys.length d) 26
  by_cases hf : f = 0
  · subst hf
    have HS : Aside (okq ⟨0, neg, xs, ys⟩ = (decide (natErr xs = 0) && decide (natErr ys = 0) && !isLong (val xs) && !isLong (val ys) && !(decide (ys.length = 0)) && !(neg && decide (xs.length = 0)) && (Nat.gcd (val xs) (val ys) == 1))) := ⟨by simp [okq]⟩
    rw [HS.out]
    clear HS
    obtain ⟨g, hg⟩ : ∃ g, Nat.gcd (val xs) (val ys) = g := ⟨_, rfl⟩
    rw [hg]
    have HG := Aside.mk hg
    clear hg
    obtain ⟨b1, hb1⟩ : ∃ b, decide (natErr xs = 0) = b := ⟨_, rfl⟩
    obtain ⟨b2, hb2⟩ : ∃ b, decide (natErr ys = 0) = b := ⟨_, rfl⟩
    obtain ⟨l1, hl1⟩ : ∃ b, isLong (val xs) = b := ⟨_, rfl⟩
    obtain ⟨l2, hl2⟩ : ∃ b, isLong (val ys) = b := ⟨_, rfl⟩
    rw [hb1, hb2, hl1, hl2]
    have HB1 := Aside.mk hb1
    have HB2 := Aside.mk hb2
    have HL1 := Aside.mk hl1
    have HL2 := Aside.mk hl2
    clear hb1 hb2 hl1 hl2
    generalize hxn : xs.length = nx at *
    generalize hyn : ys.length = ny at *
    have HXN := Aside.mk hxn
    have HYN := Aside.mk hyn
    clear hxn hyn
    cases b1
    · go_enter Tryz.func49, Tryz.ntmps49
      go_wp2_with (go_at_call 70; with_reducible refine (isnat_b (HX.out.ext hk0.1.out) HB1.out).mono ?_; rintro e w1 ⟨rfl, he⟩; have hk1 := KeepB.ext he hk0; clear hk0 he)
      go_ret
      exact ⟨by simp, hk1.1.out⟩
    have HN1 : Aside (natErr xs = 0) := ⟨of_decide_eq_true HB1.out⟩
    cases b2
    · go_enter Tryz.func49, Tryz.ntmps49
      go_wp2_with (first | (go_at_call 70; with_reducible refine (isnat_b (HX.out.ext hk0.1.out) HB1.out).mono ?_; rintro e w1 ⟨rfl, he⟩; have hk1 := KeepB.ext he hk0; clear hk0 he) | (go_at_call 70; with_reducible refine (isnat_b (HY.out.ext hk1.1.out) HB2.out).mono ?_; rintro e w2 ⟨rfl, he⟩; have hk2 := KeepB.ext he hk1; clear hk1 he))
      go_ret
      exact ⟨by simp, hk2.1.out⟩
    have HN2 : Aside (natErr ys = 0) := ⟨of_decide_eq_true HB2.out⟩
    cases l1
    rotate_left
    · go_enter Tryz.func49, Tryz.ntmps49
      go_wp2_with (first | (go_at_call 70; with_reducible refine (isnat_b (HX.out.ext hk0.1.out) HB1.out).mono ?_; rintro e w1 ⟨rfl, he⟩; have hk1 := KeepB.ext he hk0; clear hk0 he) | (go_at_call 70; with_reducible refine (isnat_b (HY.out.ext hk1.1.out) HB2.out).mono ?_; rintro e w2 ⟨rfl, he⟩; have hk2 := KeepB.ext he hk1; clear hk1 he) | (go_at_call 109; with_reducible refine (long_b (HX.out.ext hk2.1.out) HN1.out HL1.out).mono ?_; rintro e w3 ⟨rfl, he⟩; have hk3 := KeepB.ext he hk2; clear hk2 he))
      go_ret
      exact ⟨by simp, hk3.1.out⟩
    cases l2
    rotate_left
    · go_enter Tryz.func49, Tryz.ntmps49
      go_wp2_with (first | (go_at_call 70; with_reducible refine (isnat_b (HX.out.ext hk0.1.out) HB1.out).mono ?_; rintro e w1 ⟨rfl, he⟩; have hk1 := KeepB.ext he hk0; clear hk0 he) | (go_at_call 70; with_reducible refine (isnat_b (HY.out.ext hk1.1.out) HB2.out).mono ?_; rintro e w2 ⟨rfl, he⟩; have hk2 := KeepB.ext he hk1; clear hk1 he) | (go_at_call 109; with_reducible refine (long_b (HX.out.ext hk2.1.out) HN1.out HL1.out).mono ?_; rintro e w3 ⟨rfl, he⟩; have hk3 := KeepB.ext he hk2; clear hk2 he) | (go_at_call 109; with_reducible refine (long_b (HY.out.ext hk3.1.out) HN2.out HL2.out).mono ?_; rintro e w4 ⟨rfl, he⟩; have hk4 := KeepB.ext he hk3; clear hk3 he))
      go_ret
      exact ⟨by simp, hk4.1.out⟩
    rcases Nat.eq_zero_or_pos ny with rfl | hy0
    · go_enter Tryz.func49, Tryz.ntmps49
      go_wp2_with (first | (go_at_call 70; with_reducible refine (isnat_b (HX.out.ext hk0.1.out) HB1.out).mono ?_; rintro e w1 ⟨rfl, he⟩; have hk1 := KeepB.ext he hk0; clear hk0 he) | (go_at_call 70; with_reducible refine (isnat_b (HY.out.ext hk1.1.out) HB2.out).mono ?_; rintro e w2 ⟨rfl, he⟩; have hk2 := KeepB.ext he hk1; clear hk1 he) | (go_at_call 109; with_reducible refine (long_b (HX.out.ext hk2.1.out) HN1.out HL1.out).mono ?_; rintro e w3 ⟨rfl, he⟩; have hk3 := KeepB.ext he hk2; clear hk2 he) | (go_at_call 109; with_reducible refine (long_b (HY.out.ext hk3.1.out) HN2.out HL2.out).mono ?_; rintro e w4 ⟨rfl, he⟩; have hk4 := KeepB.ext he hk3; clear hk3 he))
      go_ret
      exact ⟨by simp, hk4.1.out⟩
    have hyz : ((ny : Int) == 0) = false := by simp; omega
    have hyd : decide (ny = 0) = false := by simp; omega
    rw [hyd]
    clear hyd
    have hx0 : neg = true → nx = 0 → decide (nx = 0) = true := fun _ h => by simp [h]
    by_cases hbad : neg = true ∧ nx = 0
    · obtain ⟨rfl, rfl⟩ := hbad
      go_enter Tryz.func49, Tryz.ntmps49
      go_wp2_with (first | (go_at_call 70; with_reducible refine (isnat_b (HX.out.ext hk0.1.out) HB1.out).mono ?_; rintro e w1 ⟨rfl, he⟩; have hk1 := KeepB.ext he hk0; clear hk0 he) | (go_at_call 70; with_reducible refine (isnat_b (HY.out.ext hk1.1.out) HB2.out).mono ?_; rintro e w2 ⟨rfl, he⟩; have hk2 := KeepB.ext he hk1; clear hk1 he) | (go_at_call 109; with_reducible refine (long_b (HX.out.ext hk2.1.out) HN1.out HL1.out).mono ?_; rintro e w3 ⟨rfl, he⟩; have hk3 := KeepB.ext he hk2; clear hk2 he) | (go_at_call 109; with_reducible refine (long_b (HY.out.ext hk3.1.out) HN2.out HL2.out).mono ?_; rintro e w4 ⟨rfl, he⟩; have hk4 := KeepB.ext he hk3; clear hk3 he))
      go_ret
      exact ⟨by simp, hk4.1.out⟩
    have hnn : (neg && decide (nx = 0)) = false := by
      cases neg
      · rfl
      · simp at hbad; simp [hbad]
    rw [hnn]
    have hxz : neg = true → ((nx : Int) == 0) = false := by intro h; subst h; simp at hbad; simp [hbad]
    clear hnn hbad hx0
    obtain ⟨n5, hn5⟩ : ∃ n, (dig g).length = n := ⟨_, rfl⟩
    have HDG : Aside (Dg (dig g)) := ⟨by
      have h1 := (HX.out).dg.1
      refine ⟨?_, ds_dig g⟩
      rw [← HG.out]
      rcases Nat.eq_zero_or_pos (val xs) with h0 | h0
      · rw [h0, Nat.gcd_zero_left]
        have h2 := HY.out.dg
        rw [(natErr_zero h2.2 HN2.out).2] at h2; simpa [val_dig] using h2.1
      · have h2 := HX.out.dg
        rw [(natErr_zero h2.2 HN1.out).2] at h2
        exact Nat.le_trans (dig_len_mono (Nat.gcd_le_left _ h0)) (by simpa [val_dig] using h2.1)⟩
    have hn5b : n5 ≤ 1073741824 := by rw [← hn5]; exact HDG.out.1
    have HN5 := Aside.mk hn5
    by_cases hone : n5 = 1
    · subst hone
      obtain ⟨t, ht⟩ : ∃ t, (dig g).getD 0 0 = t := ⟨_, rfl⟩
      have hgt : g = t := by
        have h1 := val_dig g
        have : dig g = [t] := by
          rw [List.length_eq_one_iff] at hn5
          obtain ⟨z, hz⟩ := hn5
          rw [hz] at ht ⊢
          simp at ht
          rw [ht]
        rw [this] at h1
        simp [val] at h1
        exact h1.symm
      have HT := Aside.mk ht
      have hti : ((t : Int) == 1) = (t == 1) := by
        by_cases h : t = 1
        · subst h; rfl
        · rw [show (t == 1) = false from by simp [h]]; simp; omega
      rw [hgt]
      clear hn5 ht hgt
      cases neg
      · go_enter Tryz.func49, Tryz.ntmps49
        go_wp2_with (first | (go_at_call 70; with_reducible refine (isnat_b (HX.out.ext hk0.1.out) HB1.out).mono ?_; rintro e w1 ⟨rfl, he⟩; have hk1 := KeepB.ext he hk0; clear hk0 he) | (go_at_call 70; with_reducible refine (isnat_b (HY.out.ext hk1.1.out) HB2.out).mono ?_; rintro e w2 ⟨rfl, he⟩; have hk2 := KeepB.ext he hk1; clear hk1 he) | (go_at_call 109; with_reducible refine (long_b (HX.out.ext hk2.1.out) HN1.out HL1.out).mono ?_; rintro e w3 ⟨rfl, he⟩; have hk3 := KeepB.ext he hk2; clear hk2 he) | (go_at_call 109; with_reducible refine (long_b (HY.out.ext hk3.1.out) HN2.out HL2.out).mono ?_; rintro e w4 ⟨rfl, he⟩; have hk4 := KeepB.ext he hk3; clear hk3 he) | (go_at_call 110; with_reducible refine (gcd_b (HX.out.ext hk4.1.out) (HY.out.ext hk4.1.out) HN1.out HN2.out HG.out).mono ?_; rintro e w5 ⟨r, rfl, hr, he⟩; have hk5 := KeepB.ext he hk4; obtain ⟨g5, c5, rfl, _, _, hc5, _⟩ := hr.row (by rw [HN5.out]; exact Nat.one_pos); rw [HN5.out] at hr ⊢; have hcell := hr.cell 0 (by rw [HN5.out]; exact Nat.one_pos); rw [HT.out] at hcell; clear hk4 hr he))
        go_ret
        exact ⟨by simp, hk5.1.out⟩
      · have hxz' := hxz rfl
        go_enter Tryz.func49, Tryz.ntmps49
        go_wp2_with (first | (go_at_call 70; with_reducible refine (isnat_b (HX.out.ext hk0.1.out) HB1.out).mono ?_; rintro e w1 ⟨rfl, he⟩; have hk1 := KeepB.ext he hk0; clear hk0 he) | (go_at_call 70; with_reducible refine (isnat_b (HY.out.ext hk1.1.out) HB2.out).mono ?_; rintro e w2 ⟨rfl, he⟩; have hk2 := KeepB.ext he hk1; clear hk1 he) | (go_at_call 109; with_reducible refine (long_b (HX.out.ext hk2.1.out) HN1.out HL1.out).mono ?_; rintro e w3 ⟨rfl, he⟩; have hk3 := KeepB.ext he hk2; clear hk2 he) | (go_at_call 109; with_reducible refine (long_b (HY.out.ext hk3.1.out) HN2.out HL2.out).mono ?_; rintro e w4 ⟨rfl, he⟩; have hk4 := KeepB.ext he hk3; clear hk3 he) | (go_at_call 110; with_reducible refine (gcd_b (HX.out.ext hk4.1.out) (HY.out.ext hk4.1.out) HN1.out HN2.out HG.out).mono ?_; rintro e w5 ⟨r, rfl, hr, he⟩; have hk5 := KeepB.ext he hk4; obtain ⟨g5, c5, rfl, _, _, hc5, _⟩ := hr.row (by rw [HN5.out]; exact Nat.one_pos); rw [HN5.out] at hr ⊢; have hcell := hr.cell 0 (by rw [HN5.out]; exact Nat.one_pos); rw [HT.out] at hcell; clear hk4 hr he))
        go_ret
        exact ⟨by simp, hk5.1.out⟩
    · have hn51 : ((n5 : Int) == 1) = false := by simp; omega
      have hg1 : (g == 1) = false := by
        have : g ≠ 1 := by
          intro h; subst h
          apply hone
          rw [← hn5, dig_pos (by omega), show (1 : Nat) / 4294967296 = 0 from rfl, dig_zero]; rfl
        simp [this]
      rw [hg1]
      clear hn5 hone hg1
      cases neg
      · go_enter Tryz.func49, Tryz.ntmps49
        go_wp2_with (first | (go_at_call 70; with_reducible refine (isnat_b (HX.out.ext hk0.1.out) HB1.out).mono ?_; rintro e w1 ⟨rfl, he⟩; have hk1 := KeepB.ext he hk0; clear hk0 he) | (go_at_call 70; with_reducible refine (isnat_b (HY.out.ext hk1.1.out) HB2.out).mono ?_; rintro e w2 ⟨rfl, he⟩; have hk2 := KeepB.ext he hk1; clear hk1 he) | (go_at_call 109; with_reducible refine (long_b (HX.out.ext hk2.1.out) HN1.out HL1.out).mono ?_; rintro e w3 ⟨rfl, he⟩; have hk3 := KeepB.ext he hk2; clear hk2 he) | (go_at_call 109; with_reducible refine (long_b (HY.out.ext hk3.1.out) HN2.out HL2.out).mono ?_; rintro e w4 ⟨rfl, he⟩; have hk4 := KeepB.ext he hk3; clear hk3 he) | (go_at_call 110; with_reducible refine (gcd_b (HX.out.ext hk4.1.out) (HY.out.ext hk4.1.out) HN1.out HN2.out HG.out).mono ?_; rintro e w5 ⟨r, rfl, hr, he⟩; have hk5 := KeepB.ext he hk4; have HR := Aside.mk hr; obtain ⟨A5, c5, rfl, _⟩ := hr.form; rw [HN5.out] at HR ⊢; clear hk4 hr he))
        go_ret
        exact ⟨by simp, hk5.1.out⟩
      · have hxz' := hxz rfl
        go_enter Tryz.func49, Tryz.ntmps49
        go_wp2_with (first | (go_at_call 70; with_reducible refine (isnat_b (HX.out.ext hk0.1.out) HB1.out).mono ?_; rintro e w1 ⟨rfl, he⟩; have hk1 := KeepB.ext he hk0; clear hk0 he) | (go_at_call 70; with_reducible refine (isnat_b (HY.out.ext hk1.1.out) HB2.out).mono ?_; rintro e w2 ⟨rfl, he⟩; have hk2 := KeepB.ext he hk1; clear hk1 he) | (go_at_call 109; with_reducible refine (long_b (HX.out.ext hk2.1.out) HN1.out HL1.out).mono ?_; rintro e w3 ⟨rfl, he⟩; have hk3 := KeepB.ext he hk2; clear hk2 he) | (go_at_call 109; with_reducible refine (long_b (HY.out.ext hk3.1.out) HN2.out HL2.out).mono ?_; rintro e w4 ⟨rfl, he⟩; have hk4 := KeepB.ext he hk3; clear hk3 he) | (go_at_call 110; with_reducible refine (gcd_b (HX.out.ext hk4.1.out) (HY.out.ext hk4.1.out) HN1.out HN2.out HG.out).mono ?_; rintro e w5 ⟨r, rfl, hr, he⟩; have hk5 := KeepB.ext he hk4; have HR := Aside.mk hr; obtain ⟨A5, c5, rfl, _⟩ := hr.form; rw [HN5.out] at HR ⊢; clear hk4 hr he))
        go_ret
        exact ⟨by simp, hk5.1.out⟩
  · have hf0 : (f == 0) = false := by simp [hf]
    have HS : Aside (okq ⟨f, neg, xs, ys⟩ = ((f == 4 || f == 11) && !neg && decide (xs.length + ys.length = 0))) := ⟨by simp [okq, hf]⟩
    have HK := Aside.mk hk0.1.out
    have hsum : (((xs.length : Int) + (ys.length : Int)) == 0) = decide (xs.length + ys.length = 0) := by
      by_cases h0 : xs.length + ys.length = 0
      · rw [decide_eq_true h0]; simp; omega
      · rw [decide_eq_false h0]; simp; omega
    generalize hdd : decide (xs.length + ys.length = 0) = dd at *
    rw [HS.out]
    clear hdd HS
    generalize hxn : xs.length = nx at *
    generalize hyn : ys.length = ny at *
    have HXN := Aside.mk hxn
    have HYN := Aside.mk hyn
    clear hf hxn hyn
    cases hif : (f == 4 || f == 11)
    · go_enter Tryz.func49, Tryz.ntmps49
      go_wp2_with (go_at_call 108; refine isfault_calls.mono ?_; rw [hif]; rintro e w1 ⟨rfl, rfl⟩)
      go_ret
      exact ⟨rfl, HK.out⟩
    · cases neg
      · go_enter Tryz.func49, Tryz.ntmps49
        go_wp2_with (go_at_call 108; refine isfault_calls.mono ?_; rw [hif]; rintro e w1 ⟨rfl, rfl⟩)
        go_ret
        exact ⟨by simp, HK.out⟩
      · go_enter Tryz.func49, Tryz.ntmps49
        go_wp2_with (go_at_call 108; refine isfault_calls.mono ?_; rw [hif]; rintro e w1 ⟨rfl, rfl⟩)
        go_ret
        exact ⟨rfl, HK.out⟩
end Go.Proofs.YtgfkachfbnbikaaGreatDoor

namespace Go.Proofs.YtgfkachfbnbikaaGreatDoor
open Go.RowKit

/-- Is a bit valid? -/
def okb (f : Int) (on : Bool) : Bool := f == 0 || (f == 4 || f == 11) && !on

theorem isbit_calls {w : World} {f : Int} {on : Bool} :
    Calls Tryz.prog 50 #[.agg #[.int .i64 f, .bool on]] w fun e w' => e = .returned (.bool (okb f on)) ∧ Ext w w' := by
  unfold okb
  cases h0 : (f == 0)
  · cases hif : (f == 4 || f == 11)
    · go_enter Tryz.func50, Tryz.ntmps50
      go_wp2_with (go_at_call 108; refine isfault_calls.mono ?_; rw [hif]; rintro e w1 ⟨rfl, rfl⟩)
      go_ret
      exact ⟨by simp, (Ext.refl w).alloc _⟩
    · cases on
      · go_enter Tryz.func50, Tryz.ntmps50
        go_wp2_with (go_at_call 108; refine isfault_calls.mono ?_; rw [hif]; rintro e w1 ⟨rfl, rfl⟩)
        go_ret
        exact ⟨by simp, (Ext.refl w).alloc _⟩
      · go_enter Tryz.func50, Tryz.ntmps50
        go_wp2_with (go_at_call 108; refine isfault_calls.mono ?_; rw [hif]; rintro e w1 ⟨rfl, rfl⟩)
        go_ret
        exact ⟨by simp, (Ext.refl w).alloc _⟩
  · go_enter Tryz.func50, Tryz.ntmps50
    go_wp2
    go_ret
    exact ⟨by simp, (Ext.refl w).alloc _⟩

/-- The least fault of two, or 0. -/
def leastq (a b : Int) : Int := if a = 0 ∨ b ≠ 0 ∧ b < a then b else a

set_option maxHeartbeats 400000 in
theorem least_calls {w : World} {a b : Int} {t : TypeId} :
    Calls Tryz.prog 146 #[.slice (some ⟨w.heap.size, 0, none⟩) 2 2] (w.alloc (.cells #[.int .i64 a, .int .i64 b] t)) fun e w' => e = .returned (.int .i64 (leastq a b)) ∧ Ext w w' := by
  have hc0 : (w.alloc (.cells #[.int .i64 a, .int .i64 b] t)).cell? ⟨w.heap.size, 0, none⟩ = some (.int .i64 a) := cell_new rfl rfl
  have hc1 : (w.alloc (.cells #[.int .i64 a, .int .i64 b] t)).cell? ⟨w.heap.size, 1, none⟩ = some (.int .i64 b) := cell_new rfl rfl
  have HE : Aside (Ext w (w.alloc (.cells #[.int .i64 a, .int .i64 b] t))) := ⟨(Ext.refl w).alloc _⟩
  generalize w.alloc (.cells #[.int .i64 a, .int .i64 b] t) = W at *
  generalize w.heap.size = g at *
  go_enter Tryz.func146, Tryz.ntmps146
  go_wp2
  go_loop [3, 8] (fun o i => (o = .int .i64 0 ∧ i = .int .i64 0) ∨ (o = .int .i64 a ∧ i = .int .i64 1) ∨ (o = .int .i64 (leastq a b) ∧ i = .int .i64 2)) (fun _ i => 2 - (intOf i).toNat)
  case atStart => exact .inl ⟨rfl, rfl⟩
  case round =>
    rcases hrel with ⟨rfl, rfl⟩ | ⟨rfl, rfl⟩ | ⟨rfl, rfl⟩
    · by_cases ha : a = 0
      · subst ha
        go_wp2
        go_round
        case rel => exact .inr (.inl ⟨rfl, rfl⟩)
        case measure => simp [intOf]
      · have ha0 : (a == 0) = false := by simp [ha]
        have ha1 : (a != 0) = true := by simp [ha]
        clear ha
        go_wp2
        go_round
        case rel => exact .inr (.inl ⟨rfl, rfl⟩)
        case measure => simp [intOf]
    · by_cases hb : b = 0
      · subst hb
        have HL : Aside (leastq a 0 = a) := ⟨by unfold leastq; by_cases h : a = 0 <;> simp [h]⟩
        go_wp2
        go_round
        case rel => exact .inr (.inr ⟨by rw [HL.out], rfl⟩)
        case measure => simp [intOf]
      · have hb0 : (b == 0) = false := by simp [hb]
        have hb1 : (b != 0) = true := by simp [hb]
        by_cases ha : a = 0
        · subst ha
          have HL : Aside (leastq 0 b = b) := ⟨by simp [leastq]⟩
          clear hb
          go_wp2
          go_round
          case rel => exact .inr (.inr ⟨by rw [HL.out], rfl⟩)
          case measure => simp [intOf]
        · have ha0 : (a == 0) = false := by simp [ha]
          by_cases hlt : b < a
          · have HL : Aside (leastq a b = b) := ⟨by simp [leastq, ha, hb, hlt]⟩
            have hd : decide (b < a) = true := by simp [hlt]
            clear hb ha hlt
            go_wp2
            go_round
            case rel => exact .inr (.inr ⟨by rw [HL.out], rfl⟩)
            case measure => simp [intOf]
          · have HL : Aside (leastq a b = a) := ⟨by simp [leastq, ha, hb, hlt]⟩
            have hd : decide (b < a) = false := by simp; omega
            clear hb ha hlt
            go_wp2
            go_round
            case rel => exact .inr (.inr ⟨by rw [HL.out], rfl⟩)
            case measure => simp [intOf]
    · go_wp2
      go_ret
      exact ⟨rfl, HE.out⟩

/-- The result of a function of two Rats that asks for valid ones. -/
def madeq (a b res : Rq) : Rq × Int := if okq a && okq b then (if leastq a.f b.f = 0 then res else fq (leastq a.f b.f), 0) else (fq 0, 5)

abbrev KeepM (w : World) (x0 x1 x2 x3 y0 y1 y2 y3 : Value) (w' : World) : Prop :=
  Aside (Ext w w') ∧ (w'.cell? ⟨w.heap.size, 0, none⟩ = some x0 ∧ w'.cell? ⟨w.heap.size, 1, none⟩ = some x1 ∧ w'.cell? ⟨w.heap.size, 2, none⟩ = some x2 ∧ w'.cell? ⟨w.heap.size, 3, none⟩ = some x3) ∧
    (w'.cell? ⟨w.heap.size + 1, 0, none⟩ = some y0 ∧ w'.cell? ⟨w.heap.size + 1, 1, none⟩ = some y1 ∧ w'.cell? ⟨w.heap.size + 1, 2, none⟩ = some y2 ∧ w'.cell? ⟨w.heap.size + 1, 3, none⟩ = some y3) ∧
    (Fits w' ⟨w.heap.size + 2, 0, none⟩ ∧ Fits w' ⟨w.heap.size + 2, 1, none⟩ ∧ Fits w' ⟨w.heap.size + 2, 2, none⟩ ∧ Fits w' ⟨w.heap.size + 2, 3, none⟩)
theorem KeepM.ext {w w1 w2 : World} {x0 x1 x2 x3 y0 y1 y2 y3 : Value} (e : Ext w1 w2) (h : KeepM w x0 x1 x2 x3 y0 y1 y2 y3 w1) : KeepM w x0 x1 x2 x3 y0 y1 y2 y3 w2 :=
  ⟨⟨h.1.out.trans e⟩, ⟨e.cell h.2.1.1, e.cell h.2.1.2.1, e.cell h.2.1.2.2.1, e.cell h.2.1.2.2.2⟩, ⟨e.cell h.2.2.1.1, e.cell h.2.2.1.2.1, e.cell h.2.2.1.2.2.1, e.cell h.2.2.1.2.2.2⟩, ⟨h.2.2.2.1.ext e, h.2.2.2.2.1.ext e, h.2.2.2.2.2.1.ext e, h.2.2.2.2.2.2.ext e⟩⟩
theorem KeepM.init (w : World) (x0 x1 x2 x3 y0 y1 y2 y3 z0 z1 z2 z3 : Value) (t t' t'' : TypeId) : KeepM w x0 x1 x2 x3 y0 y1 y2 y3 (((w.alloc (.cells #[x0, x1, x2, x3] t)).alloc (.cells #[y0, y1, y2, y3] t')).alloc (.cells #[z0, z1, z2, z3] t'')) :=
  ⟨⟨(((Ext.refl w).alloc _).alloc _).alloc _⟩, ⟨cell_old (cell_old (cell_new rfl rfl)), cell_old (cell_old (cell_new rfl rfl)), cell_old (cell_old (cell_new rfl rfl)), cell_old (cell_old (cell_new rfl rfl))⟩,
    ⟨cell_old (cell_new (by simp) rfl), cell_old (cell_new (by simp) rfl), cell_old (cell_new (by simp) rfl), cell_old (cell_new (by simp) rfl)⟩,
    ⟨fits_new (v := z0) (by simp) rfl, fits_new (v := z1) (by simp) rfl, fits_new (v := z2) (by simp) rfl, fits_new (v := z3) (by simp) rfl⟩⟩
theorem KeepM.set {w w1 : World} {x0 x1 x2 x3 y0 y1 y2 y3 : Value} (h : KeepM w x0 x1 x2 x3 y0 y1 y2 y3 w1) (j : Nat) (v : Value) : KeepM w x0 x1 x2 x3 y0 y1 y2 y3 (w1.setCell ⟨w.heap.size + 2, j, none⟩ v) :=
  ⟨⟨h.1.out.set (by show w.heap.size ≤ w.heap.size + 2; omega) v⟩, ⟨cell_other h.2.1.1 (by omega), cell_other h.2.1.2.1 (by omega), cell_other h.2.1.2.2.1 (by omega), cell_other h.2.1.2.2.2 (by omega)⟩, ⟨cell_other h.2.2.1.1 (by omega), cell_other h.2.2.1.2.1 (by omega), cell_other h.2.2.1.2.2.1 (by omega), cell_other h.2.2.1.2.2.2 (by omega)⟩,
    ⟨h.2.2.2.1.set _ _, h.2.2.2.2.1.set _ _, h.2.2.2.2.2.1.set _ _, h.2.2.2.2.2.2.set _ _⟩⟩

theorem RR.form {w : World} {v : Value} {q : Rq} (h : RR w v q) : ∃ A c B d, v = .agg #[.int .i64 q.f, .bool q.neg, .slice A q.num.length c, .slice B q.den.length d] := by
  obtain ⟨x, y, rfl, ⟨A, c, rfl, _⟩, ⟨B, d, rfl, _⟩⟩ := h
  exact ⟨A, c, B, d, rfl⟩

theorem israt_b {w : World} {v : Value} {q : Rq} {b : Bool} (h : RR w v q) (hb : okq q = b) :
    Calls Tryz.prog 49 #[v] w fun e w' => e = .returned (.bool b) ∧ Ext w w' := by subst hb; exact israt_calls h

set_option maxRecDepth 10000 in
set_option maxHeartbeats 1000000 in
theorem made_calls {w : World} {F : FuncId} {u v : Value} {a b res : Rq} (hC : ∀ args w, Sem.run Tryz.prog (callFunc F args) w = .ok (.enter F args) w) (ha : RR w u a) (hb : RR w v b)
    (hF : okq a = true → okq b = true → leastq a.f b.f = 0 → ∀ w', Ext w w' → Calls Tryz.prog F #[u, v] w' fun e w'' => ∃ r, e = .returned r ∧ RO w'.heap.size w'' r res ∧ Ext w' w'') :
    Calls Tryz.prog 94 #[u, v, .func (.func F) #[] #[]] w fun e w' => ∃ r, e = .returned (.tuple #[r, .int .i64 (madeq a b res).2]) ∧ RO w.heap.size w' r (madeq a b res).1 ∧ Ext w w' := by
  have HA := Aside.mk ha
  have HB := Aside.mk hb
  have HF := Aside.mk hF
  obtain ⟨A, ca, B, cb, rfl⟩ := ha.form
  obtain ⟨C, cc, D, cd, rfl⟩ := hb.form
  clear ha hb hF
  obtain ⟨fa, na, xa, ya⟩ := a
  obtain ⟨fb, nb, xb, yb⟩ := b
  dsimp only at *
  generalize xa.length = lxa at *
  generalize ya.length = lya at *
  generalize xb.length = lxb at *
  generalize yb.length = lyb at *
  have hk0 := KeepM.init w (.int .i64 fa) (.bool na) (.slice A lxa ca) (.slice B lya cb) (.int .i64 fb) (.bool nb) (.slice C lxb cc) (.slice D lyb cd) (.int .i64 0) (.bool false) (.slice none 0 0) (.slice none 0 0) 26 26 26
  cases hoa : okq ⟨fa, na, xa, ya⟩
  · have HOA := Aside.mk hoa
    have HM : Aside (madeq ⟨fa, na, xa, ya⟩ ⟨fb, nb, xb, yb⟩ res = (fq 0, 5)) := ⟨by simp [madeq, hoa]⟩
    rw [HM.out]
    clear hoa
    go_enter Tryz.func94, Tryz.ntmps94
    go_wp2_with (go_at_call 49; refine (israt_b (HA.out.ext hk0.1.out) HOA.out).mono ?_; rintro e w1 ⟨rfl, he⟩; have hk1 := KeepM.ext he hk0; clear hk0 he)
    have HK := Aside.mk hk1
    refine bodyPost_ret (v := .tuple #[.agg #[.int .i64 0, .bool false, .slice none 0 0, .slice none 0 0], .int .i64 5]) (by simp [results, Tryz.results94, go_sem, hk1]) rfl ⟨_, rfl, RO.fq _ _ _, ext_set4 HK.out.1.out (by omega) _ _ _ _⟩
  · cases hob : okq ⟨fb, nb, xb, yb⟩
    · have HOA := Aside.mk hoa
      have HOB := Aside.mk hob
      have HM : Aside (madeq ⟨fa, na, xa, ya⟩ ⟨fb, nb, xb, yb⟩ res = (fq 0, 5)) := ⟨by simp [madeq, hob]⟩
      rw [HM.out]
      clear hoa hob
      go_enter Tryz.func94, Tryz.ntmps94
      go_wp2_with (first | (go_at_call 49; refine (israt_b (HA.out.ext hk0.1.out) HOA.out).mono ?_; rintro e w1 ⟨rfl, he⟩; have hk1 := KeepM.ext he hk0; clear hk0 he) | (go_at_call 49; refine (israt_b (HB.out.ext hk1.1.out) HOB.out).mono ?_; rintro e w2 ⟨rfl, he⟩; have hk2 := KeepM.ext he hk1; clear hk1 he))
      have HK := Aside.mk hk2
      refine bodyPost_ret (v := .tuple #[.agg #[.int .i64 0, .bool false, .slice none 0 0, .slice none 0 0], .int .i64 5]) (by simp [results, Tryz.results94, go_sem, hk2]) rfl ⟨_, rfl, RO.fq _ _ _, ext_set4 HK.out.1.out (by omega) _ _ _ _⟩
    · have HOA := Aside.mk hoa
      have HOB := Aside.mk hob
      obtain ⟨l, hl⟩ : ∃ l, leastq fa fb = l := ⟨_, rfl⟩
      have HL := Aside.mk hl
      by_cases hz : l = 0
      · subst hz
        have HM : Aside (madeq ⟨fa, na, xa, ya⟩ ⟨fb, nb, xb, yb⟩ res = (res, 0)) := ⟨by simp [madeq, hoa, hob, hl]⟩
        rw [HM.out]
        clear hoa hob hl
        go_enter Tryz.func94, Tryz.ntmps94
        go_wp2_with (first | (go_at_call 49; refine (israt_b (HA.out.ext hk0.1.out) HOA.out).mono ?_; rintro e w1 ⟨rfl, he⟩; have hk1 := KeepM.ext he hk0; clear hk0 he) | (go_at_call 49; refine (israt_b (HB.out.ext hk1.1.out) HOB.out).mono ?_; rintro e w2 ⟨rfl, he⟩; have hk2 := KeepM.ext he hk1; clear hk1 he) | (go_at_call 146; refine (least_calls (w := w2)).mono ?_; rw [HL.out]; rintro e w3 ⟨rfl, he⟩; have hk3 := KeepM.ext he hk2; clear hk2 he))
        refine (HF.out HOA.out HOB.out HL.out w3 hk3.1.out).mono ?_
        rintro e w4 ⟨r, rfl, hr, he⟩
        have hk4 := KeepM.ext he hk3
        have hzz := World.block_lt_of_cell? _ _ hk3.2.2.2.1.1
        have HZ := Aside.mk hzz
        have HR := Aside.mk hr
        obtain ⟨A3, c3, A4, c4, rfl⟩ := hr.form
        clear hk3 hr he hzz
        go_wp2
        have HK := Aside.mk hk4
        refine bodyPost_ret (v := .tuple #[.agg #[.int .i64 res.f, .bool res.neg, .slice A3 res.num.length c3, .slice A4 res.den.length c4], .int .i64 0]) (by simp [results, Tryz.results94, go_sem, hk4]) rfl ⟨_, rfl, ?_, ?_⟩
        · exact (HR.out.set4 HZ.out _ _ _ _).mono (by have h : w.heap.size + 2 < w3.heap.size := HZ.out; omega)
        · exact ext_set4 HK.out.1.out (by omega) _ _ _ _
      · have HM : Aside (madeq ⟨fa, na, xa, ya⟩ ⟨fb, nb, xb, yb⟩ res = (fq l, 0)) := ⟨by simp [madeq, hoa, hob, hl, hz]⟩
        have hl0 : (l == 0) = false := by simp [hz]
        have hl1 : (l != 0) = true := by simp [hz]
        rw [HM.out]
        clear hoa hob hl hz
        go_enter Tryz.func94, Tryz.ntmps94
        go_wp2_with (first | (go_at_call 49; refine (israt_b (HA.out.ext hk0.1.out) HOA.out).mono ?_; rintro e w1 ⟨rfl, he⟩; have hk1 := KeepM.ext he hk0; clear hk0 he) | (go_at_call 49; refine (israt_b (HB.out.ext hk1.1.out) HOB.out).mono ?_; rintro e w2 ⟨rfl, he⟩; have hk2 := KeepM.ext he hk1; clear hk1 he) | (go_at_call 146; refine (least_calls (w := w2)).mono ?_; rw [HL.out]; rintro e w3 ⟨rfl, he⟩; have hk3 := KeepM.ext he hk2; clear hk2 he) | (go_at_call 79; refine fault_calls.mono ?_; rintro e w4 ⟨rfl, he⟩; have hk4 := KeepM.ext he hk3; clear hk3 he))
        have HK := Aside.mk hk4
        refine bodyPost_ret (v := .tuple #[.agg #[.int .i64 l, .bool false, .slice none 0 0, .slice none 0 0], .int .i64 0]) (by simp [results, Tryz.results94, go_sem, hk4]) rfl ⟨_, rfl, RO.fq _ _ _, ?_⟩
        exact ext_set4 HK.out.1.out (by omega) _ _ _ _
end Go.Proofs.YtgfkachfbnbikaaGreatDoor
