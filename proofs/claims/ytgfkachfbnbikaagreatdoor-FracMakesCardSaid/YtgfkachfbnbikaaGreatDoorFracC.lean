/- Contracts of package frac: quotient, Make, Of. -/
import Derived.Test.YtgfkachfbnbikaaGreatDoorFracB
namespace Go.Proofs.YtgfkachfbnbikaaGreatDoor
open Go.RowKit

theorem NV.of {w : World} {v : Value} {a : Nat} (h : RV w v (dig a)) (h' : (dig a).length ≤ 512) : NV w v a := ⟨h, h'⟩

/-- A Rat's fields. -/
structure Rq where
  f : Int
  neg : Bool
  num : List Nat
  den : List Nat
deriving DecidableEq
/-- A fault. -/
def fq (f : Int) : Rq := ⟨f, false, [], []⟩
/-- A value that reads as a Rat. -/
def RR (w : World) (v : Value) (q : Rq) : Prop := ∃ x y, v = .agg #[.int .i64 q.f, .bool q.neg, x, y] ∧ RV w x q.num ∧ RV w y q.den
/-- .. the lists of which are the call's own. -/
def RO (b : Nat) (w : World) (v : Value) (q : Rq) : Prop := ∃ x y, v = .agg #[.int .i64 q.f, .bool q.neg, x, y] ∧ OV b w x q.num ∧ OV b w y q.den
theorem RO.rr {b : Nat} {w : World} {v : Value} {q : Rq} (h : RO b w v q) : RR w v q := let ⟨x, y, e, h1, h2⟩ := h; ⟨x, y, e, h1.rv, h2.rv⟩
theorem RO.mono {b b' : Nat} {w : World} {v : Value} {q : Rq} (h : RO b w v q) (hb : b' ≤ b) : RO b' w v q := let ⟨x, y, e, h1, h2⟩ := h; ⟨x, y, e, h1.mono hb, h2.mono hb⟩
theorem RO.ext {b : Nat} {w w' : World} {v : Value} {q : Rq} (h : RO b w v q) (e : Ext w w') : RO b w' v q := let ⟨x, y, e', h1, h2⟩ := h; ⟨x, y, e', h1.ext e, h2.ext e⟩
theorem RO.set {b : Nat} {w : World} {v : Value} {q : Rq} (h : RO b w v q) {p : Addr} (hp : p.block < b) (u : Value) : RO b (w.setCell p u) v q := let ⟨x, y, e', h1, h2⟩ := h; ⟨x, y, e', h1.set hp u, h2.set hp u⟩
theorem RR.ext {w w' : World} {v : Value} {q : Rq} (h : RR w v q) (e : Ext w w') : RR w' v q := let ⟨x, y, e', h1, h2⟩ := h; ⟨x, y, e', h1.ext e, h2.ext e⟩
theorem RO.fq (b : Nat) (w : World) (f : Int) : RO b w (.agg #[.int .i64 f, .bool false, .slice none 0 0, .slice none 0 0]) (fq f) := ⟨_, _, rfl, OV.nil _ _, OV.nil _ _⟩

/-- The number num / den, or a fault. -/
def ratio (neg : Bool) (a b : Nat) : Rq :=
  if b = 0 then fq 11
  else if isLong (a / Nat.gcd a b) || isLong (b / Nat.gcd a b) then fq 4
  else ⟨0, neg && decide (0 < a), dig (a / Nat.gcd a b), dig (b / Nat.gcd a b)⟩

theorem gcd_div_pos {a b : Nat} (_hb : 0 < b) : decide (0 < a / Nat.gcd a b) = decide (0 < a) := by
  rcases Nat.eq_zero_or_pos a with h | h
  · subst h; simp
  · have := Nat.div_pos (Nat.le_of_dvd h (Nat.gcd_dvd_left a b)) (Nat.gcd_pos_of_pos_left b h)
    simp [h, this]

/-- A box of two cells, and a result of four. -/
abbrev Keep24 (w : World) (x0 x1 : Value) (w' : World) : Prop :=
  Aside (Ext w w') ∧ w'.cell? ⟨w.heap.size, 0, none⟩ = some x0 ∧ w'.cell? ⟨w.heap.size, 1, none⟩ = some x1 ∧ Fits w' ⟨w.heap.size + 1, 0, none⟩ ∧ Fits w' ⟨w.heap.size + 1, 1, none⟩ ∧ Fits w' ⟨w.heap.size + 1, 2, none⟩ ∧ Fits w' ⟨w.heap.size + 1, 3, none⟩
theorem Keep24.ext {w w1 w2 : World} {x0 x1 : Value} (e : Ext w1 w2) (h : Keep24 w x0 x1 w1) : Keep24 w x0 x1 w2 :=
  ⟨⟨h.1.out.trans e⟩, e.cell h.2.1, e.cell h.2.2.1, h.2.2.2.1.ext e, h.2.2.2.2.1.ext e, h.2.2.2.2.2.1.ext e, h.2.2.2.2.2.2.ext e⟩
theorem Keep24.init (w : World) (x0 x1 z0 z1 z2 z3 : Value) (t t' : TypeId) : Keep24 w x0 x1 ((w.alloc (.cells #[x0, x1] t)).alloc (.cells #[z0, z1, z2, z3] t')) :=
  ⟨⟨((Ext.refl w).alloc _).alloc _⟩, cell_old (cell_new rfl rfl), cell_old (cell_new rfl rfl), fits_new (v := z0) (by simp) rfl, fits_new (v := z1) (by simp) rfl, fits_new (v := z2) (by simp) rfl, fits_new (v := z3) (by simp) rfl⟩

theorem ext_set4 {w w1 : World} {g : Nat} (h : Ext w w1) (hg : w.heap.size ≤ g) (v0 v1 v2 v3 : Value) :
    Ext w ((((w1.setCell ⟨g, 0, none⟩ v0).setCell ⟨g, 1, none⟩ v1).setCell ⟨g, 2, none⟩ v2).setCell ⟨g, 3, none⟩ v3) := (((h.set hg v0).set hg v1).set hg v2).set hg v3
theorem OV.set4 {b : Nat} {w : World} {v : Value} {xs : List Nat} (h : OV b w v xs) {g : Nat} (hg : g < b) (v0 v1 v2 v3 : Value) :
    OV b ((((w.setCell ⟨g, 0, none⟩ v0).setCell ⟨g, 1, none⟩ v1).setCell ⟨g, 2, none⟩ v2).setCell ⟨g, 3, none⟩ v3) v xs := (((h.set hg v0).set hg v1).set hg v2).set hg v3

set_option maxRecDepth 10000 in
set_option maxHeartbeats 1000000 in
theorem quotient_calls {w : World} {neg : Bool} {x y : Value} {a b : Nat} (hx : NV w x a) (hy : NV w y b) :
    Calls Tryz.prog 67 #[.agg #[.bool neg, x], y] w fun e w' => ∃ r, e = .returned r ∧ RO w.heap.size w' r (ratio neg a b) ∧ Ext w w' := by
  obtain ⟨A, c, n, rfl, hn5, hn⟩ := hx.form
  obtain ⟨B, d, m, rfl, hm5, hm⟩ := hy.form
  have HX := Aside.mk hx
  have HY := Aside.mk hy
  clear hx hy
  have hk0 := Keep24.init w (.bool neg) (.slice A n c) (.int .i64 0) (.bool false) (.slice none 0 0) (.slice none 0 0) 76 26
  rcases Nat.eq_zero_or_pos b with rfl | hb
  · have hm0 : m = 0 := by rw [hm.out, dig_zero]; rfl
    subst hm0
    have HS : Aside (ratio neg a 0 = fq 11) := ⟨by simp [ratio]⟩
    rw [HS.out]
    go_enter Tryz.func67, Tryz.ntmps67
    go_wp2_with (go_at_call 79; refine fault_calls.mono ?_; rintro e w1 ⟨rfl, he⟩; have hk := Keep24.ext he hk0; clear hk0)
    have HK := Aside.mk hk
    refine bodyPost_ret (v := .agg #[.int .i64 11, .bool false, .slice none 0 0, .slice none 0 0]) (by simp [results, Tryz.results67, go_sem, hk]) rfl ⟨_, rfl, RO.fq _ _ _, ?_⟩
    exact ext_set4 HK.out.1.out (Nat.le_succ _) _ _ _ _
  · have hm0 : 0 < m := by
      rw [hm.out]
      exact List.length_pos_iff.2 (fun h => by have := dig_nil_iff.1 h; omega)
    have hmne : ((m : Int) == 0) = false := by simp; omega
    obtain ⟨g, hg⟩ : ∃ g, Nat.gcd a b = g := ⟨_, rfl⟩
    have hg0 : 0 < g := by rw [← hg]; exact Nat.gcd_pos_of_pos_right a hb
    have HS : Aside (ratio neg a b = if isLong (a / g) || isLong (b / g) then fq 4 else ⟨0, neg && decide (0 < a), dig (a / g), dig (b / g)⟩) := ⟨by rw [ratio, if_neg (by omega), hg]⟩
    have HG0 := Aside.mk hg0
    have HGL : Aside ((dig g).length ≤ 512) := ⟨Nat.le_trans (dig_len_mono (by rw [← hg]; exact Nat.gcd_le_right a hb)) HY.out.2⟩
    have HAP : Aside (decide (0 < a / g) = decide (0 < a)) := ⟨by rw [← hg]; exact gcd_div_pos hb⟩
    have HG := Aside.mk hg
    clear hb hg hg0
    rw [HS.out]
    obtain ⟨na, hna⟩ : ∃ na, a / g = na := ⟨_, rfl⟩
    obtain ⟨nb, hnb⟩ : ∃ nb, b / g = nb := ⟨_, rfl⟩
    have HNA := Aside.mk hna
    have HNB := Aside.mk hnb
    rw [hna] at HAP
    rw [hna, hnb]
    have hlz : decide (0 < (dig na).length) = decide (0 < a) := by
      rw [← HAP.out]
      rcases Nat.eq_zero_or_pos na with h | h
      · subst h; rw [dig_zero]; rfl
      · have : 0 < (dig na).length := List.length_pos_iff.2 (fun h' => by have := dig_nil_iff.1 h'; omega)
        rw [decide_eq_true this, decide_eq_true h]
    generalize hda : decide (0 < a) = da at *
    have HLZ := Aside.mk hlz
    clear hna hnb hlz hda
    cases hla : isLong na
    · cases hlb : isLong nb
      · have HLA := Aside.mk hla
        have HLB := Aside.mk hlb
        clear hla hlb
        rw [if_neg (by simp)]
        cases neg
        · go_enter Tryz.func67, Tryz.ntmps67
          go_wp2_with (first | (go_at_call 110; refine (Gcd_calls (HX.out.ext hk0.1.out) (HY.out.ext hk0.1.out)).mono ?_; rw [HG.out]; rintro e w1 ⟨rg, rfl, hr, he⟩; have hk1 := Keep24.ext he hk0; have HZ1 := Aside.mk (World.block_lt_of_cell? _ _ hk1.2.2.2.1.1); have HR := Aside.mk hr; obtain ⟨A1, c1, rfl, _⟩ := hr.form; clear hk0 hr he) | (go_at_call 86; refine natural_calls.mono ?_; rintro e w' ⟨rfl, rfl⟩) | (go_at_call 104; with_reducible refine (Div_calls (HX.out.ext hk1.1.out) (NV.of HR.out.rv HGL.out) HG0.out).mono ?_; rw [HNA.out]; rintro e w2 ⟨q1, r1, rfl, hq, _, he⟩; have hk2 := Keep24.ext he hk1; have HQ1 := Aside.mk hq; obtain ⟨A2, c2, rfl, _⟩ := hq.form; have HE2 := Aside.mk he; clear hk1 hq he) | (go_at_call 104; with_reducible refine (Div_calls (HY.out.ext hk2.1.out) (NV.of (HR.out.ext HE2.out).rv HGL.out) HG0.out).mono ?_; rw [HNB.out]; rintro e w3 ⟨q2, r2, rfl, hq, _, he⟩; have hk3 := Keep24.ext he hk2; have HQ2 := Aside.mk hq; have HE3 := Aside.mk he; obtain ⟨A3, c3, rfl, _⟩ := hq.form; clear hk2 hq he) | (go_at_call 109; with_reducible refine (long_calls (HQ1.out.ext HE3.out).rv).mono ?_; rw [HLA.out]; rintro e w4 ⟨rfl, he⟩; have hk4 := Keep24.ext he hk3; have HE4 := Aside.mk he; clear hk3 he) | (go_at_call 109; with_reducible refine (long_calls (HQ2.out.ext HE4.out).rv).mono ?_; rw [HLB.out]; rintro e w5 ⟨rfl, he⟩; have hk5 := Keep24.ext he hk4; have HE5 := Aside.mk he; clear hk4 he))
          have HK := Aside.mk hk5
          have hlz := HLZ.out
          refine bodyPost_ret (v := .agg #[.int .i64 0, .bool (false && da), .slice A2 (dig na).length c2, .slice A3 (dig nb).length c3]) (by simp [results, Tryz.results67, go_sem, hk5]) rfl ⟨_, rfl, ⟨_, _, rfl, ?_, ?_⟩, ?_⟩
          · exact (((HQ1.out.ext (HE3.out.trans (HE4.out.trans HE5.out)))).set4 HZ1.out _ _ _ _).mono (by have := HZ1.out; omega)
          · exact ((HQ2.out.ext (HE4.out.trans HE5.out)).set4 (by have := HZ1.out; have := HE2.out.size; omega) _ _ _ _).mono (by have := HZ1.out; have := HE2.out.size; omega)
          · exact ext_set4 HK.out.1.out (Nat.le_succ _) _ _ _ _
        · go_enter Tryz.func67, Tryz.ntmps67
          go_wp2_with (first | (go_at_call 110; refine (Gcd_calls (HX.out.ext hk0.1.out) (HY.out.ext hk0.1.out)).mono ?_; rw [HG.out]; rintro e w1 ⟨rg, rfl, hr, he⟩; have hk1 := Keep24.ext he hk0; have HZ1 := Aside.mk (World.block_lt_of_cell? _ _ hk1.2.2.2.1.1); have HR := Aside.mk hr; obtain ⟨A1, c1, rfl, _⟩ := hr.form; clear hk0 hr he) | (go_at_call 86; refine natural_calls.mono ?_; rintro e w' ⟨rfl, rfl⟩) | (go_at_call 104; with_reducible refine (Div_calls (HX.out.ext hk1.1.out) (NV.of HR.out.rv HGL.out) HG0.out).mono ?_; rw [HNA.out]; rintro e w2 ⟨q1, r1, rfl, hq, _, he⟩; have hk2 := Keep24.ext he hk1; have HQ1 := Aside.mk hq; obtain ⟨A2, c2, rfl, _⟩ := hq.form; have HE2 := Aside.mk he; clear hk1 hq he) | (go_at_call 104; with_reducible refine (Div_calls (HY.out.ext hk2.1.out) (NV.of (HR.out.ext HE2.out).rv HGL.out) HG0.out).mono ?_; rw [HNB.out]; rintro e w3 ⟨q2, r2, rfl, hq, _, he⟩; have hk3 := Keep24.ext he hk2; have HQ2 := Aside.mk hq; have HE3 := Aside.mk he; obtain ⟨A3, c3, rfl, _⟩ := hq.form; clear hk2 hq he) | (go_at_call 109; with_reducible refine (long_calls (HQ1.out.ext HE3.out).rv).mono ?_; rw [HLA.out]; rintro e w4 ⟨rfl, he⟩; have hk4 := Keep24.ext he hk3; have HE4 := Aside.mk he; clear hk3 he) | (go_at_call 109; with_reducible refine (long_calls (HQ2.out.ext HE4.out).rv).mono ?_; rw [HLB.out]; rintro e w5 ⟨rfl, he⟩; have hk5 := Keep24.ext he hk4; have HE5 := Aside.mk he; clear hk4 he))
          have HK := Aside.mk hk5
          have hlz := HLZ.out
          refine bodyPost_ret (v := .agg #[.int .i64 0, .bool (true && da), .slice A2 (dig na).length c2, .slice A3 (dig nb).length c3]) (by simp [results, Tryz.results67, go_sem, hk5, hlz]) rfl ⟨_, rfl, ⟨_, _, rfl, ?_, ?_⟩, ?_⟩
          · exact (((HQ1.out.ext (HE3.out.trans (HE4.out.trans HE5.out)))).set4 HZ1.out _ _ _ _).mono (by have := HZ1.out; omega)
          · exact ((HQ2.out.ext (HE4.out.trans HE5.out)).set4 (by have := HZ1.out; have := HE2.out.size; omega) _ _ _ _).mono (by have := HZ1.out; have := HE2.out.size; omega)
          · exact ext_set4 HK.out.1.out (Nat.le_succ _) _ _ _ _
      · have HLA := Aside.mk hla
        have HLB := Aside.mk hlb
        clear hla hlb
        rw [if_pos (by simp)]
        go_enter Tryz.func67, Tryz.ntmps67
        go_wp2_with (first | (go_at_call 110; refine (Gcd_calls (HX.out.ext hk0.1.out) (HY.out.ext hk0.1.out)).mono ?_; rw [HG.out]; rintro e w1 ⟨rg, rfl, hr, he⟩; have hk1 := Keep24.ext he hk0; have HZ1 := Aside.mk (World.block_lt_of_cell? _ _ hk1.2.2.2.1.1); have HR := Aside.mk hr; obtain ⟨A1, c1, rfl, _⟩ := hr.form; clear hk0 hr he) | (go_at_call 86; refine natural_calls.mono ?_; rintro e w' ⟨rfl, rfl⟩) | (go_at_call 104; with_reducible refine (Div_calls (HX.out.ext hk1.1.out) (NV.of HR.out.rv HGL.out) HG0.out).mono ?_; rw [HNA.out]; rintro e w2 ⟨q1, r1, rfl, hq, _, he⟩; have hk2 := Keep24.ext he hk1; have HQ1 := Aside.mk hq; obtain ⟨A2, c2, rfl, _⟩ := hq.form; have HE2 := Aside.mk he; clear hk1 hq he) | (go_at_call 104; with_reducible refine (Div_calls (HY.out.ext hk2.1.out) (NV.of (HR.out.ext HE2.out).rv HGL.out) HG0.out).mono ?_; rw [HNB.out]; rintro e w3 ⟨q2, r2, rfl, hq, _, he⟩; have hk3 := Keep24.ext he hk2; have HQ2 := Aside.mk hq; have HE3 := Aside.mk he; obtain ⟨A3, c3, rfl, _⟩ := hq.form; clear hk2 hq he) | (go_at_call 109; with_reducible refine (long_calls (HQ1.out.ext HE3.out).rv).mono ?_; rw [HLA.out]; rintro e w4 ⟨rfl, he⟩; have hk4 := Keep24.ext he hk3; have HE4 := Aside.mk he; clear hk3 he) | (go_at_call 109; with_reducible refine (long_calls (HQ2.out.ext HE4.out).rv).mono ?_; rw [HLB.out]; rintro e w5 ⟨rfl, he⟩; have hk5 := Keep24.ext he hk4; have HE5 := Aside.mk he; clear hk4 he) | (go_at_call 79; refine fault_calls.mono ?_; rintro e w6 ⟨rfl, he⟩; have hk6 := Keep24.ext he hk5; clear hk5))
        have HK := Aside.mk hk6
        refine bodyPost_ret (v := .agg #[.int .i64 4, .bool false, .slice none 0 0, .slice none 0 0]) (by simp [results, Tryz.results67, go_sem, hk6]) rfl ⟨_, rfl, RO.fq _ _ _, ?_⟩
        exact ext_set4 HK.out.1.out (Nat.le_succ _) _ _ _ _
    · have HLA := Aside.mk hla
      clear hla
      rw [if_pos (by simp)]
      go_enter Tryz.func67, Tryz.ntmps67
      go_wp2_with (first | (go_at_call 110; refine (Gcd_calls (HX.out.ext hk0.1.out) (HY.out.ext hk0.1.out)).mono ?_; rw [HG.out]; rintro e w1 ⟨rg, rfl, hr, he⟩; have hk1 := Keep24.ext he hk0; have HZ1 := Aside.mk (World.block_lt_of_cell? _ _ hk1.2.2.2.1.1); have HR := Aside.mk hr; obtain ⟨A1, c1, rfl, _⟩ := hr.form; clear hk0 hr he) | (go_at_call 86; refine natural_calls.mono ?_; rintro e w' ⟨rfl, rfl⟩) | (go_at_call 104; with_reducible refine (Div_calls (HX.out.ext hk1.1.out) (NV.of HR.out.rv HGL.out) HG0.out).mono ?_; rw [HNA.out]; rintro e w2 ⟨q1, r1, rfl, hq, _, he⟩; have hk2 := Keep24.ext he hk1; have HQ1 := Aside.mk hq; obtain ⟨A2, c2, rfl, _⟩ := hq.form; have HE2 := Aside.mk he; clear hk1 hq he) | (go_at_call 104; with_reducible refine (Div_calls (HY.out.ext hk2.1.out) (NV.of (HR.out.ext HE2.out).rv HGL.out) HG0.out).mono ?_; rw [HNB.out]; rintro e w3 ⟨q2, r2, rfl, hq, _, he⟩; have hk3 := Keep24.ext he hk2; have HQ2 := Aside.mk hq; have HE3 := Aside.mk he; obtain ⟨A3, c3, rfl, _⟩ := hq.form; clear hk2 hq he) | (go_at_call 109; with_reducible refine (long_calls (HQ1.out.ext HE3.out).rv).mono ?_; rw [HLA.out]; rintro e w4 ⟨rfl, he⟩; have hk4 := Keep24.ext he hk3; have HE4 := Aside.mk he; clear hk3 he) | (go_at_call 79; refine fault_calls.mono ?_; rintro e w6 ⟨rfl, he⟩; have hk6 := Keep24.ext he hk4; clear hk4))
      have HK := Aside.mk hk6
      refine bodyPost_ret (v := .agg #[.int .i64 4, .bool false, .slice none 0 0, .slice none 0 0]) (by simp [results, Tryz.results67, go_sem, hk6]) rfl ⟨_, rfl, RO.fq _ _ _, ?_⟩
      exact ext_set4 HK.out.1.out (Nat.le_succ _) _ _ _ _
end Go.Proofs.YtgfkachfbnbikaaGreatDoor
