/- Contracts of package fluxionref01: Add. Contracts of package fluxionref02: signed, Add. Contracts of package frac: opposite. Contracts of package frac: Sub, Neg and their closures. Contracts of package fluxionref02: Neg, Sub. -/
import Derived.Test.YtgfkachfbnbikaaGreatDoorMe
import Derived.Test.YtgfkachfbnbikaaGreatDoorMo
import Derived.Test.YtgfkachfbnbikaaGreatDoorMk
import Derived.Test.YtgfkachfbnbikaaGreatDoorMj
namespace Go.Proofs.YtgfkachfbnbikaaGreatDoor
open Go.RowKit

theorem add_step {X Y Z P a b c d e : Nat} (h : Z + P * c = X + Y) (hs : a + b + c = d + 4294967296 * e) :
    (Z + P * d) + (P * 4294967296) * e = (X + P * a) + (Y + P * b) := by
  have h1 : P * (a + b + c) = P * (d + 4294967296 * e) := by rw [hs]
  simp only [Nat.mul_add, ← Nat.mul_assoc] at h1
  omega
theorem add_last {X Y Z P c m n k : Nat} (hX : X < 4294967296 ^ m) (hY : Y < 4294967296 ^ n) (hm : m + 1 ≤ k) (hn : n + 1 ≤ k) (hP : 4294967296 ^ k = P) (h : Z + P * c = X + Y) : Z = X + Y := by
  obtain ⟨j, rfl⟩ : ∃ j, k = j + 1 := ⟨k - 1, by omega⟩
  have h1 : 4294967296 ^ m ≤ 4294967296 ^ j := Nat.pow_le_pow_right (by decide) (by omega)
  have h2 : 4294967296 ^ n ≤ 4294967296 ^ j := Nat.pow_le_pow_right (by decide) (by omega)
  rw [Nat.pow_succ] at hP
  rcases Nat.eq_zero_or_pos c with rfl | hc
  · simpa using h
  · exfalso
    have h3 : P ≤ P * c := Nat.le_mul_of_pos_right _ hc
    omega
set_option maxHeartbeats 2000000 in
/-- Add is a sum. -/
theorem radd_calls {w : World} {u v : Value} {xs ys : List Nat} (hu : RV w u xs) (hv : RV w v ys) (hm : max xs.length ys.length < 1073741824) :
    Calls Tryz.prog 113 #[u, v] w fun e w' => ∃ r, e = .returned r ∧ OV w.heap.size w' r (dig (val xs + val ys)) ∧ Ext w w' := by
  obtain ⟨A, c, rfl, hc, hd, hr⟩ := id hu
  obtain ⟨B, d, rfl, hc', hd', hr'⟩ := id hv
  have HU := Aside.mk hu
  have HV := Aside.mk hv
  have hl : xs.length ≤ 1073741824 := hd.1
  have hl' : ys.length ≤ 1073741824 := hd'.1
  obtain ⟨m, hmm⟩ : ∃ m, max xs.length ys.length = m := ⟨_, rfl⟩
  have hmm' : max (xs.length : Int) (ys.length : Int) = (m : Int) := by omega
  have hm1 : m < 1073741824 := by omega
  have hxm : xs.length ≤ m := by omega
  have hym : ys.length ≤ m := by omega
  clear hu hv hd hd' hr hr' hmm hm
  go_enter Tryz.func113, Tryz.ntmps113
  go_wp2_with (refine make_u32 _ rfl _ _ rfl (m + 1) _ _ rfl rfl (by simp) (by simp) (by omega) ?_; intro w1 z hz0 hb1 hz1; subst hz1; have HZ0 := Aside.mk hz0; have HB0 := Aside.mk hb1; clear hz0 hb1)
  go_loopw [6, 7] (fun cr i wr => ∃ (k c : Nat) (zs : List Nat), k ≤ m + 1 ∧ i = .int .i64 (k : Int) ∧ cr = .int .u64 (c : Int) ∧ c ≤ 1 ∧ Aside (OV w.heap.size wr (.slice (some ⟨w.heap.size, 0, none⟩) (m + 1) (m + 1)) zs) ∧ Aside (Ext w wr) ∧ Aside (zs.length = m + 1) ∧
    Aside (val zs + 4294967296 ^ k * c = val (xs.take k) + val (ys.take k)) ∧ Aside (val zs < 4294967296 ^ k)) (fun _ i _ => m + 1 - (intOf i).toNat)
  case atStart => exact ⟨0, 0, _, Nat.zero_le _, rfl, rfl, by omega, HZ0, HB0, ⟨by simp⟩, ⟨by simp [val, val_zeros]⟩, ⟨by rw [val_zeros]; decide⟩⟩
  case round =>
    obtain ⟨k, cr, zs, hk, rfl, rfl, hcr, HZ, HB, HL, HS, HT⟩ := hrel
    by_cases hlt : k < m + 1
    · obtain ⟨x, hx⟩ : ∃ x, xs.getD k 0 = x := ⟨_, rfl⟩
      obtain ⟨y, hy⟩ : ∃ y, ys.getD k 0 = y := ⟨_, rfl⟩
      have hx4 : x < 4294967296 := hx ▸ HU.out.dg.get k
      have hy4 : y < 4294967296 := hy ▸ HV.out.dg.get k
      have HX := Aside.mk hx
      have HY := Aside.mk hy
      clear hx hy
      have hzc := HZ.out.cell k (by rw [HL.out]; exact hlt)
      have hzf := HZ.out.free k
      obtain ⟨s, hs⟩ : ∃ s, cr + (x + y) = s := ⟨_, rfl⟩
      obtain ⟨o, ho⟩ : ∃ o, s % 4294967296 = o := ⟨_, rfl⟩
      obtain ⟨h, hh⟩ : ∃ h, s / 4294967296 = h := ⟨_, rfl⟩
      have e1 : (x : Int) + (y : Int) + (cr : Int) = (s : Int) := by omega
      have e2 : (s : Int) % 4294967296 = (o : Int) := by omega
      have e3 : (s : Int) / 4294967296 = (h : Int) := by omega
      have HO4 : Aside (o < 4294967296) := ⟨by omega⟩
      have HO : Aside (x + y + cr = o + 4294967296 * h) := ⟨by omega⟩
      have hh1 : h ≤ 1 := by omega
      clear hs ho hh
      go_wp2_with (first | (go_at_call 106; with_reducible refine (rdigit_calls (v := .slice A xs.length c) (HU.out.ext HB.out) rfl HX.out).mono ?_; rintro e w' ⟨rfl, rfl⟩) | (go_at_call 106; with_reducible refine (rdigit_calls (v := .slice B ys.length d) (HV.out.ext HB.out) rfl HY.out).mono ?_; rintro e w' ⟨rfl, rfl⟩))
      go_roundw
      case rel =>
        have hsz := set_zero HT.out (show k < zs.length by rw [HL.out]; exact hlt) HO4.out
        refine ⟨k + 1, h, zs.set k o, by omega, by go_num, by first | rfl | congr 1, by omega, ⟨(HZ.out).store k HO4.out⟩, ⟨HB.out.set (Nat.le_refl _) _⟩, ⟨by simp [HL.out]⟩, ⟨?_⟩, ⟨hsz.2⟩⟩
        rw [val_take_step xs, val_take_step ys, HX.out, HY.out, hsz.1, Nat.pow_succ]
        exact add_step HS.out HO.out
      case measure => simp [intOf]; omega
    · have hkm : k = m + 1 := by omega
      subst hkm
      have HE : Aside (val zs = val xs + val ys) := ⟨by
        have h1 := HS.out
        rw [val_take_ge (by omega), val_take_ge (by omega)] at h1
        exact add_last (val_lt HU.out.dg.ds) (val_lt HV.out.dg.ds) (Nat.succ_le_succ hxm) (Nat.succ_le_succ hym) rfl h1⟩
      go_wp2_with (go_at_call 107; with_reducible refine (rshort_calls HZ.out).mono ?_; rintro e w' ⟨r, rfl, hr, rfl⟩; have HR := Aside.mk hr; clear hr)
      go_ret
      exact ⟨r, rfl, by rw [← HE.out]; exact HR.out, HB.out⟩
end Go.Proofs.YtgfkachfbnbikaaGreatDoor

namespace Go.Proofs.YtgfkachfbnbikaaGreatDoor
open Go.RowKit

theorem radd_n {w : World} {u v : Value} {a b m : Nat} (hu : RV w u (dig a)) (hv : RV w v (dig b)) (ha : (dig a).length < 1073741824) (hb : (dig b).length < 1073741824) (hm : a + b = m) :
    Calls Tryz.prog 113 #[u, v] w fun e w' => ∃ r, e = .returned r ∧ OV w.heap.size w' r (dig m) ∧ Ext w w' := by
  have h := radd_calls hu hv (by omega)
  rw [val_dig, val_dig, hm] at h
  exact h
theorem rsub_m {w : World} {u v : Value} {a b m : Nat} (hu : RV w u (dig a)) (hv : RV w v (dig b)) (h : b ≤ a) (hm : a - b = m) :
    Calls Tryz.prog 128 #[u, v] w fun e w' => ∃ r, e = .returned r ∧ OV w.heap.size w' r (dig m) ∧ Ext w w' := by
  subst hm
  exact rsub_n hu hv h
theorem rsigned_calls {w : World} {n1 n2 : Bool} {u v : Value} {a b m : Nat} {s : Bool} (hu : RV w u (dig a)) (hv : RV w v (dig b)) (ha : (dig a).length < 1073741824) (hb : (dig b).length < 1073741824) (hs : ssum n1 a n2 b = (s, m)) :
    Calls Tryz.prog 98 #[.bool n1, u, .bool n2, v] w fun e w' => ∃ r, e = .returned (.tuple #[.bool s, r]) ∧ OV w.heap.size w' r (dig m) ∧ Ext w w' := by
  have HU := Aside.mk hu
  have HV := Aside.mk hv
  have HA := Aside.mk ha
  have HB := Aside.mk hb
  by_cases hn : n1 = n2
  · subst hn
    have HS : Aside (n1 = s ∧ a + b = m) := ⟨by simpa [ssum] using hs⟩
    clear hu hv ha hb hs
    go_enter Tryz.func98, Tryz.ntmps98
    go_wp2_with (go_at_call 113; with_reducible refine (radd_n HU.out HV.out HA.out HB.out HS.out.2).mono ?_; rintro e w1 ⟨r, rfl, hr, he⟩; have HR := Aside.mk hr; have HE := Aside.mk he; clear hr he)
    obtain ⟨A1, c1, rfl, _⟩ := HR.out.form
    refine bodyPost_ret (v := .tuple #[.bool n1, .slice A1 (dig m).length c1]) (by simp [results, Tryz.results98, go_sem]) rfl ⟨_, by rw [HS.out.1], HR.out, HE.out⟩
  · have hne : (n1 == n2) = false := by simp [hn]
    rcases Nat.lt_or_ge a b with hab | hab
    · have HS : Aside (n2 = s ∧ b - a = m) := ⟨by simpa [ssum, hn, hab] using hs⟩
      have hcmp : decide (0 ≤ cmpN a b) = false := by simp [cmpN, hab]
      have HLE := Aside.mk (Nat.le_of_lt hab)
      clear hu hv ha hb hs hn hab
      go_enter Tryz.func98, Tryz.ntmps98
      go_wp2_with (first | (go_at_call 120; with_reducible refine (rcompare_calls HU.out HV.out).mono ?_; rintro e w4 ⟨rfl, he⟩; have HE4 := Aside.mk (Ext.of_drewN he); clear he) | (go_at_call 128; with_reducible refine (rsub_m (HV.out.ext HE4.out) (HU.out.ext HE4.out) HLE.out HS.out.2).mono ?_; rintro e w1 ⟨r, rfl, hr, he⟩; have HR := Aside.mk hr; have HE := Aside.mk he; clear hr he))
      obtain ⟨A1, c1, rfl, _⟩ := HR.out.form
      refine bodyPost_ret (v := .tuple #[.bool n2, .slice A1 (dig m).length c1]) (by simp [results, Tryz.results98, go_sem]) rfl ⟨_, by rw [HS.out.1], HR.out.mono HE4.out.size, HE4.out.trans HE.out⟩
    · have HS : Aside (n1 = s ∧ a - b = m) := ⟨by simpa [ssum, hn, Nat.not_lt.2 hab] using hs⟩
      have hcmp : decide (0 ≤ cmpN a b) = true := by
        unfold cmpN; rw [if_neg (by omega)]; split <;> rfl
      have HLE := Aside.mk hab
      clear hu hv ha hb hs hn hab
      go_enter Tryz.func98, Tryz.ntmps98
      go_wp2_with (first | (go_at_call 120; with_reducible refine (rcompare_calls HU.out HV.out).mono ?_; rintro e w4 ⟨rfl, he⟩; have HE4 := Aside.mk (Ext.of_drewN he); clear he) | (go_at_call 128; with_reducible refine (rsub_m (HU.out.ext HE4.out) (HV.out.ext HE4.out) HLE.out HS.out.2).mono ?_; rintro e w1 ⟨r, rfl, hr, he⟩; have HR := Aside.mk hr; have HE := Aside.mk he; clear hr he))
      obtain ⟨A1, c1, rfl, _⟩ := HR.out.form
      refine bodyPost_ret (v := .tuple #[.bool n1, .slice A1 (dig m).length c1]) (by simp [results, Tryz.results98, go_sem]) rfl ⟨_, by rw [HS.out.1], HR.out.mono HE4.out.size, HE4.out.trans HE.out⟩

set_option maxRecDepth 10000 in
set_option maxHeartbeats 4000000 in
theorem rAdd_calls {w : World} {u v : Value} {a b q : Rq} (hu : RR w u a) (hv : RR w v b) (ka : okq a = true) (kb : okq b = true) (hq : (madeq a b (sumq a.neg (val a.num) (val a.den) b.neg (val b.num) (val b.den))).1 = q) :
    Calls Tryz.prog 37 #[u, v] w fun e w' => ∃ r, e = .returned r ∧ RO w.heap.size w' r q ∧ Ext w w' := by
  obtain ⟨hq0, hq1⟩ := made1 ka kb hq
  have HDA := Aside.mk hu.ds
  have HDB := Aside.mk hv.ds
  obtain ⟨x, y, rfl, hxa, hya⟩ := hu
  obtain ⟨x', y', rfl, hxb, hyb⟩ := hv
  obtain ⟨f1, n1, xs, ys⟩ := a
  obtain ⟨f2, n2, xs', ys'⟩ := b
  dsimp only at *
  obtain ⟨l, hl⟩ : ∃ l, leastq f1 f2 = l := ⟨_, rfl⟩
  have HL := Aside.mk hl
  rw [hl] at hq0 hq1
  have HXA := Aside.mk hxa
  have HYA := Aside.mk hya
  have HXB := Aside.mk hxb
  have HYB := Aside.mk hyb
  obtain ⟨A, ca, rfl, _⟩ := hxa
  obtain ⟨B, cb, rfl, _⟩ := hya
  obtain ⟨C, cc, rfl, _⟩ := hxb
  obtain ⟨D, cd, rfl, _⟩ := hyb
  obtain ⟨lxa, e1⟩ : ∃ n, xs.length = n := ⟨_, rfl⟩
  obtain ⟨lya, e2⟩ : ∃ n, ys.length = n := ⟨_, rfl⟩
  obtain ⟨lxb, e3⟩ : ∃ n, xs'.length = n := ⟨_, rfl⟩
  obtain ⟨lyb, e4⟩ : ∃ n, ys'.length = n := ⟨_, rfl⟩
  rw [e1] at HXA
  rw [e2] at HYA
  rw [e3] at HXB
  rw [e4] at HYB
  rw [e1, e2, e3, e4]
  have hk0 := KeepM.init w (.int .i64 f1) (.bool n1) (.slice A lxa ca) (.slice B lya cb) (.int .i64 f2) (.bool n2) (.slice C lxb cc) (.slice D lyb cd) (.int .i64 0) (.bool false) (.slice none 0 0) (.slice none 0 0) 26 26 26
  by_cases hz : l = 0
  · subst hz
    obtain ⟨hf1, hf2⟩ := leastq_zero hl
    have ka' := okq_ds ka hf1 HDA.out
    have kb' := okq_ds kb hf2 HDB.out
    dsimp only at ka' kb'
    have HXA' : Aside (RV w (.slice A lxa ca) (dig (val xs))) := ⟨HXA.out.eq' ka'.num⟩
    have HYA' : Aside (RV w (.slice B lya cb) (dig (val ys))) := ⟨HYA.out.eq' ka'.den⟩
    have HXB' : Aside (RV w (.slice C lxb cc) (dig (val xs'))) := ⟨HXB.out.eq' kb'.num⟩
    have HYB' : Aside (RV w (.slice D lyb cd) (dig (val ys'))) := ⟨HYB.out.eq' kb'.den⟩
    have LXA := Aside.mk ka'.la
    have LYA := Aside.mk ka'.lb
    have LXB := Aside.mk kb'.la
    have LYB := Aside.mk kb'.lb
    obtain ⟨m1, hm1⟩ : ∃ m, val xs * val ys' = m := ⟨_, rfl⟩
    obtain ⟨m2, hm2⟩ : ∃ m, val xs' * val ys = m := ⟨_, rfl⟩
    obtain ⟨m4, hm4⟩ : ∃ m, val ys * val ys' = m := ⟨_, rfl⟩
    obtain ⟨⟨s, m3⟩, hs⟩ : ∃ p, ssum n1 m1 n2 m2 = p := ⟨_, rfl⟩
    have HM1 := Aside.mk hm1
    have HM2 := Aside.mk hm2
    have HM4 := Aside.mk hm4
    have HS := Aside.mk hs
    have hL1 : (dig m1).length ≤ 256 := by rw [← hm1]; exact len_mul LXA.out LYB.out
    have hL2 : (dig m2).length ≤ 256 := by rw [← hm2]; exact len_mul LXB.out LYA.out
    have hL3 : (dig m3).length ≤ 257 := by have := @len_ssum n1 n2 m1 m2 256 hL1 hL2; rw [hs] at this; exact this
    have HL1 : Aside ((dig m1).length < 1073741824) := ⟨by omega⟩
    have HL2 : Aside ((dig m2).length < 1073741824) := ⟨by omega⟩
    have HL3 : Aside ((dig m3).length < 1073741824) := ⟨by omega⟩
    have HL4 : Aside ((dig m4).length < 1073741824) := ⟨by rw [← hm4]; exact Nat.lt_of_le_of_lt (len_mul LYA.out LYB.out) (by decide)⟩
    have HQ : Aside (ratio s m3 m4 = q) := ⟨by rw [hq0 rfl, sumq, hm1, hm2, hm4, hs]⟩
    have hk0' := hk0.ext ((Ext.refl _).drew)
    clear hq hq0 hq1 hl hf1 hf2 ka' kb' ka kb hm1 hm2 hm4 hs hL1 hL2 hL3 e1 e2 e3 e4
    go_enter Tryz.func37, Tryz.ntmps37
    go_wp2_with (go_at_call 65; with_reducible refine (rleast_calls HL.out).mono ?_; rintro e w' ⟨rfl, rfl⟩)
    go_region_held (fun w' => KeepM w (.int .i64 f1) (.bool n1) (.slice A lxa ca) (.slice B lya cb) (.int .i64 f2) (.bool n2) (.slice C lxb cc) (.slice D lyb cd) w') (first | assumption | exact KeepM.ext (by assumption) (by assumption) | exact (((KeepM.set (by assumption) _ _).set _ _).set _ _).set _ _) (first | (go_at_call 47; with_reducible refine (rmul_n (HXA'.out.ext (Aside.out (And.left (show KeepM w (.int .i64 f1) (.bool n1) (.slice A lxa ca) (.slice B lya cb) (.int .i64 f2) (.bool n2) (.slice C lxb cc) (.slice D lyb cd) _ from by assumption)))) (HYB'.out.ext (Aside.out (And.left (show KeepM w (.int .i64 f1) (.bool n1) (.slice A lxa ca) (.slice B lya cb) (.int .i64 f2) (.bool n2) (.slice C lxb cc) (.slice D lyb cd) _ from by assumption)))) LXA.out LYB.out HM1.out).mono ?_; rintro e w5 ⟨r, rfl, hr, he5⟩; have HR5 := Aside.mk hr; obtain ⟨A5, c5, rfl, _⟩ := hr.form; clear hr) | (go_at_call 47; with_reducible refine (rmul_n (HXB'.out.ext (Aside.out (And.left (show KeepM w (.int .i64 f1) (.bool n1) (.slice A lxa ca) (.slice B lya cb) (.int .i64 f2) (.bool n2) (.slice C lxb cc) (.slice D lyb cd) _ from by assumption)))) (HYA'.out.ext (Aside.out (And.left (show KeepM w (.int .i64 f1) (.bool n1) (.slice A lxa ca) (.slice B lya cb) (.int .i64 f2) (.bool n2) (.slice C lxb cc) (.slice D lyb cd) _ from by assumption)))) LXB.out LYA.out HM2.out).mono ?_; rintro e w6 ⟨r, rfl, hr, he6⟩; have HR6 := Aside.mk hr; have HE6 := Aside.mk he6; obtain ⟨A6, c6, rfl, _⟩ := hr.form; clear hr) | (go_at_call 98; with_reducible refine (rsigned_calls (HR5.out.ext HE6.out).rv HR6.out.rv HL1.out HL2.out HS.out).mono ?_; rintro e w7 ⟨r, rfl, hr, he7⟩; have HR7 := Aside.mk hr; obtain ⟨A7, c7, rfl, _⟩ := hr.form; clear hr))
    have hk7 := (KeepM.ext he7 (KeepM.ext he6 (KeepM.ext he5 hk0')))
    clear hk0 hk0' he5 he6 he7
    go_wp2_with (first | (go_at_call 47; with_reducible refine (rmul_n (HYA'.out.ext (Aside.out (And.left (show KeepM w (.int .i64 f1) (.bool n1) (.slice A lxa ca) (.slice B lya cb) (.int .i64 f2) (.bool n2) (.slice C lxb cc) (.slice D lyb cd) _ from by assumption)))) (HYB'.out.ext (Aside.out (And.left (show KeepM w (.int .i64 f1) (.bool n1) (.slice A lxa ca) (.slice B lya cb) (.int .i64 f2) (.bool n2) (.slice C lxb cc) (.slice D lyb cd) _ from by assumption)))) LYA.out LYB.out HM4.out).mono ?_; rintro e w8 ⟨r, rfl, hr, he8⟩; have HR8 := Aside.mk hr; have HE8 := Aside.mk he8; have hk8 := KeepM.ext he8 hk7; clear hk7; obtain ⟨A8, c8, rfl, _⟩ := hr.form; clear hr) | (go_at_call 24; with_reducible refine (rratio_calls (HR7.out.ext HE8.out).rv HR8.out.rv HL3.out HL4.out HQ.out).mono ?_; rintro e w9 ⟨r, rfl, hr, he9⟩; have HR9 := Aside.mk hr; have hz : w.heap.size + 2 < w8.heap.size := World.block_lt_of_cell? _ _ hk8.2.2.2.1.1; have HZ := Aside.mk hz; have hk9 := KeepM.ext he9 hk8; clear hk8 hz he9; obtain ⟨A9, c9, B9, d9, rfl⟩ := hr.form; clear hr))
    have HK := Aside.mk hk9
    refine bodyPost_ret (v := .agg #[.int .i64 q.f, .bool q.neg, .slice A9 q.num.length c9, .slice B9 q.den.length d9]) (by simp [results, Tryz.results37, go_sem, hk9]) rfl ⟨_, rfl, (HR9.out.set4 HZ.out _ _ _ _).mono (by have := HZ.out; omega), ext_set4 HK.out.1.out (by omega) _ _ _ _⟩
  · have HQ := Aside.mk (hq1 hz)
    have hl0 : (l == 0) = false := beq_eq_false_iff_ne.2 hz
    have hl1 : (l != 0) = true := by simp [bne, hl0]
    rw [HQ.out]
    clear hq hq0 hq1 hl hz e1 e2 e3 e4 ka kb
    go_enter Tryz.func37, Tryz.ntmps37
    go_wp2_with (first | (go_at_call 65; with_reducible refine (rleast_calls HL.out).mono ?_; rintro e w' ⟨rfl, rfl⟩) | (go_at_call 64; with_reducible refine rfault_calls.mono ?_; rintro e w1 ⟨rfl, he⟩; have hk1 := KeepM.ext he hk0; clear hk0 he))
    have HK := Aside.mk hk1
    refine bodyPost_ret (v := .agg #[.int .i64 l, .bool false, .slice none 0 0, .slice none 0 0]) (by simp [results, Tryz.results37, go_sem, hk1]) rfl ⟨_, rfl, RO.fq _ _ _, ext_set4 HK.out.1.out (by omega) _ _ _ _⟩
end Go.Proofs.YtgfkachfbnbikaaGreatDoor

namespace Go.Proofs.YtgfkachfbnbikaaGreatDoor
open Go.RowKit

/-- The opposite number. -/
def oppq (q : Rq) : Rq := ⟨0, !q.neg && decide (0 < q.num.length), q.num, q.den⟩

/-- A box of four cells, and a result of four. -/
abbrev KeepO (w : World) (x0 x1 x2 x3 : Value) (w' : World) : Prop :=
  Aside (Ext w w') ∧ (w'.cell? ⟨w.heap.size, 0, none⟩ = some x0 ∧ w'.cell? ⟨w.heap.size, 1, none⟩ = some x1 ∧ w'.cell? ⟨w.heap.size, 2, none⟩ = some x2 ∧ w'.cell? ⟨w.heap.size, 3, none⟩ = some x3) ∧
    (Fits w' ⟨w.heap.size + 1, 0, none⟩ ∧ Fits w' ⟨w.heap.size + 1, 1, none⟩ ∧ Fits w' ⟨w.heap.size + 1, 2, none⟩ ∧ Fits w' ⟨w.heap.size + 1, 3, none⟩)
theorem KeepO.ext {w w1 w2 : World} {x0 x1 x2 x3 : Value} (e : Ext w1 w2) (h : KeepO w x0 x1 x2 x3 w1) : KeepO w x0 x1 x2 x3 w2 :=
  ⟨⟨h.1.out.trans e⟩, ⟨e.cell h.2.1.1, e.cell h.2.1.2.1, e.cell h.2.1.2.2.1, e.cell h.2.1.2.2.2⟩, ⟨h.2.2.1.ext e, h.2.2.2.1.ext e, h.2.2.2.2.1.ext e, h.2.2.2.2.2.ext e⟩⟩
theorem KeepO.init (w : World) (x0 x1 x2 x3 z0 z1 z2 z3 : Value) (t t' : TypeId) : KeepO w x0 x1 x2 x3 ((w.alloc (.cells #[x0, x1, x2, x3] t)).alloc (.cells #[z0, z1, z2, z3] t')) :=
  ⟨⟨((Ext.refl w).alloc _).alloc _⟩, ⟨cell_old (cell_new rfl rfl), cell_old (cell_new rfl rfl), cell_old (cell_new rfl rfl), cell_old (cell_new rfl rfl)⟩,
    ⟨fits_new (v := z0) (by simp) rfl, fits_new (v := z1) (by simp) rfl, fits_new (v := z2) (by simp) rfl, fits_new (v := z3) (by simp) rfl⟩⟩
theorem KeepO.set {w w1 : World} {x0 x1 x2 x3 : Value} (h : KeepO w x0 x1 x2 x3 w1) (j : Nat) (v : Value) : KeepO w x0 x1 x2 x3 (w1.setCell ⟨w.heap.size + 1, j, none⟩ v) :=
  ⟨⟨h.1.out.set (by show w.heap.size ≤ w.heap.size + 1; omega) v⟩, ⟨cell_other h.2.1.1 (by omega), cell_other h.2.1.2.1 (by omega), cell_other h.2.1.2.2.1 (by omega), cell_other h.2.1.2.2.2 (by omega)⟩,
    ⟨h.2.2.1.set _ _, h.2.2.2.1.set _ _, h.2.2.2.2.1.set _ _, h.2.2.2.2.2.set _ _⟩⟩

set_option maxRecDepth 10000 in
set_option maxHeartbeats 4000000 in
theorem opposite_calls {w : World} {v : Value} {q : Rq} (h : RR w v q) :
    Calls Tryz.prog 97 #[v] w fun e w' => ∃ r, e = .returned r ∧ RO w.heap.size w' r (oppq q) ∧ Ext w w' := by
  obtain ⟨x, y, rfl, hx, hy⟩ := h
  obtain ⟨f, neg, xs, ys⟩ := q
  dsimp only at *
  have HX := Aside.mk hx
  have HY := Aside.mk hy
  obtain ⟨A, ca, rfl, _, hdx, _⟩ := hx
  obtain ⟨B, cb, rfl, _, hdy, _⟩ := hy
  have hlx : xs.length ≤ 1073741824 := hdx.1
  obtain ⟨lx, hx'⟩ : ∃ n, xs.length = n := ⟨_, rfl⟩
  obtain ⟨ly, hy'⟩ : ∃ n, ys.length = n := ⟨_, rfl⟩
  rw [hx'] at HX hlx ⊢
  rw [hy'] at HY ⊢
  have HLX := Aside.mk hx'
  have HLY := Aside.mk hy'
  obtain ⟨q, hq⟩ : ∃ q, oppq ⟨f, neg, xs, ys⟩ = q := ⟨_, rfl⟩
  rw [hq]
  have HQ : Aside (q = ⟨0, !neg && decide (0 < lx), xs, ys⟩) := ⟨by rw [← hq, oppq]; dsimp only; rw [hx']⟩
  clear hdx hdy hx' hy' hq
  have hk0 := (KeepO.init w (.int .i64 f) (.bool neg) (.slice A lx ca) (.slice B ly cb) (.int .i64 0) (.bool false) (.slice none 0 0) (.slice none 0 0) 26 26).ext ((Ext.refl _).drew)
  cases neg
  · go_enter Tryz.func97, Tryz.ntmps97
    go_wp2
    go_region_held (fun w' => KeepO w (.int .i64 f) (.bool false) (.slice A lx ca) (.slice B ly cb) w') (first | assumption | exact KeepO.ext (by assumption) (by assumption) | exact (((KeepO.set (by assumption) _ _).set _ _).set _ _).set _ _) (first | (go_at_call 124; with_reducible refine (clone_calls (HX.out.ext (Aside.out (And.left (show KeepO w (.int .i64 f) (.bool false) (.slice A lx ca) (.slice B ly cb) _ from by assumption))))).mono ?_; rintro e w1 ⟨r, rfl, hr, he1⟩; have HR1 := Aside.mk hr; obtain ⟨A1, c1, rfl, _⟩ := hr.form; rw [HLX.out] at HR1 ⊢; clear hr) | (go_at_call 124; with_reducible refine (clone_calls (HY.out.ext (Aside.out (And.left (show KeepO w (.int .i64 f) (.bool false) (.slice A lx ca) (.slice B ly cb) _ from by assumption))))).mono ?_; rintro e w2 ⟨r, rfl, hr, he2⟩; have HR2 := Aside.mk hr; obtain ⟨A2, c2, rfl, _⟩ := hr.form; rw [HLY.out] at HR2 ⊢; clear hr))
    have hk1 := KeepO.ext he1 hk0
    have hk2 := KeepO.ext he2 hk1
    have hz : w.heap.size + 1 < _ := World.block_lt_of_cell? _ _ hk0.2.2.1.1
    have hz1 : w.heap.size + 1 < w1.heap.size := World.block_lt_of_cell? _ _ hk1.2.2.1.1
    have HK := Aside.mk hk2
    have HZ := Aside.mk hz
    have HZ1 := Aside.mk hz1
    have HE2 := Aside.mk he2
    clear hk0 hk1 hz hz1
    go_wp2
    refine bodyPost_ret (v := .agg #[.int .i64 0, .bool (decide (0 < lx)), .slice A1 lx c1, .slice A2 ly c2]) (by simp [results, Tryz.results97, go_sem, hk2]) rfl ⟨_, rfl, ?_, ext_set4 HK.out.1.out (by omega) _ _ _ _⟩
    rw [HQ.out]
    exact ⟨_, _, by simp, ((HR1.out.ext HE2.out).set4 HZ.out _ _ _ _).mono (by have := HZ.out; exact Nat.le_of_lt (Nat.lt_of_succ_lt this)), (HR2.out.set4 HZ1.out _ _ _ _).mono (by have := HZ1.out; omega)⟩
  · go_enter Tryz.func97, Tryz.ntmps97
    go_wp2
    refine wp_region_held_drew (S := fun w' => KeepO w (.int .i64 f) (.bool true) (.slice A lx ca) (.slice B ly cb) w') (by kernel_rfl) hk0 (fun hHeld => ?_)
    refine wpAnyH_take (i := 0) (v := .pointer (some ⟨w.heap.size, 1, none⟩)) rfl (by kernel_rfl) (by kernel_rfl) (by kernel_rfl) (fun _ _ _ h => h) (Or.inl ⟨by rfl, ?_⟩) hk0 ?_
    · (intro w hSw; (try dsimp only at hSw); go_simp)
    refine wpAnyH_take (i := 1) (v := .bool true) rfl (by kernel_rfl) (by kernel_rfl) (by kernel_rfl) (fun _ _ _ h => h) (Or.inl ⟨by rfl, ?_⟩) hk0 ?_
    · (intro w hSw; (try dsimp only at hSw); go_simp)
    refine wpAnyH_take (i := 2) (v := .bool false) rfl (by kernel_rfl) (by kernel_rfl) (by kernel_rfl) (fun _ _ _ h => h) (Or.inl ⟨by rfl, ?_⟩) hk0 ?_
    · (intro w hSw; (try dsimp only at hSw); go_simp)
    refine wpAnyH_take (i := 3) (v := .bool false) rfl (by kernel_rfl) (by kernel_rfl) (by kernel_rfl) (fun _ _ _ h => h) (Or.inl ⟨by rfl, ?_⟩) hk0 ?_
    · (intro w hSw; (try dsimp only at hSw); go_simp)
    refine wpAnyH_take (i := 4) (v := undef) rfl (by kernel_rfl) (by kernel_rfl) (by kernel_rfl) (fun _ _ _ h => h) (Or.inr ⟨by rfl, rfl⟩) hk0 ?_
    refine wpAnyH_take (i := 5) (v := undef) rfl (by kernel_rfl) (by kernel_rfl) (by kernel_rfl) (fun _ _ _ h => h) (Or.inr ⟨by rfl, rfl⟩) hk0 ?_
    refine wpAnyH_take (i := 6) (v := undef) rfl (by kernel_rfl) (by kernel_rfl) (by kernel_rfl) (fun _ _ _ h => h) (Or.inr ⟨by rfl, rfl⟩) hk0 ?_
    refine wpAnyH_take (i := 7) (v := undef) rfl (by kernel_rfl) (by kernel_rfl) (by kernel_rfl) (fun _ _ _ h => h) (Or.inr ⟨by rfl, rfl⟩) hk0 ?_
    refine wpAnyH_take (i := 8) (v := .bool false) rfl (by kernel_rfl) (by kernel_rfl) (by kernel_rfl) (fun _ _ _ h => h) (Or.inl ⟨by rfl, ?_⟩) hk0 ?_
    · (intro w hSw; (try dsimp only at hSw); go_simp)
    refine wpAnyH_take (i := 9) (v := .pointer (some ⟨w.heap.size, 2, none⟩)) rfl (by kernel_rfl) (by kernel_rfl) (by kernel_rfl) (fun _ _ _ h => h) (Or.inl ⟨by rfl, ?_⟩) hk0 ?_
    · (intro w hSw; (try dsimp only at hSw); go_simp)
    refine wpAnyH_take (i := 10) (v := .slice A lx ca) rfl (by kernel_rfl) (by kernel_rfl) (by kernel_rfl) (fun _ _ _ h => h) (Or.inl ⟨by rfl, ?_⟩) hk0 ?_
    · (intro w hSw; (try dsimp only at hSw); go_simp)
    refine wpAnyH_take (i := 12) (v := .pointer (some ⟨w.heap.size, 3, none⟩)) rfl (by kernel_rfl) (by kernel_rfl) (by kernel_rfl) (fun _ _ _ h => h) (Or.inl ⟨by rfl, ?_⟩) hk0 ?_
    · (intro w hSw; (try dsimp only at hSw); go_simp)
    refine wpAnyH_take (i := 13) (v := .slice B ly cb) rfl (by kernel_rfl) (by kernel_rfl) (by kernel_rfl) (fun _ _ _ h => h) (Or.inl ⟨by rfl, ?_⟩) hk0 ?_
    · (intro w hSw; (try dsimp only at hSw); go_simp)
    refine wpAnyH_ready (rs := [11]) (by kernel_rfl) (by simp) ?_
    refine AllReadyH.cons rfl (fun K hK => ?_) AllReadyH.nil
    go_simp
    go_wp2_with (go_at_call 124; with_reducible refine (clone_calls (HX.out.ext (Aside.out (And.left (show KeepO w (.int .i64 f) (.bool true) (.slice A lx ca) (.slice B ly cb) _ from by assumption))))).mono ?_; rintro e w1 ⟨r, rfl, hr, he1⟩; have HR1 := Aside.mk hr; obtain ⟨A1, c1, rfl, _⟩ := hr.form; rw [HLX.out] at HR1 ⊢; clear hr)
    have hk1 := KeepO.ext he1 hk0
    refine hK.out _ _ hk1 (fun hHeld => ?_)
    clear hK K hHeld
    refine wpAnyH_ready (rs := [14]) (by kernel_rfl) (by simp) ?_
    refine AllReadyH.cons rfl (fun K hK => ?_) AllReadyH.nil
    go_simp
    go_wp2_with (go_at_call 124; with_reducible refine (clone_calls (HY.out.ext (Aside.out (And.left hk1)))).mono ?_; rintro e w2 ⟨r, rfl, hr, he2⟩; have HR2 := Aside.mk hr; obtain ⟨A2, c2, rfl, _⟩ := hr.form; rw [HLY.out] at HR2 ⊢; clear hr)
    have hk2 := KeepO.ext he2 hk1
    refine hK.out _ _ hk2 (fun hHeld => ?_)
    clear hK K hHeld
    refine wpAnyH_take (i := 15) (v := .agg #[.int .i64 0, .bool false, .slice A1 lx c1, .slice A2 ly c2]) rfl (by kernel_rfl) (by kernel_rfl) (by kernel_rfl) (fun _ _ _ h => h) (Or.inl ⟨by rfl, ?_⟩) hk2 ?_
    · (intro w hSw; (try dsimp only at hSw); go_simp)
    refine wpAnyH_ready (rs := [16]) (by kernel_rfl) (by simp) ?_
    refine AllReadyH.cons rfl (fun K hK => ?_) AllReadyH.nil
    go_simp
    refine hK.out _ _ ((((KeepO.set hk2 _ _).set _ _).set _ _).set _ _) (fun hHeld => ?_)
    clear hK K hHeld
    refine wpAnyH_done (by kernel_rfl) ?_ _
    have hz : w.heap.size + 1 < _ := World.block_lt_of_cell? _ _ hk0.2.2.1.1
    have hz1 : w.heap.size + 1 < w1.heap.size := World.block_lt_of_cell? _ _ hk1.2.2.1.1
    have HK := Aside.mk hk2
    have HZ := Aside.mk hz
    have HZ1 := Aside.mk hz1
    have HE2 := Aside.mk he2
    clear hk0 hk1 hz hz1
    go_wp2
    refine bodyPost_ret (v := .agg #[.int .i64 0, .bool false, .slice A1 lx c1, .slice A2 ly c2]) (by simp [results, Tryz.results97, go_sem, hk2]) rfl ⟨_, rfl, ?_, ext_set4 HK.out.1.out (by omega) _ _ _ _⟩
    rw [HQ.out]
    exact ⟨_, _, by simp, ((HR1.out.ext HE2.out).set4 HZ.out _ _ _ _).mono (by have := HZ.out; exact Nat.le_of_lt (Nat.lt_of_succ_lt this)), (HR2.out.set4 HZ1.out _ _ _ _).mono (by have := HZ1.out; omega)⟩
end Go.Proofs.YtgfkachfbnbikaaGreatDoor

namespace Go.Proofs.YtgfkachfbnbikaaGreatDoor
open Go.RowKit

theorem opp_rr {w : World} {r : Value} {q : Rq} {c d : Nat} (h : RR w r (oppq q)) (k : IsNum q c d) : RR w r ⟨0, (oppq q).neg, dig c, dig d⟩ := by
  have e : oppq q = ⟨0, (oppq q).neg, dig c, dig d⟩ := by
    show (⟨0, !q.neg && decide (0 < q.num.length), q.num, q.den⟩ : Rq) = ⟨0, !q.neg && decide (0 < q.num.length), dig c, dig d⟩
    rw [← k.num, ← k.den]
  rw [← e]; exact h
theorem opp_q {w : World} {v : Value} {q p : Rq} (h : RR w v q) (hp : oppq q = p) :
    Calls Tryz.prog 97 #[v] w fun e w' => ∃ r, e = .returned r ∧ RO w.heap.size w' r p ∧ Ext w w' := by
  subst hp; exact opposite_calls h
theorem sum_q {w : World} {u v : Value} {f1 f2 : Int} {n1 n2 : Bool} {a b c d : Nat} {q : Rq} (hu : RR w u ⟨f1, n1, dig a, dig b⟩) (hv : RR w v ⟨f2, n2, dig c, dig d⟩) (ha : (dig a).length ≤ 128) (hb : (dig b).length ≤ 128) (hc : (dig c).length ≤ 128) (hd : (dig d).length ≤ 128) (hq : sumq n1 a b n2 c d = q) :
    Calls Tryz.prog 95 #[u, v] w fun e w' => ∃ r, e = .returned r ∧ RO w.heap.size w' r q ∧ Ext w w' := by
  subst hq; exact sum_calls hu hv ha hb hc hd
/-- The opposite of a number has its own sign. -/
theorem oppq_neg {q : Rq} {c d : Nat} (k : IsNum q c d) : (oppq q).neg = (!q.neg && decide (0 < c)) := by
  show (!q.neg && decide (0 < q.num.length)) = _
  rw [k.num]
  rcases Nat.eq_zero_or_pos c with rfl | h
  · rw [dig_zero]; rfl
  · rw [decide_eq_true h, decide_eq_true (dig_length_pos h)]

set_option maxRecDepth 10000 in
set_option maxHeartbeats 4000000 in
theorem sub1_calls {w : World} {u v : Value} {a b : Rq} {x y c d : Nat} (hu : RR w u a) (hv : RR w v b) (ka : IsNum a x y) (kb : IsNum b c d) :
    Calls Tryz.prog 96 #[u, v] w fun e w' => ∃ r, e = .returned r ∧ RO w.heap.size w' r (sumq a.neg x y (oppq b).neg c d) ∧ Ext w w' := by
  obtain ⟨p, hp⟩ : ∃ p, oppq b = p := ⟨_, rfl⟩
  have HO : Aside (∀ (w' : World) (r : Value), RR w' r p → RR w' r ⟨0, p.neg, dig c, dig d⟩) := ⟨fun w' r h => by subst hp; exact opp_rr h kb⟩
  rw [hp]
  obtain ⟨q, hq⟩ : ∃ q, sumq a.neg x y p.neg c d = q := ⟨_, rfl⟩
  rw [hq]
  have HP := Aside.mk hp
  have HQ := Aside.mk hq
  have HA' := Aside.mk (hu.num ka)
  have HB := Aside.mk hv
  have LXA := Aside.mk ka.la
  have LYA := Aside.mk ka.lb
  have LXB := Aside.mk kb.la
  have LYB := Aside.mk kb.lb
  obtain ⟨A, ca, B, cb, rfl⟩ := hu.form
  obtain ⟨C, cc, D, cd, rfl⟩ := hv.form
  clear hp hq hu hv ka kb
  generalize a.num.length = lxa at *
  generalize a.den.length = lya at *
  generalize b.num.length = lxb at *
  generalize b.den.length = lyb at *
  generalize a.f = f1 at *
  generalize a.neg = n1 at *
  generalize b.f = f2 at *
  generalize b.neg = n2 at *
  have hk0 := (KeepM.init w (.int .i64 f1) (.bool n1) (.slice A lxa ca) (.slice B lya cb) (.int .i64 f2) (.bool n2) (.slice C lxb cc) (.slice D lyb cd) (.int .i64 0) (.bool false) (.slice none 0 0) (.slice none 0 0) 26 26 26).ext ((Ext.refl _).drew)
  go_enter Tryz.func96, Tryz.ntmps96
  go_wp2
  go_region_held (fun w' => KeepM w (.int .i64 f1) (.bool n1) (.slice A lxa ca) (.slice B lya cb) (.int .i64 f2) (.bool n2) (.slice C lxb cc) (.slice D lyb cd) w') (first | assumption | exact KeepM.ext (by assumption) (by assumption) | exact (((KeepM.set (by assumption) _ _).set _ _).set _ _).set _ _) (first | (go_at_call 97; with_reducible refine (opp_q (HB.out.ext (Aside.out (And.left (show KeepM w (.int .i64 f1) (.bool n1) (.slice A lxa ca) (.slice B lya cb) (.int .i64 f2) (.bool n2) (.slice C lxb cc) (.slice D lyb cd) _ from by assumption)))) HP.out).mono ?_; rintro e w5 ⟨r, rfl, hr, he5⟩; have HR5 := Aside.mk hr.rr; obtain ⟨A5, c5, B5, d5, rfl⟩ := hr.form; clear hr) | (go_at_call 95; with_reducible refine (sum_q (HA'.out.ext (Aside.out (And.left (show KeepM w (.int .i64 f1) (.bool n1) (.slice A lxa ca) (.slice B lya cb) (.int .i64 f2) (.bool n2) (.slice C lxb cc) (.slice D lyb cd) _ from by assumption)))) (HO.out _ _ HR5.out) LXA.out LYA.out LXB.out LYB.out HQ.out).mono ?_; rintro e w7 ⟨r, rfl, hr, he7⟩; have HR7 := Aside.mk hr; obtain ⟨A7, c7, B7, d7, rfl⟩ := hr.form; clear hr))
  have hk5 := KeepM.ext he5 hk0
  have hk7 := KeepM.ext he7 hk5
  have hz : w.heap.size + 2 < w5.heap.size := World.block_lt_of_cell? _ _ hk5.2.2.2.1.1
  have HK := Aside.mk hk7
  have HZ := Aside.mk hz
  clear hk0 hk5 hz
  go_wp2
  refine bodyPost_ret (v := .agg #[.int .i64 q.f, .bool q.neg, .slice A7 q.num.length c7, .slice B7 q.den.length d7]) (by simp [results, Tryz.results96, go_sem, hk7]) rfl ⟨_, rfl, (HR7.out.set4 HZ.out _ _ _ _).mono (by have := HZ.out; omega), ext_set4 HK.out.1.out (by omega) _ _ _ _⟩

set_option maxRecDepth 10000 in
set_option maxHeartbeats 1000000 in
theorem neg1_calls {w : World} {u v : Value} {a b : Rq} (hu : RR w u a) (hv : RR w v b) :
    Calls Tryz.prog 102 #[u, v] w fun e w' => ∃ r, e = .returned r ∧ RO w.heap.size w' r (oppq a) ∧ Ext w w' := by
  obtain ⟨q, hq⟩ : ∃ q, oppq a = q := ⟨_, rfl⟩
  rw [hq]
  have HQ := Aside.mk hq
  have HA := Aside.mk hu
  obtain ⟨A, ca, B, cb, rfl⟩ := hu.form
  obtain ⟨C, cc, D, cd, rfl⟩ := hv.form
  clear hq hu hv
  generalize a.num.length = lxa at *
  generalize a.den.length = lya at *
  generalize b.num.length = lxb at *
  generalize b.den.length = lyb at *
  generalize a.f = f1 at *
  generalize a.neg = n1 at *
  generalize b.f = f2 at *
  generalize b.neg = n2 at *
  have hk0 := KeepM.init w (.int .i64 f1) (.bool n1) (.slice A lxa ca) (.slice B lya cb) (.int .i64 f2) (.bool n2) (.slice C lxb cc) (.slice D lyb cd) (.int .i64 0) (.bool false) (.slice none 0 0) (.slice none 0 0) 26 26 26
  go_enter Tryz.func102, Tryz.ntmps102
  go_wp2_with (go_at_call 97; with_reducible refine (opp_q (HA.out.ext hk0.1.out) HQ.out).mono ?_; rintro e w7 ⟨r, rfl, hr, he7⟩; have HZ := Aside.mk (World.block_lt_of_cell? _ _ hk0.2.2.2.1.1); have hk7 := KeepM.ext he7 hk0; have HR7 := Aside.mk hr; obtain ⟨A7, c7, B7, d7, rfl⟩ := hr.form; clear hr hk0 he7)
  have HK := Aside.mk hk7
  refine bodyPost_ret (v := .agg #[.int .i64 q.f, .bool q.neg, .slice A7 q.num.length c7, .slice B7 q.den.length d7]) (by simp [results, Tryz.results102, go_sem, hk7]) rfl ⟨_, rfl, (HR7.out.set4 HZ.out _ _ _ _).mono (Nat.le_trans (Nat.le_add_right _ _) (Nat.le_of_lt HZ.out)), ext_set4 HK.out.1.out (by omega) _ _ _ _⟩

theorem sub_by (a b : Rq) : MadeBy 96 a b (sumq a.neg (val a.num) (val a.den) (oppq b).neg (val b.num) (val b.den)) where
  runs := by intro args w; simp [go_sem]
  calls := by
    intro w u v ha hb h1 h2 h3
    obtain ⟨f1, f2⟩ := leastq_zero h3
    exact sub1_calls ha hb (okq_ds h1 f1 ha.ds) (okq_ds h2 f2 hb.ds)
theorem neg_by (a : Rq) : MadeBy 102 a a (oppq a) where
  runs := by intro args w; simp [go_sem]
  calls := by
    intro w u v ha hb _ _ _
    exact neg1_calls ha hb

set_option maxRecDepth 10000 in
set_option maxHeartbeats 1000000 in
theorem Sub2_calls {w : World} {u v : Value} {a b : Rq} (ha : RR w u a) (hb : RR w v b) {m : Rq × Int} (hm : madeq a b (sumq a.neg (val a.num) (val a.den) (oppq b).neg (val b.num) (val b.den)) = m) :
    Calls Tryz.prog 36 #[u, v] w fun e w' => ∃ r, e = .returned (.tuple #[r, .int .i64 m.2]) ∧ RO w.heap.size w' r m.1 ∧ Ext w w' := by
  have HA := Aside.mk ha; have HB := Aside.mk hb; obtain ⟨A, ca, B, cb, rfl⟩ := ha.form; obtain ⟨C, cc, D, cd, rfl⟩ := hb.form; obtain ⟨fa, na, xa, ya⟩ := a; obtain ⟨fb, nb, xb, yb⟩ := b; dsimp only at *; clear ha hb
  have HM := Aside.mk hm
  clear hm
  generalize xa.length = lxa at *; generalize ya.length = lya at *; generalize xb.length = lxb at *; generalize yb.length = lyb at *; have hk0 := KeepM.init w (.int .i64 fa) (.bool na) (.slice A lxa ca) (.slice B lya cb) (.int .i64 fb) (.bool nb) (.slice C lxb cc) (.slice D lyb cd) (.int .i64 0) (.bool false) (.slice none 0 0) (.slice none 0 0) 26 26 26
  go_enter Tryz.func36, Tryz.ntmps36
  go_wp2_with (go_at_call 94; refine ((sub_by ⟨fa, na, xa, ya⟩ ⟨fb, nb, xb, yb⟩).mk_ (HA.out.ext hk0.1.out) (HB.out.ext hk0.1.out) hk0.1.out HM.out).mono ?_; rintro e w3 ⟨r, rfl, hr, he⟩; have hz : w.heap.size + 2 < _ := World.block_lt_of_cell? _ _ hk0.2.2.2.1.1; have hk3 := KeepM.ext he hk0; have HR3 := Aside.mk hr; have HZ := Aside.mk hz; obtain ⟨A3, c3, B3, d3, rfl⟩ := hr.form; clear hk0 hr he hz)
  have HK := Aside.mk hk3
  refine bodyPost_ret (v := .tuple #[.agg #[.int .i64 m.1.f, .bool m.1.neg, .slice A3 m.1.num.length c3, .slice B3 m.1.den.length d3], .int .i64 m.2]) (by simp [results, Tryz.results36, go_sem, hk3]) rfl ⟨_, rfl, (HR3.out.set4 HZ.out _ _ _ _).mono (by have := HZ.out; omega), ext_set4 HK.out.1.out (by omega) _ _ _ _⟩

set_option maxRecDepth 10000 in
set_option maxHeartbeats 1000000 in
/-- Neg: the opposite number, or the fault, or the error. -/
theorem Neg2_calls {w : World} {u : Value} {a : Rq} (ha : RR w u a) {m : Rq × Int} (hm : madeq a a (oppq a) = m) :
    Calls Tryz.prog 43 #[u] w fun e w' => ∃ r, e = .returned (.tuple #[r, .int .i64 m.2]) ∧ RO w.heap.size w' r m.1 ∧ Ext w w' := by
  have HA := Aside.mk ha
  have HM := Aside.mk hm
  obtain ⟨A, ca, B, cb, rfl⟩ := ha.form
  have hk0 := KeepBR.init w (.int .i64 a.f) (.bool a.neg) (.slice A a.num.length ca) (.slice B a.den.length cb) (.int .i64 0) (.bool false) (.slice none 0 0) (.slice none 0 0) 26 26
  clear ha hm
  go_enter Tryz.func43, Tryz.ntmps43
  go_wp2_with (go_at_call 94; refine ((neg_by a).mk_ (HA.out.ext hk0.1.out) (HA.out.ext hk0.1.out) hk0.1.out HM.out).mono ?_; rintro e w3 ⟨r, rfl, hr, he⟩; have hz : w.heap.size + 1 < _ := World.block_lt_of_cell? _ _ hk0.2.2.1.1; have hk3 := KeepBR.ext he hk0; have HR3 := Aside.mk hr; have HZ := Aside.mk hz; obtain ⟨A3, c3, B3, d3, rfl⟩ := hr.form; clear hk0 hr he hz)
  have HK := Aside.mk hk3
  refine bodyPost_ret (v := .tuple #[.agg #[.int .i64 m.1.f, .bool m.1.neg, .slice A3 m.1.num.length c3, .slice B3 m.1.den.length d3], .int .i64 m.2]) (by simp [results, Tryz.results43, go_sem, hk3]) rfl ⟨_, rfl, (HR3.out.set4 HZ.out _ _ _ _).mono (by have := HZ.out; omega), ext_set4 HK.out.1.out (by omega) _ _ _ _⟩
end Go.Proofs.YtgfkachfbnbikaaGreatDoor

namespace Go.Proofs.YtgfkachfbnbikaaGreatDoor
open Go.RowKit

theorem ratio_num {q : Rq} {a b : Nat} (k : IsNum q a b) (n : Bool) : ratio n a b = ⟨0, n && decide (0 < a), q.num, q.den⟩ := by
  have hb := k.pos
  unfold ratio
  rw [if_neg (by omega), k.gcd, Nat.div_one, Nat.div_one, isLong_false.2 k.la, isLong_false.2 k.lb, k.num, k.den]
  rfl
theorem ratio_opp {q : Rq} {a b : Nat} (k : IsNum q a b) : ratio (!q.neg) a b = oppq q := by
  rw [ratio_num k]
  have := oppq_neg k
  cases h : oppq q with
  | mk f n x y =>
    rw [h] at this
    simp only [oppq, Rq.mk.injEq] at h this
    rw [this, ← h.1, ← h.2.2.1, ← h.2.2.2]
theorem okq_opp {q : Rq} (h : okq q = true) (hf : q.f = 0) : okq (oppq q) = true := by
  obtain ⟨f, n, x, y⟩ := q
  obtain rfl : f = 0 := hf
  show okq ⟨0, !n && decide (0 < x.length), x, y⟩ = true
  unfold okq at h ⊢
  dsimp only at h ⊢
  rw [if_pos rfl] at h ⊢
  simp only [Bool.and_eq_true] at h ⊢
  refine ⟨⟨h.1.1, ?_⟩, h.2⟩
  rcases Nat.eq_zero_or_pos x.length with h0 | h0
  · rw [h0]; simp
  · rw [decide_eq_false (show ¬ x.length = 0 by omega)]; simp
theorem leastq_self (a : Int) : leastq a a = a := by unfold leastq; split <;> simp_all
theorem madeq_self {a : Rq} (h : okq a = true) (res : Rq) : (madeq a a res).1 = if a.f = 0 then res else fq a.f := by
  unfold madeq; rw [h, leastq_self]; rfl

set_option maxRecDepth 10000 in
set_option maxHeartbeats 1000000 in
theorem rNeg_calls {w : World} {u : Value} {a q : Rq} (hu : RR w u a) (ka : okq a = true) (hq : (madeq a a (oppq a)).1 = q) :
    Calls Tryz.prog 52 #[u] w fun e w' => ∃ r, e = .returned r ∧ RO w.heap.size w' r q ∧ Ext w w' := by
  rw [madeq_self ka] at hq
  have hds := hu.ds
  obtain ⟨x, y, rfl, hx, hy⟩ := hu
  obtain ⟨f, n, xs, ys⟩ := a
  dsimp only at *
  have HX := Aside.mk hx
  have HY := Aside.mk hy
  obtain ⟨A, ca, rfl, _⟩ := hx
  obtain ⟨B, cb, rfl, _⟩ := hy
  obtain ⟨lx, e1⟩ : ∃ n, xs.length = n := ⟨_, rfl⟩
  obtain ⟨ly, e2⟩ : ∃ n, ys.length = n := ⟨_, rfl⟩
  rw [e1] at HX
  rw [e2] at HY
  rw [e1, e2]
  have hk0 := KeepBR.init w (.int .i64 f) (.bool n) (.slice A lx ca) (.slice B ly cb) (.int .i64 0) (.bool false) (.slice none 0 0) (.slice none 0 0) 26 26
  by_cases hf : f = 0
  · have k := okq_ds ka hf hds
    subst hf
    rw [if_pos rfl] at hq
    dsimp only at k
    have HX' : Aside (RV w (.slice A lx ca) (dig (val xs))) := ⟨HX.out.eq' k.num⟩
    have HY' : Aside (RV w (.slice B ly cb) (dig (val ys))) := ⟨HY.out.eq' k.den⟩
    have HLX : Aside ((dig (val xs)).length < 1073741824) := ⟨Nat.lt_of_le_of_lt k.la (by decide)⟩
    have HLY : Aside ((dig (val ys)).length < 1073741824) := ⟨Nat.lt_of_le_of_lt k.lb (by decide)⟩
    have HQ : Aside (ratio (!n) (val xs) (val ys) = q) := ⟨by rw [← hq]; exact ratio_opp k⟩
    clear hq k ka hds e1 e2
    go_enter Tryz.func52, Tryz.ntmps52
    go_wp2_with (go_at_call 24; with_reducible refine (rratio_calls (HX'.out.ext hk0.1.out) (HY'.out.ext hk0.1.out) HLX.out HLY.out HQ.out).mono ?_; rintro e w1 ⟨r, rfl, hr, he⟩; have hz : w.heap.size + 1 < _ := World.block_lt_of_cell? _ _ hk0.2.2.1.1; have hk1 := KeepBR.ext he hk0; have HR := Aside.mk hr; have HZ := Aside.mk hz; obtain ⟨A2, c2, B2, d2, rfl⟩ := hr.form; clear hk0 hr he hz)
    have HK := Aside.mk hk1
    refine bodyPost_ret (v := .agg #[.int .i64 q.f, .bool q.neg, .slice A2 q.num.length c2, .slice B2 q.den.length d2]) (by simp [results, Tryz.results52, go_sem, hk1]) rfl ⟨_, rfl, (HR.out.set4 HZ.out _ _ _ _).mono (Nat.le_trans (Nat.le_add_right _ _) (Nat.le_of_lt HZ.out)), ext_set4 HK.out.1.out (by omega) _ _ _ _⟩
  · rw [if_neg hf] at hq
    subst hq
    have hf0 : (f == 0) = false := beq_eq_false_iff_ne.2 hf
    have hf1 : (f != 0) = true := by simp [bne, hf0]
    clear ka hds e1 e2 hf
    go_enter Tryz.func52, Tryz.ntmps52
    go_wp2_with (go_at_call 64; with_reducible refine rfault_calls.mono ?_; rintro e w1 ⟨rfl, he⟩; have hk1 := KeepBR.ext he hk0; clear hk0 he)
    have HK := Aside.mk hk1
    refine bodyPost_ret (v := .agg #[.int .i64 f, .bool false, .slice none 0 0, .slice none 0 0]) (by simp [results, Tryz.results52, go_sem, hk1]) rfl ⟨_, rfl, RO.fq _ _ _, ext_set4 HK.out.1.out (by omega) _ _ _ _⟩

set_option maxRecDepth 10000 in
set_option maxHeartbeats 4000000 in
theorem rSub_calls {w : World} {u v : Value} {a b q : Rq} (hu : RR w u a) (hv : RR w v b) (ka : okq a = true) (kb : okq b = true) (hq : (madeq a b (sumq a.neg (val a.num) (val a.den) (oppq b).neg (val b.num) (val b.den))).1 = q) :
    Calls Tryz.prog 38 #[u, v] w fun e w' => ∃ r, e = .returned r ∧ RO w.heap.size w' r q ∧ Ext w w' := by
  obtain ⟨hq0, hq1⟩ := made1 ka kb hq
  obtain ⟨l, hl⟩ : ∃ l, leastq a.f b.f = l := ⟨_, rfl⟩
  have HL := Aside.mk hl
  rw [hl] at hq0 hq1
  have HA := Aside.mk hu
  have HB := Aside.mk hv
  have KA := Aside.mk ka
  have KB := Aside.mk kb
  obtain ⟨A, ca, B, cb, rfl⟩ := hu.form
  obtain ⟨C, cc, D, cd, rfl⟩ := hv.form
  by_cases hz : l = 0
  · subst hz
    obtain ⟨hf1, hf2⟩ := leastq_zero hl
    obtain ⟨p, hp⟩ : ∃ p, oppq b = p := ⟨_, rfl⟩
    have HP : Aside ((madeq b b (oppq b)).1 = p) := ⟨by rw [madeq_self kb, if_pos hf2, hp]⟩
    have kp : okq p = true := hp ▸ okq_opp kb hf2
    have KP := Aside.mk kp
    have hpf : p.f = 0 ∧ p.num = b.num ∧ p.den = b.den := by subst hp; exact ⟨rfl, rfl, rfl⟩
    have HQ : Aside ((madeq a p (sumq a.neg (val a.num) (val a.den) p.neg (val p.num) (val p.den))).1 = q) := ⟨by
      rw [hq0 rfl, hp, hpf.2.1, hpf.2.2]
      unfold madeq
      rw [ka, kp, hpf.1, hf1]
      rfl⟩
    clear hq hq0 hq1 hl hp hpf kp ka kb hu hv hf1 hf2
    generalize a.num.length = lxa at *
    generalize a.den.length = lya at *
    generalize b.num.length = lxb at *
    generalize b.den.length = lyb at *
    have hk0 := KeepM.init w (.int .i64 a.f) (.bool a.neg) (.slice A lxa ca) (.slice B lya cb) (.int .i64 b.f) (.bool b.neg) (.slice C lxb cc) (.slice D lyb cd) (.int .i64 0) (.bool false) (.slice none 0 0) (.slice none 0 0) 26 26 26
    have hk0' := hk0.ext ((Ext.refl _).drew)
    go_enter Tryz.func38, Tryz.ntmps38
    go_wp2_with (go_at_call 65; with_reducible refine (rleast_calls HL.out).mono ?_; rintro e w' ⟨rfl, rfl⟩)
    go_region_held (fun w' => KeepM w (.int .i64 a.f) (.bool a.neg) (.slice A lxa ca) (.slice B lya cb) (.int .i64 b.f) (.bool b.neg) (.slice C lxb cc) (.slice D lyb cd) w') (first | assumption | exact KeepM.ext (by assumption) (by assumption) | exact (((KeepM.set (by assumption) _ _).set _ _).set _ _).set _ _) (first | (go_at_call 52; with_reducible refine (rNeg_calls (HB.out.ext (Aside.out (And.left (show KeepM w (.int .i64 a.f) (.bool a.neg) (.slice A lxa ca) (.slice B lya cb) (.int .i64 b.f) (.bool b.neg) (.slice C lxb cc) (.slice D lyb cd) _ from by assumption)))) KB.out HP.out).mono ?_; rintro e w5 ⟨r, rfl, hr, he5⟩; have HR5 := Aside.mk hr.rr; obtain ⟨A5, c5, B5, d5, rfl⟩ := hr.form; clear hr) | (go_at_call 37; with_reducible refine (rAdd_calls (HA.out.ext (Aside.out (And.left (show KeepM w (.int .i64 a.f) (.bool a.neg) (.slice A lxa ca) (.slice B lya cb) (.int .i64 b.f) (.bool b.neg) (.slice C lxb cc) (.slice D lyb cd) _ from by assumption)))) HR5.out KA.out KP.out HQ.out).mono ?_; rintro e w7 ⟨r, rfl, hr, he7⟩; have HR7 := Aside.mk hr; obtain ⟨A7, c7, B7, d7, rfl⟩ := hr.form; clear hr))
    have hk5 := KeepM.ext he5 hk0'
    have hk7 := KeepM.ext he7 hk5
    have hz : w.heap.size + 2 < w5.heap.size := World.block_lt_of_cell? _ _ hk5.2.2.2.1.1
    have HK := Aside.mk hk7
    have HZ := Aside.mk hz
    clear hk0 hk0' hk5 hz
    go_wp2
    refine bodyPost_ret (v := .agg #[.int .i64 q.f, .bool q.neg, .slice A7 q.num.length c7, .slice B7 q.den.length d7]) (by simp [results, Tryz.results38, go_sem, hk7]) rfl ⟨_, rfl, (HR7.out.set4 HZ.out _ _ _ _).mono (by have := HZ.out; omega), ext_set4 HK.out.1.out (by omega) _ _ _ _⟩
  · have HQ := Aside.mk (hq1 hz)
    have hl0 : (l == 0) = false := beq_eq_false_iff_ne.2 hz
    have hl1 : (l != 0) = true := by simp [bne, hl0]
    rw [HQ.out]
    clear hq hq0 hq1 hl hz ka kb hu hv
    generalize a.num.length = lxa at *
    generalize a.den.length = lya at *
    generalize b.num.length = lxb at *
    generalize b.den.length = lyb at *
    have hk0 := KeepM.init w (.int .i64 a.f) (.bool a.neg) (.slice A lxa ca) (.slice B lya cb) (.int .i64 b.f) (.bool b.neg) (.slice C lxb cc) (.slice D lyb cd) (.int .i64 0) (.bool false) (.slice none 0 0) (.slice none 0 0) 26 26 26
    go_enter Tryz.func38, Tryz.ntmps38
    go_wp2_with (first | (go_at_call 65; with_reducible refine (rleast_calls HL.out).mono ?_; rintro e w' ⟨rfl, rfl⟩) | (go_at_call 64; with_reducible refine rfault_calls.mono ?_; rintro e w1 ⟨rfl, he⟩; have hk1 := KeepM.ext he hk0; clear hk0 he))
    have HK := Aside.mk hk1
    refine bodyPost_ret (v := .agg #[.int .i64 l, .bool false, .slice none 0 0, .slice none 0 0]) (by simp [results, Tryz.results38, go_sem, hk1]) rfl ⟨_, rfl, RO.fq _ _ _, ext_set4 HK.out.1.out (by omega) _ _ _ _⟩
end Go.Proofs.YtgfkachfbnbikaaGreatDoor
