/- Contracts of package frac: the closures of Mul and Div. -/
import Derived.Test.YtgfkachfbnbikaaGreatDoorFracG
namespace Go.Proofs.YtgfkachfbnbikaaGreatDoor
open Go.RowKit

set_option maxRecDepth 10000 in
set_option maxHeartbeats 4000000 in
theorem mul1_calls {w : World} {u v : Value} {f1 f2 : Int} {n1 n2 : Bool} {a b c d : Nat} (hu : RR w u ⟨f1, n1, dig a, dig b⟩) (hv : RR w v ⟨f2, n2, dig c, dig d⟩) (ha : (dig a).length ≤ 128) (hb : (dig b).length ≤ 128) (hc : (dig c).length ≤ 128) (hd : (dig d).length ≤ 128) :
    Calls Tryz.prog 99 #[u, v] w fun e w' => ∃ r, e = .returned r ∧ RO w.heap.size w' r (ratio (n1 != n2) (a * c) (b * d)) ∧ Ext w w' := by
  obtain ⟨x, y, rfl, hxa, hya⟩ := hu
  obtain ⟨x', y', rfl, hxb, hyb⟩ := hv
  dsimp only at *
  have HXA := Aside.mk (NV.of hxa (by omega))
  have HYA := Aside.mk (NV.of hya (by omega))
  have HXB := Aside.mk (NV.of hxb (by omega))
  have HYB := Aside.mk (NV.of hyb (by omega))
  have HL1 : Aside ((dig (a * c)).length ≤ 256) := ⟨len_mul ha hc⟩
  have HL2 : Aside ((dig (b * d)).length ≤ 256) := ⟨len_mul hb hd⟩
  rw [show (n1 != n2) = (!n1 == n2) from by cases n1 <;> cases n2 <;> rfl]
  obtain ⟨q, hq⟩ : ∃ q, ratio (!n1 == n2) (a * c) (b * d) = q := ⟨_, rfl⟩
  have HQ := Aside.mk hq
  rw [hq]
  obtain ⟨A, ca, rfl, _⟩ := hxa
  obtain ⟨B, cb, rfl, _⟩ := hya
  obtain ⟨C, cc, rfl, _⟩ := hxb
  obtain ⟨D, cd, rfl, _⟩ := hyb
  clear ha hb hc hd hq
  generalize (dig a).length = lxa at *
  generalize (dig b).length = lya at *
  generalize (dig c).length = lxb at *
  generalize (dig d).length = lyb at *
  go_enter Tryz.func99, Tryz.ntmps99
  go_wp2
  have hk0 := (KeepM.init w (.int .i64 f1) (.bool n1) (.slice A lxa ca) (.slice B lya cb) (.int .i64 f2) (.bool n2) (.slice C lxb cc) (.slice D lyb cd) (.int .i64 0) (.bool false) (.slice none 0 0) (.slice none 0 0) 26 26 26).ext ((Ext.refl _).drew)
  go_region_held (fun w' => KeepM w (.int .i64 f1) (.bool n1) (.slice A lxa ca) (.slice B lya cb) (.int .i64 f2) (.bool n2) (.slice C lxb cc) (.slice D lyb cd) w')
    (first | assumption | exact KeepM.ext (by assumption) (by assumption) | exact (((KeepM.set (by assumption) _ _).set _ _).set _ _).set _ _) (first | (go_at_call 100; with_reducible refine (Mul_calls (HXA.out.ext (Aside.out (And.left (show KeepM w (.int .i64 f1) (.bool n1) (.slice A lxa ca) (.slice B lya cb) (.int .i64 f2) (.bool n2) (.slice C lxb cc) (.slice D lyb cd) _ from by assumption)))) (HXB.out.ext (Aside.out (And.left (show KeepM w (.int .i64 f1) (.bool n1) (.slice A lxa ca) (.slice B lya cb) (.int .i64 f2) (.bool n2) (.slice C lxb cc) (.slice D lyb cd) _ from by assumption))))).mono ?_; rintro e w5 ⟨r, rfl, hr, he5⟩; have HR5 := Aside.mk hr; obtain ⟨A5, c5, rfl, _⟩ := hr.form; clear hr) | (go_at_call 100; with_reducible refine (Mul_calls (HYA.out.ext (Aside.out (And.left (show KeepM w (.int .i64 f1) (.bool n1) (.slice A lxa ca) (.slice B lya cb) (.int .i64 f2) (.bool n2) (.slice C lxb cc) (.slice D lyb cd) _ from by assumption)))) (HYB.out.ext (Aside.out (And.left (show KeepM w (.int .i64 f1) (.bool n1) (.slice A lxa ca) (.slice B lya cb) (.int .i64 f2) (.bool n2) (.slice C lxb cc) (.slice D lyb cd) _ from by assumption))))).mono ?_; rintro e w6 ⟨r, rfl, hr, he6⟩; have HR6 := Aside.mk hr; have HE6 := Aside.mk he6; obtain ⟨A6, c6, rfl, _⟩ := hr.form; clear hr) | (go_at_call 86; refine natural_calls.mono ?_; rintro e w' ⟨rfl, rfl⟩) | (go_at_call 67; with_reducible refine (quotient_q (NV.of (HR5.out.ext HE6.out).rv (Nat.le_trans HL1.out (by decide))) (NV.of HR6.out.rv (Nat.le_trans HL2.out (by decide))) HQ.out).mono ?_; rintro e w7 ⟨r, rfl, hr, he7⟩; have HR7 := Aside.mk hr; obtain ⟨A7, c7, B7, d7, rfl⟩ := hr.form; clear hr))
  have hk6 := KeepM.ext he6 (KeepM.ext he5 hk0)
  have hk7 := KeepM.ext he7 hk6
  have hz : w.heap.size + 2 < w6.heap.size := World.block_lt_of_cell? _ _ hk6.2.2.2.1.1
  have HK := Aside.mk hk7
  have HZ := Aside.mk hz
  clear hk0 hk6 hz
  go_wp2
  refine bodyPost_ret (v := .agg #[.int .i64 q.f, .bool q.neg, .slice A7 q.num.length c7, .slice B7 q.den.length d7]) (by simp [results, Tryz.results99, go_sem, hk7]) rfl ⟨_, rfl, (HR7.out.set4 HZ.out _ _ _ _).mono (by have := HZ.out; omega), ext_set4 HK.out.1.out (by omega) _ _ _ _⟩

set_option maxRecDepth 10000 in
set_option maxHeartbeats 4000000 in
theorem div1_calls {w : World} {u v : Value} {f1 f2 : Int} {n1 n2 : Bool} {a b c d : Nat} (hu : RR w u ⟨f1, n1, dig a, dig b⟩) (hv : RR w v ⟨f2, n2, dig c, dig d⟩) (ha : (dig a).length ≤ 128) (hb : (dig b).length ≤ 128) (hc : (dig c).length ≤ 128) (hd : (dig d).length ≤ 128) :
    Calls Tryz.prog 101 #[u, v] w fun e w' => ∃ r, e = .returned r ∧ RO w.heap.size w' r (ratio (n1 != n2) (a * d) (b * c)) ∧ Ext w w' := by
  obtain ⟨x, y, rfl, hxa, hya⟩ := hu
  obtain ⟨x', y', rfl, hxb, hyb⟩ := hv
  dsimp only at *
  have HXA := Aside.mk (NV.of hxa (by omega))
  have HYA := Aside.mk (NV.of hya (by omega))
  have HXB := Aside.mk (NV.of hxb (by omega))
  have HYB := Aside.mk (NV.of hyb (by omega))
  have HL1 : Aside ((dig (a * d)).length ≤ 256) := ⟨len_mul ha hd⟩
  have HL2 : Aside ((dig (b * c)).length ≤ 256) := ⟨len_mul hb hc⟩
  rw [show (n1 != n2) = (!n1 == n2) from by cases n1 <;> cases n2 <;> rfl]
  obtain ⟨q, hq⟩ : ∃ q, ratio (!n1 == n2) (a * d) (b * c) = q := ⟨_, rfl⟩
  have HQ := Aside.mk hq
  rw [hq]
  obtain ⟨A, ca, rfl, _⟩ := hxa
  obtain ⟨B, cb, rfl, _⟩ := hya
  obtain ⟨C, cc, rfl, _⟩ := hxb
  obtain ⟨D, cd, rfl, _⟩ := hyb
  clear ha hb hc hd hq
  generalize (dig a).length = lxa at *
  generalize (dig b).length = lya at *
  generalize (dig c).length = lxb at *
  generalize (dig d).length = lyb at *
  go_enter Tryz.func101, Tryz.ntmps101
  go_wp2
  have hk0 := (KeepM.init w (.int .i64 f1) (.bool n1) (.slice A lxa ca) (.slice B lya cb) (.int .i64 f2) (.bool n2) (.slice C lxb cc) (.slice D lyb cd) (.int .i64 0) (.bool false) (.slice none 0 0) (.slice none 0 0) 26 26 26).ext ((Ext.refl _).drew)
  go_region_held (fun w' => KeepM w (.int .i64 f1) (.bool n1) (.slice A lxa ca) (.slice B lya cb) (.int .i64 f2) (.bool n2) (.slice C lxb cc) (.slice D lyb cd) w')
    (first | assumption | exact KeepM.ext (by assumption) (by assumption) | exact (((KeepM.set (by assumption) _ _).set _ _).set _ _).set _ _) (first | (go_at_call 100; with_reducible refine (Mul_calls (HXA.out.ext (Aside.out (And.left (show KeepM w (.int .i64 f1) (.bool n1) (.slice A lxa ca) (.slice B lya cb) (.int .i64 f2) (.bool n2) (.slice C lxb cc) (.slice D lyb cd) _ from by assumption)))) (HYB.out.ext (Aside.out (And.left (show KeepM w (.int .i64 f1) (.bool n1) (.slice A lxa ca) (.slice B lya cb) (.int .i64 f2) (.bool n2) (.slice C lxb cc) (.slice D lyb cd) _ from by assumption))))).mono ?_; rintro e w5 ⟨r, rfl, hr, he5⟩; have HR5 := Aside.mk hr; obtain ⟨A5, c5, rfl, _⟩ := hr.form; clear hr) | (go_at_call 100; with_reducible refine (Mul_calls (HYA.out.ext (Aside.out (And.left (show KeepM w (.int .i64 f1) (.bool n1) (.slice A lxa ca) (.slice B lya cb) (.int .i64 f2) (.bool n2) (.slice C lxb cc) (.slice D lyb cd) _ from by assumption)))) (HXB.out.ext (Aside.out (And.left (show KeepM w (.int .i64 f1) (.bool n1) (.slice A lxa ca) (.slice B lya cb) (.int .i64 f2) (.bool n2) (.slice C lxb cc) (.slice D lyb cd) _ from by assumption))))).mono ?_; rintro e w6 ⟨r, rfl, hr, he6⟩; have HR6 := Aside.mk hr; have HE6 := Aside.mk he6; obtain ⟨A6, c6, rfl, _⟩ := hr.form; clear hr) | (go_at_call 86; refine natural_calls.mono ?_; rintro e w' ⟨rfl, rfl⟩) | (go_at_call 67; with_reducible refine (quotient_q (NV.of (HR5.out.ext HE6.out).rv (Nat.le_trans HL1.out (by decide))) (NV.of HR6.out.rv (Nat.le_trans HL2.out (by decide))) HQ.out).mono ?_; rintro e w7 ⟨r, rfl, hr, he7⟩; have HR7 := Aside.mk hr; obtain ⟨A7, c7, B7, d7, rfl⟩ := hr.form; clear hr))
  have hk6 := KeepM.ext he6 (KeepM.ext he5 hk0)
  have hk7 := KeepM.ext he7 hk6
  have hz : w.heap.size + 2 < w6.heap.size := World.block_lt_of_cell? _ _ hk6.2.2.2.1.1
  have HK := Aside.mk hk7
  have HZ := Aside.mk hz
  clear hk0 hk6 hz
  go_wp2
  refine bodyPost_ret (v := .agg #[.int .i64 q.f, .bool q.neg, .slice A7 q.num.length c7, .slice B7 q.den.length d7]) (by simp [results, Tryz.results101, go_sem, hk7]) rfl ⟨_, rfl, (HR7.out.set4 HZ.out _ _ _ _).mono (by have := HZ.out; omega), ext_set4 HK.out.1.out (by omega) _ _ _ _⟩
end Go.Proofs.YtgfkachfbnbikaaGreatDoor
