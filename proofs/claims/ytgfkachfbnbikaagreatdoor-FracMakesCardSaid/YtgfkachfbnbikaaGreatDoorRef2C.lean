/- Contracts: fluxionref02.Of, digits, Equal; fluxionlaw02.gives, zero, cut. -/
import Derived.Test.YtgfkachfbnbikaaGreatDoorRef2B
namespace Go.Proofs.YtgfkachfbnbikaaGreatDoor
open Go.RowKit

set_option maxRecDepth 10000 in
set_option maxHeartbeats 1000000 in
theorem rOf_calls {w : World} {n d : Int} {q : Rq} (h1 : -9223372036854775808 ≤ n) (h2 : n ≤ 9223372036854775807) (h3 : -9223372036854775808 ≤ d) (h4 : d ≤ 9223372036854775807) (hq : ratio (decide (n < 0) != decide (d < 0)) n.natAbs d.natAbs = q) :
    Calls Tryz.prog 18 #[.int .i64 n, .int .i64 d] w fun e w' => ∃ r, e = .returned r ∧ RO w.heap.size w' r q ∧ Ext w w' := by
  obtain ⟨a, ha⟩ : ∃ a, n.natAbs = a := ⟨_, rfl⟩
  obtain ⟨b, hb⟩ : ∃ b, d.natAbs = b := ⟨_, rfl⟩
  have ha4 : a < 18446744073709551616 := by omega
  have hb4 : b < 18446744073709551616 := by omega
  rw [ha, hb] at hq
  have H1 := Aside.mk h1
  have H2 := Aside.mk h2
  have H3 := Aside.mk h3
  have H4 := Aside.mk h4
  have HA := Aside.mk ha
  have HB := Aside.mk hb
  have HA4 := Aside.mk ha4
  have HB4 := Aside.mk hb4
  have HLA : Aside ((dig a).length < 1073741824) := ⟨Nat.lt_of_le_of_lt (nv64 ha4) (by decide)⟩
  have HLB : Aside ((dig b).length < 1073741824) := ⟨Nat.lt_of_le_of_lt (nv64 hb4) (by decide)⟩
  generalize hx : decide (n < 0) = bn at *
  generalize hy : decide (d < 0) = bd at *
  have HQ : Aside (ratio (!bn == bd) a b = q) := ⟨by rw [← hq]; cases bn <;> cases bd <;> rfl⟩
  have hk0 := Keep4.init (Ext.refl w) (.int .i64 0) (.bool false) (.slice none 0 0) (.slice none 0 0) 26
  clear h1 h2 h3 h4 ha hb ha4 hb4 hq
  go_enter Tryz.func18, Tryz.ntmps18
  go_wp2_with (first | (go_at_call 69; with_reducible refine (rsize_calls H1.out H2.out HA.out).mono ?_; rintro e w' ⟨rfl, rfl⟩) | (go_at_call 69; with_reducible refine (rsize_calls H3.out H4.out HB.out).mono ?_; rintro e w' ⟨rfl, rfl⟩) | (go_at_call 68; with_reducible refine (rof_calls HA4.out).mono ?_; rintro e w1 ⟨r1, rfl, hr, he⟩; have hk1 := Keep4.ext he hk0; have HR1 := Aside.mk hr.rv; have HZ0 := Aside.mk (World.block_lt_of_cell? _ _ hk0.2.1.1); have HE1 := Aside.mk he; clear hk0 hr he) | (go_at_call 68; with_reducible refine (rof_calls HB4.out).mono ?_; rintro e w2 ⟨r2, rfl, hr, he⟩; have hk2 := Keep4.ext he hk1; have HR2 := Aside.mk hr.rv; have HR1' := Aside.mk (HR1.out.ext he); have HZ1 := Aside.mk (World.block_lt_of_cell? _ _ hk1.2.1.1); clear hk1 hr he) | (go_at_call 24; with_reducible refine (rratio_calls HR1'.out HR2.out HLA.out HLB.out HQ.out).mono ?_; rintro e w3 ⟨r, rfl, hr, he⟩; have hk3 := Keep4.ext he hk2; have HZ2 := Aside.mk (World.block_lt_of_cell? _ _ hk2.2.1.1); have HR := Aside.mk hr; obtain ⟨A2, c2, B2, d2, rfl⟩ := hr.form; clear hk2 hr he))
  have HK := Aside.mk hk3
  refine bodyPost_ret (v := .agg #[.int .i64 q.f, .bool q.neg, .slice A2 q.num.length c2, .slice B2 q.den.length d2]) (by simp [results, Tryz.results18, go_sem, hk3]) rfl ⟨_, rfl, (HR.out.set4 HZ2.out _ _ _ _).mono (Nat.le_of_lt HZ2.out), ext_set4 HK.out.1.out (Nat.le_refl _) _ _ _ _⟩

theorem getD_cons_eq {xs ys : List Nat} (h : xs.length = ys.length) (hall : ∀ j, j < xs.length → xs.getD j 0 = ys.getD j 0) : xs = ys := by
  apply List.ext_getElem h
  intro i h1 h2
  have := hall i h1
  rwa [List.getD_eq_getElem?_getD, List.getD_eq_getElem?_getD, List.getElem?_eq_getElem h1, List.getElem?_eq_getElem h2] at this
theorem rdigits_calls {w : World} {u v : Value} {xs ys : List Nat} {b : Bool} (hu : RV w u xs) (hv : RV w v ys) (hb : decide (xs = ys) = b) :
    Calls Tryz.prog 93 #[u, v] w fun e w' => e = .returned (.bool b) ∧ Ext w w' := by
  obtain ⟨A, c, rfl, hc, hd, hr⟩ := id hu
  obtain ⟨B, d, rfl, hc', hd', hr'⟩ := id hv
  have HU := Aside.mk hu
  have HV := Aside.mk hv
  have hl : xs.length ≤ 1073741824 := hd.1
  have HB := Aside.mk hb
  clear hu hv hd hd' hr hr' hb
  by_cases hll : xs.length = ys.length
  · have HLL := Aside.mk hll
    rw [← hll]
    rw [← hll] at hc'
    clear hll
    go_enter Tryz.func93, Tryz.ntmps93
    go_wp2
    go_loopw [5] (fun i wr => ∃ k : Nat, k ≤ xs.length ∧ i = .int .i64 (k : Int) ∧ Aside (∀ j, j < k → xs.getD j 0 = ys.getD j 0) ∧ Aside (∃ n, wr = w.drewN n)) (fun i _ => xs.length - (intOf i).toNat)
    case atStart => exact ⟨0, Nat.zero_le _, rfl, ⟨fun j h => by omega⟩, ⟨0, rfl⟩⟩
    case round =>
      obtain ⟨k, hk, rfl, HK, HW⟩ := hrel
      by_cases hlt : k < xs.length
      · obtain ⟨ad, rfl, hx⟩ := HU.out.at' k hlt
        obtain ⟨bd, rfl, hy⟩ := HV.out.at' k (by have := HLL.out; omega)
        obtain ⟨n, rfl⟩ := HW.out
        obtain ⟨x, hxx⟩ : ∃ x, xs.getD k 0 = x := ⟨_, rfl⟩
        obtain ⟨y, hyy⟩ : ∃ y, ys.getD k 0 = y := ⟨_, rfl⟩
        rw [hxx] at hx
        rw [hyy] at hy
        have HXX := Aside.mk hxx
        have HYY := Aside.mk hyy
        clear hxx hyy
        by_cases hxy : x = y
        · subst hxy
          go_wp2
          go_quiet (fail)
          go_wp2
          go_roundw
          case rel => exact ⟨k + 1, by omega, by go_num, ⟨fun j hj => by
            rcases Nat.lt_or_ge j k with h | h
            · exact HK.out j h
            · obtain rfl : j = k := by omega
              rw [HXX.out, HYY.out]⟩, ⟨_, rfl⟩⟩
          case measure => simp [intOf]; omega
        · have hne : ((x : Int) == (y : Int)) = false := beq_eq_false_iff_ne.2 (by omega)
          have hne' : ((x : Int) != (y : Int)) = true := by simp [bne, hne]
          have HF : Aside (b = false) := ⟨by rw [← HB.out]; apply decide_eq_false; intro h; apply hxy; rw [← HXX.out, ← HYY.out, h]⟩
          clear hxy
          go_wp2
          go_quiet (fail)
          go_wp2
          go_ret
          exact ⟨by rw [HF.out]; rfl, ((Ext.refl w).drewN _).drewN _⟩
      · have hkx : k = xs.length := by omega
        have HT : Aside (b = true) := ⟨by rw [← HB.out]; apply decide_eq_true; exact getD_cons_eq HLL.out (fun j hj => HK.out j (by omega))⟩
        subst hkx
        obtain ⟨n, rfl⟩ := HW.out
        go_wp2
        go_ret
        exact ⟨by rw [HT.out]; rfl, (Ext.refl w).drewN _⟩
  · have HF : Aside (b = false) := ⟨by rw [← HB.out]; apply decide_eq_false; intro h; apply hll; rw [h]⟩
    have hne : ((xs.length : Int) == (ys.length : Int)) = false := beq_eq_false_iff_ne.2 (by omega)
    have hne' : ((xs.length : Int) != (ys.length : Int)) = true := by simp [bne, hne]
    clear hll
    go_enter Tryz.func93, Tryz.ntmps93
    go_wp2
    go_ret
    exact ⟨by rw [HF.out]; rfl, Ext.refl w⟩

/-- Two boxes of four cells. -/
abbrev KeepE (w : World) (x0 x1 x2 x3 y0 y1 y2 y3 : Value) (w' : World) : Prop :=
  Aside (Ext w w') ∧ (w'.cell? ⟨w.heap.size, 0, none⟩ = some x0 ∧ w'.cell? ⟨w.heap.size, 1, none⟩ = some x1 ∧ w'.cell? ⟨w.heap.size, 2, none⟩ = some x2 ∧ w'.cell? ⟨w.heap.size, 3, none⟩ = some x3) ∧
    (w'.cell? ⟨w.heap.size + 1, 0, none⟩ = some y0 ∧ w'.cell? ⟨w.heap.size + 1, 1, none⟩ = some y1 ∧ w'.cell? ⟨w.heap.size + 1, 2, none⟩ = some y2 ∧ w'.cell? ⟨w.heap.size + 1, 3, none⟩ = some y3)
theorem KeepE.ext {w w1 w2 : World} {x0 x1 x2 x3 y0 y1 y2 y3 : Value} (e : Ext w1 w2) (h : KeepE w x0 x1 x2 x3 y0 y1 y2 y3 w1) : KeepE w x0 x1 x2 x3 y0 y1 y2 y3 w2 :=
  ⟨⟨h.1.out.trans e⟩, ⟨e.cell h.2.1.1, e.cell h.2.1.2.1, e.cell h.2.1.2.2.1, e.cell h.2.1.2.2.2⟩, ⟨e.cell h.2.2.1, e.cell h.2.2.2.1, e.cell h.2.2.2.2.1, e.cell h.2.2.2.2.2⟩⟩
theorem KeepE.init (w : World) (x0 x1 x2 x3 y0 y1 y2 y3 : Value) (t t' : TypeId) : KeepE w x0 x1 x2 x3 y0 y1 y2 y3 ((w.alloc (.cells #[x0, x1, x2, x3] t)).alloc (.cells #[y0, y1, y2, y3] t')) :=
  ⟨⟨((Ext.refl w).alloc _).alloc _⟩, ⟨cell_old (cell_new rfl rfl), cell_old (cell_new rfl rfl), cell_old (cell_new rfl rfl), cell_old (cell_new rfl rfl)⟩,
    ⟨cell_new (by simp) rfl, cell_new (by simp) rfl, cell_new (by simp) rfl, cell_new (by simp) rfl⟩⟩
set_option maxRecDepth 10000 in
set_option maxHeartbeats 1000000 in
/-- A Rat equals one with the same fields. -/
theorem requal_same {w : World} {u v : Value} {q : Rq} (hu : RR w u q) (hv : RR w v q) :
    Calls Tryz.prog 33 #[u, v] w fun e w' => e = .returned (.bool true) ∧ Ext w w' := by
  obtain ⟨x, y, rfl, hx, hy⟩ := hu
  obtain ⟨x', y', rfl, hx', hy'⟩ := hv
  obtain ⟨f, neg, xs, ys⟩ := q
  dsimp only at *
  have HX := Aside.mk hx
  have HY := Aside.mk hy
  have HX' := Aside.mk hx'
  have HY' := Aside.mk hy'
  obtain ⟨A, ca, rfl, _⟩ := hx
  obtain ⟨B, cb, rfl, _⟩ := hy
  obtain ⟨C, cc, rfl, _⟩ := hx'
  obtain ⟨D, cd, rfl, _⟩ := hy'
  have hk0 := KeepE.init w (.int .i64 f) (.bool neg) (.slice A xs.length ca) (.slice B ys.length cb) (.int .i64 f) (.bool neg) (.slice C xs.length cc) (.slice D ys.length cd) 26 26
  generalize xs.length = lx at *
  generalize ys.length = ly at *
  go_enter Tryz.func33, Tryz.ntmps33
  go_wp2_with (first | (go_at_call 93; with_reducible refine (rdigits_calls (HX.out.ext hk0.1.out) (HX'.out.ext hk0.1.out) (decide_eq_true rfl)).mono ?_; rintro e w1 ⟨rfl, he⟩; have hk1 := KeepE.ext he hk0; clear hk0 he) | (go_at_call 93; with_reducible refine (rdigits_calls (HY.out.ext hk1.1.out) (HY'.out.ext hk1.1.out) (decide_eq_true rfl)).mono ?_; rintro e w2 ⟨rfl, he⟩; have hk2 := KeepE.ext he hk1; clear hk1 he))
  go_ret
  exact ⟨by simp, hk2.1.out⟩
set_option maxRecDepth 10000 in
/-- A result without an error, and the Rat that is wanted. -/
theorem gives_same {w : World} {u v : Value} {q : Rq} (hu : RR w u q) (hv : RR w v q) :
    Calls Tryz.prog 17 #[u, .int .i64 0, v] w fun e w' => e = .returned (.bool true) ∧ Ext w w' := by
  have HU := Aside.mk hu
  have HV := Aside.mk hv
  obtain ⟨A, ca, B, cb, rfl⟩ := hu.form
  obtain ⟨C, cc, D, cd, rfl⟩ := hv.form
  have hk0 := KeepE.init w (.int .i64 q.f) (.bool q.neg) (.slice A q.num.length ca) (.slice B q.den.length cb) (.int .i64 q.f) (.bool q.neg) (.slice C q.num.length cc) (.slice D q.den.length cd) 26 26
  clear hu hv
  go_enter Tryz.func17, Tryz.ntmps17
  go_wp2_with (go_at_call 33; with_reducible refine (requal_same (HU.out.ext hk0.1.out) (HV.out.ext hk0.1.out)).mono ?_; rintro e w1 ⟨rfl, he⟩; have hk1 := KeepE.ext he hk0; clear hk0 he)
  go_ret
  exact ⟨rfl, hk1.1.out⟩
/-- The zero Rat. -/
theorem zero_true {w : World} :
    Calls Tryz.prog 22 #[.agg #[.int .i64 0, .bool false, .slice none 0 0, .slice none 0 0]] w fun e w' => e = .returned (.bool true) ∧ Ext w w' := by
  go_enter Tryz.func22, Tryz.ntmps22
  go_wp2
  go_ret
  exact ⟨by simp, (Ext.refl w).alloc _⟩
theorem RV.take {w : World} {A : Option Addr} {n c : Nat} {xs : List Nat} (h : RV w (.slice A n c) xs) (k : Nat) (hk : k ≤ xs.length) : RV w (.slice A k c) (xs.take k) := by
  obtain ⟨A', c', e, hc, hd, hr⟩ := h
  injection e with e1 e2 e3
  subst e1 e3
  have hl : (xs.take k).length = k := by simp; omega
  refine ⟨A, c, by rw [hl], by rw [hl]; omega, ⟨by rw [hl]; have := hd.1; omega, fun x hx => hd.2 x (List.mem_of_mem_take hx)⟩, ?_⟩
  intro j v hj
  refine hr j v ?_
  have : u32s (xs.take k) = (u32s xs).take k := by simp [u32s, List.map_take]
  rw [this, List.getElem?_take] at hj
  split at hj
  · exact hj
  · cases hj
/-- A slice that reads as digits, of any length. -/
def RL (w : World) (v : Value) (xs : List Nat) : Prop := ∃ A c, v = .slice A xs.length c ∧ xs.length ≤ c ∧ xs.length ≤ maxLen ∧ (∀ x ∈ xs, x < 4294967296) ∧ Rd w A (u32s xs)
theorem RL.ext {a b : World} {v : Value} {xs : List Nat} (h : RL a v xs) (e : Ext a b) : RL b v xs := let ⟨A, c, h1, h2, h3, h4, h5⟩ := h; ⟨A, c, h1, h2, h3, h4, h5.ext e⟩
theorem RL.take {w : World} {A : Option Addr} {n c : Nat} {xs : List Nat} (h : RL w (.slice A n c) xs) (k : Nat) (hk : k ≤ xs.length) (hk' : k ≤ 1073741824) : RV w (.slice A k c) (xs.take k) := by
  obtain ⟨A', c', e, hc, _, hd, hr⟩ := h
  injection e with e1 e2 e3
  subst e1 e3
  have hl : (xs.take k).length = k := by simp; omega
  refine ⟨A, c, by rw [hl], by rw [hl]; omega, ⟨by rw [hl]; omega, fun x hx => hd x (List.mem_of_mem_take hx)⟩, ?_⟩
  intro j v hj
  refine hr j v ?_
  have : u32s (xs.take k) = (u32s xs).take k := by simp [u32s, List.map_take]
  rw [this, List.getElem?_take] at hj
  split at hj
  · exact hj
  · cases hj
/-- A copy of at most so many digits. -/
theorem cut_calls {w : World} {u : Value} {xs ys : List Nat} {m : Int} {most : Nat} (hu : RL w u xs) (hm : m = (most : Int)) (hmost : most ≤ 1073741824) (hy : xs.take most = ys) :
    Calls Tryz.prog 19 #[u, .int .i64 m] w fun e w' => ∃ r, e = .returned r ∧ OV w.heap.size w' r ys ∧ Ext w w' := by
  subst hm
  subst hy
  obtain ⟨k, hk⟩ : ∃ k, min xs.length most = k := ⟨_, rfl⟩
  have hmin : min (xs.length : Int) (most : Int) = (k : Int) := by omega
  have e : xs.take most = xs.take k := by rw [← hk, Nat.min_comm]; exact List.take_eq_take_min
  rw [e]
  obtain ⟨A, c, rfl, hc, hl, hd, _⟩ := id hu
  have hkl : k ≤ xs.length := by omega
  have hkc : k ≤ c := by omega
  have HU := Aside.mk (hu.take k hkl (by omega))
  generalize xs.length = n at *
  clear hu hd hk e hmost
  go_enter Tryz.func19, Tryz.ntmps19
  go_wp2_with (at_builtin; (refine copy_rv rfl _ _ rfl _ _ HU.out rfl rfl ?_; intro v1 w9 h9 e9; have HV9 := Aside.mk h9; have HE9 := Aside.mk e9; clear h9 e9))
  go_ret
  exact ⟨_, rfl, HV9.out, HE9.out⟩
end Go.Proofs.YtgfkachfbnbikaaGreatDoor
