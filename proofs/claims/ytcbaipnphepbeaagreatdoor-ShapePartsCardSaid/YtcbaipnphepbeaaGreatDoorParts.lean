/- The elements of an array, packed, are the array; plain. The law ShapeParts: it returns true. ShapeParts: of every input the call returns true, and each argument reads behind it as it read before. ShapeParts: the tied card holds: Pack of all elements of an array is the array, Element of Pack is the value, and Size of an array is the number of its elements times their size. Conditions: the package-level variables that the row lists start as the program's text lays them (the tie is given). -/
import Derived.Test.YtcbaipnphepbeaaGreatDoorN3
import Derived.Test.YtcbaipnphepbeaaGreatDoorNw
import Derived.Test.YtcbaipnphepbeaaGreatDoorN9
import Derived.Test.YtcbaipnphepbeaaGreatDoorN2
import Derived.Test.YtcbaipnphepbeaaGreatDoorNx
import Derived.Test.YtcbaipnphepbeaaGreatDoorNr
import Derived.Test.YtcbaipnphepbeaaGreatDoorNu
import Derived.Test.YtcbaipnphepbeaaGreatDoorCards
import Derived.Test.YtcbaipnphepbeaaGreatDoorTie
import Derived.SevenTiedAt
namespace Go.Proofs.YtcbaipnphepbeaaGreatDoor
open Go.RowKit

/-- The first elements of an array. -/
def elemsTo (v : Vq) (j : Nat) : List Vq := (List.range j).map (elemV v)
theorem elemsTo_len (v : Vq) (j : Nat) : (elemsTo v j).length = j := by simp [elemsTo]
theorem elemsTo_succ (v : Vq) (j : Nat) : elemsTo v (j + 1) = elemsTo v j ++ [elemV v j] := by simp [elemsTo, List.range_succ]
theorem elemsTo_get (v : Vq) {i j : Nat} (h : i < j) : (elemsTo v j)[i]? = some (elemV v i) := by
  unfold elemsTo
  rw [List.getElem?_map, List.getElem?_range h]
  rfl
theorem pack_elems {v : Vq} {n : Nat} {ds : List Int} (h : valOk v = true) (hd : v.ds = (n : Int) :: ds) : packR (elemsTo v n) = (v, 0) := by
  have hD := valOk_dims h
  have hn := hD.2 n (by rw [hd]; simp)
  have hl3 := hD.1
  have hp := (dims_tail (hd ▸ hD)).prod
  obtain ⟨m, hm⟩ : ∃ m : Nat, prodI ds = (m : Int) := ⟨(prodI ds).toNat, by omega⟩
  have htl : v.ds.tail = ds := by rw [hd]; rfl
  have hprod : prodI v.ds = ((n * m : Nat) : Int) := by rw [hd, prodI_cons, hm]; simp
  have hm2 : (prodI v.ds.tail).toNat = m := by rw [htl, hm]; rfl
  have hq := packR_ok (l := elemsTo v n) (q0 := elemV v 0) (by rw [elemsTo_len]; omega) (by
      rw [List.any_eq_false]
      intro q hq
      obtain ⟨i, hi, rfl⟩ := List.mem_map.1 hq
      rw [elem_ok h hd (by have := List.mem_range.1 hi; omega)]
      decide) (by rw [elemsTo_len]; omega) (elemsTo_get v (by omega)) (by
      rw [List.any_eq_false]
      intro q hq
      obtain ⟨i, hi, rfl⟩ := List.mem_map.1 hq
      have : tySame (elemV v i).k (elemV v i).ds (elemV v 0).k (elemV v 0).ds = true := by
        show tySame v.k v.ds.tail v.k v.ds.tail = true
        unfold tySame
        simp
      rw [this]
      decide) (by
      show v.ds.tail.length ≠ 3
      rw [htl]
      rw [hd] at hl3
      simp at hl3
      omega)
  rw [hq, elemsTo_len]
  have e1 : (elemsTo v n).flatMap (·.nums) = v.nums.take (n * m) := by
    unfold elemsTo
    rw [List.flatMap_map]
    have : (fun i => (elemV v i).nums) = fun i => (v.nums.drop (i * m)).take m := by
      funext i
      unfold elemV
      rw [hm2]
    rw [this, chunks]
  have e2 : (elemsTo v n).flatMap (·.bits) = v.bits.take (n * m) := by
    unfold elemsTo
    rw [List.flatMap_map]
    have : (fun i => (elemV v i).bits) = fun i => (v.bits.drop (i * m)).take m := by
      funext i
      unfold elemV
      rw [hm2]
    rw [this, chunks]
  have hlen : v.nums.length ≤ n * m ∧ v.bits.length ≤ n * m := by
    have h2 := h
    unfold valOk at h2
    simp only [Bool.and_eq_true] at h2
    have h2 := h2.2
    rw [hprod] at h2
    split at h2
    · simp only [Bool.and_eq_true, beq_iff_eq] at h2; omega
    · split at h2
      · simp only [Bool.and_eq_true, beq_iff_eq] at h2; omega
      · cases h2
  rw [e1, e2, List.take_of_length_le hlen.1, List.take_of_length_le hlen.2]
  show ((⟨v.k, (n : Int) :: v.ds.tail, v.nums, v.bits⟩ : Vq), (0 : Int)) = (v, 0)
  rw [htl, ← hd]
theorem size_of {v : Vq} (h : valOk v = true) : sizeR v.k v.ds = (prodI v.ds, 0) := by
  unfold valOk at h
  simp only [Bool.and_eq_true] at h
  have hk : v.k ≠ 3 := by
    intro e
    have h2 := h.2
    rw [e] at h2
    simp at h2
  unfold sizeR
  rw [if_pos h.1, if_neg hk]
  rfl
end Go.Proofs.YtcbaipnphepbeaaGreatDoor

namespace Go.Proofs.YtcbaipnphepbeaaGreatDoor
open Go.RowKit
attribute [local go_sem ↓] Go.wp_at_zero Go.wp_at_succ

/-- The box of the type. -/
def Typed6 (w : World) (g6 : Nat) (k : Int) (W : World) : Prop := ∃ (d : Int) (ds : List Int) (b o n c : Nat), B2 W g6 (.int .i64 k) (.slice (some ⟨b, o, none⟩) n c) ∧ W.cell? ⟨b, o, none⟩ = some (.int .i64 d) ∧ IV W (.slice (some ⟨b, o, none⟩) n c) (d :: ds) ∧ n = ds.length + 1 ∧ n ≤ c ∧ Dims (d :: ds) ∧ Ext w W
theorem fit_v {w : World} {tv xv yv : Value} {k : Int} {ds : List Int} {ns : List Rq} {bts : List Bq} (ht : IV w tv ds) (hk : k = 1 ∨ k = 2) (hd : Dims ds) (hn : QV w xv ns) (hb : BV w yv bts) :
    Calls Tryz.prog 23 #[.agg #[.int .i64 k, tv], xv, yv] w fun e w' => ∃ v D d A a B b l1 l2 l3, e = .returned (.agg #[.int .i64 k, .slice D l1 d, .slice A l2 a, .slice B l3 b]) ∧ VV w' (.agg #[.int .i64 k, .slice D l1 d, .slice A l2 a, .slice B l3 b]) v ∧ valOk v = true ∧ v.k = k ∧ v.ds = ds ∧ v.ds.length = l1 ∧ v.nums.length = l2 ∧ v.bits.length = l3 ∧ Ext w w' := by
  refine (fit_calls ⟨_, rfl, ht⟩ hd hn hb).mono ?_
  rintro e w' ⟨r, rfl, hr, he⟩
  obtain ⟨D, d, A, a, B, b, rfl⟩ := hr.vv.form
  exact ⟨_, D, d, A, a, B, b, _, _, _, rfl, hr.vv, fitV_ok hk hd, rfl, rfl, rfl, rfl, rfl, he⟩
theorem elem_vo {w : World} {x : Value} {v el : Vq} {i : Nat} {d ek : Int} {ds : List Int} {l1 l2 l3 : Nat} (h : VV w x v) (ho : valOk v = true) (hd : v.ds = d :: ds) (hi : (i : Int) < d) (hel : elemV v i = el) (hk : el.k = ek) (h1 : el.ds.length = l1) (h2 : el.nums.length = l2) (h3 : el.bits.length = l3) :
    Calls Tryz.prog 16 #[x, .int .i64 (i : Int)] w fun e w' => ∃ D d A a B b, e = .returned (.tuple #[.agg #[.int .i64 ek, .slice D l1 d, .slice A l2 a, .slice B l3 b], .int .i64 0]) ∧ VO w.heap.size w' (.agg #[.int .i64 ek, .slice D l1 d, .slice A l2 a, .slice B l3 b]) el ∧ Ext w w' := by
  subst hel hk h1 h2 h3
  refine (element_ok h ho hd hi).mono ?_
  rintro e w' ⟨r, rfl, hr, he⟩
  obtain ⟨D, d, A, a, B, b, rfl⟩ := hr.vv.form
  exact ⟨D, d, A, a, B, b, rfl, hr, he⟩
theorem pack_to {w : World} {v : Value} {l : List Vq} {p : Vq} {k : Int} {l1 l2 l3 : Nat} (h : LV w v l) (hm : packR l = (p, 0)) (hk : p.k = k) (h1 : p.ds.length = l1) (h2 : p.nums.length = l2) (h3 : p.bits.length = l3) :
    Calls Tryz.prog 42 #[v] w fun e w' => ∃ D d A a B b, e = .returned (.tuple #[.agg #[.int .i64 k, .slice D l1 d, .slice A l2 a, .slice B l3 b], .int .i64 0]) ∧ VV w' (.agg #[.int .i64 k, .slice D l1 d, .slice A l2 a, .slice B l3 b]) p ∧ Ext w w' := by
  subst hk h1 h2 h3
  refine (pack_calls h hm).mono ?_
  rintro e w' ⟨⟨r, rfl, hr⟩, he⟩
  obtain ⟨D, d, A, a, B, b, rfl⟩ := hr.vv.form
  exact ⟨D, d, A, a, B, b, rfl, hr.vv, he⟩
theorem tl_of_vv {w : World} {k : Int} {d n b : Value} {v : Vq} (h : VV w (.agg #[.int .i64 k, d, n, b]) v) : TL w (.agg #[.int .i64 k, d]) k v.ds := by
  obtain ⟨dv, nv, bv, hev, hiv, hqv, hbv⟩ := h
  simp only [Value.agg.injEq, Array.mk.injEq, List.cons.injEq, Value.int.injEq, true_and, and_true] at hev
  obtain ⟨rfl, rfl, rfl, rfl⟩ := hev
  exact TL.of hiv
theorem vv_nums {w : World} {k : Int} {d n b : Value} {v : Vq} (h : VV w (.agg #[.int .i64 k, d, n, b]) v) : IV w d v.ds ∧ QV w n v.nums ∧ BV w b v.bits := by
  obtain ⟨dv, nv, bv, hev, hiv, hqv, hbv⟩ := h
  simp only [Value.agg.injEq, Array.mk.injEq, List.cons.injEq, Value.int.injEq, true_and, and_true] at hev
  obtain ⟨rfl, rfl, rfl, rfl⟩ := hev
  exact ⟨hiv, hqv, hbv⟩
/-- A list of Values that the call made, behind a world. -/
def MadeP (wl : World) (l : List Vq) (s : Value) (W : World) : Prop := ∃ A n c, s = .slice A n c ∧ l.length = n ∧ Ext wl W ∧ SO wl.heap.size 29 4 (ValO wl.heap.size) W (.slice A n c) l
abbrev S21 (wz : World) (bx ox g12 g6 bo oo : Nat) (x0 x1 x2 x3 y0 y1 y2 y3 t0 t1 c0 : Value) (w : World) : Prop :=
  Aside (Ext wz w) ∧ C4 w bx ox x0 x1 x2 x3 ∧ B4 w g12 y0 y1 y2 y3 ∧ B2 w g6 t0 t1 ∧ w.cell? ⟨bo, oo, none⟩ = some c0
theorem S21.ext {wz w w1 : World} {bx ox g12 g6 bo oo : Nat} {x0 x1 x2 x3 y0 y1 y2 y3 t0 t1 c0 : Value} (e : Ext w w1) (h : S21 wz bx ox g12 g6 bo oo x0 x1 x2 x3 y0 y1 y2 y3 t0 t1 c0 w) : S21 wz bx ox g12 g6 bo oo x0 x1 x2 x3 y0 y1 y2 y3 t0 t1 c0 w1 :=
  ⟨⟨h.1.out.trans e⟩, C4.ext e h.2.1, h.2.2.1.ext e, h.2.2.2.1.ext e, e.cell h.2.2.2.2⟩
theorem elem_size {v el : Vq} {i j : Nat} {ek pm : Int} {ds : List Int} (h : valOk v = true) (hd : v.ds = (j : Int) :: ds) (hi : (i : Int) < (j : Int)) (hel : elemV v i = el) (hk : el.k = ek) (hm : prodI ds = pm) : sizeR ek el.ds = (pm, 0) := by
  subst hel hk hm
  have := size_of (elem_ok h hd hi)
  rw [show (elemV v i).ds = ds from by show v.ds.tail = ds; rw [hd]; rfl] at this ⊢
  exact this
set_option maxRecDepth 10000 in
set_option maxHeartbeats 8000000 in
theorem lwParts_calls {w : World} {x : Value} {u0 : Vq} {at' : Int} (hg : Glob3 w) (h : VL w x u0) :
    Calls Tryz.prog 8 #[x, .int .i64 at'] w fun e w' => e = .returned (.bool true) ∧ Ext w w' := by
  have HG := Aside.mk hg
  have hvl := h
  obtain ⟨dx, nx, bx, rfl, hd, hn, hb⟩ := h
  obtain ⟨DX, cdx, xs, rfl, _⟩ := hd
  obtain ⟨AX, cax, ys, rfl, _⟩ := hn
  obtain ⟨BX, cbx, zs, rfl, _⟩ := hb
  have HVL := Aside.mk (hvl.ext ((Ext.refl w).alloc (.cells #[.int .i64 u0.k, .slice DX u0.ds.length cdx, .slice AX u0.nums.length cax, .slice BX u0.bits.length cbx] 29)))
  have HE0 := Aside.mk ((Ext.refl w).alloc (.cells #[.int .i64 u0.k, .slice DX u0.ds.length cdx, .slice AX u0.nums.length cax, .slice BX u0.bits.length cbx] 29))
  have k0 := KeepB.init w (.int .i64 u0.k) (.slice DX u0.ds.length cdx) (.slice AX u0.nums.length cax) (.slice BX u0.bits.length cbx) 29
  obtain ⟨u, hu⟩ : ∃ u, cutv u0 = u := ⟨_, rfl⟩
  have HU := Aside.mk hu
  obtain ⟨u1, hu1⟩ : ∃ n, u.ds.length = n := ⟨_, rfl⟩
  obtain ⟨u2, hu2⟩ : ∃ n, u.nums.length = n := ⟨_, rfl⟩
  obtain ⟨u3, hu3⟩ : ∃ n, u.bits.length = n := ⟨_, rfl⟩
  have HU1 := Aside.mk hu1
  have HU2 := Aside.mk hu2
  have HU3 := Aside.mk hu3
  generalize u0.ds.length = n1 at *
  generalize u0.nums.length = n2 at *
  generalize u0.bits.length = n3 at *
  clear hg hu hu1 hu2 hu3 hvl
  go_enter Tryz.func8, Tryz.ntmps8
  go_upto_if 29 with (first | (go_at_call 13; (with_reducible refine (value_vo HVL.out HU.out).mono ?_); rw [HU1.out, HU2.out, HU3.out]; rintro e w1 ⟨D1, d1, A1, a1, B1, b1, rfl, hr, he⟩; have E1 := Aside.mk (HE0.out.trans he); have HV0 := Aside.mk hr.vv; have HV1 := Aside.mk (hr.vv.ext ((Ext.refl w1).alloc (.cells #[.int .i64 u.k, .slice D1 u1 d1, .slice A1 u2 a1, .slice B1 u3 b1] 29))); have HT1 := Aside.mk (tl_of_vv HV1.out); have k1 := KeepB.init w1 (.int .i64 u.k) (.slice D1 u1 d1) (.slice A1 u2 a1) (.slice B1 u3 b1) 29; clear hr he) | (go_at_call 24; (with_reducible refine (tame_calls (m := 3) HT1.out (by decide) (by decide)).mono ?_); rintro e w2 ⟨⟨k, es, D5, c5, rfl, hk, hl, hs, hro⟩, he⟩; obtain ⟨n5, hn5⟩ : ∃ n, es.length = n := ⟨_, rfl⟩; rw [hn5] at hro ⊢; have HN5 := Aside.mk hn5; have HK := Aside.mk hk; have HDS := Aside.mk (dims_of hl hs); have HRO := Aside.mk (hro.ext IntC.ext ((Ext.refl w2).alloc (.cells #[.int .i64 k, .slice D5 n5 c5] 25))); have k2 := KeepB.ext (he.alloc (.cells #[.int .i64 k, .slice D5 n5 c5] 25)) k1; have b6 := B2.new (w := w2) rfl (.int .i64 k) (.slice D5 n5 c5) 25; have HLT2 := Aside.mk (KeepB.lt (KeepB.ext he k1)); have HE2 := Aside.mk he; clear hk hl hs hro he hn5 k1))
  clear k0
  obtain ⟨g6, hg6⟩ : ∃ g, w2.heap.size = g := ⟨_, rfl⟩
  rw [hg6] at b6
  try rw [hg6]
  have HG6 := Aside.mk hg6
  clear hg6
  go_cut [] from 30 to 34 (fun wx => KeepB w1 (.int .i64 u.k) (.slice D1 u1 d1) (.slice A1 u2 a1) (.slice B1 u3 b1) wx ∧ Aside (Typed6 w g6 k wx))
  case first =>
    by_cases h0 : n5 = 0
    · subst h0
      go_wp2_with (first | (go_at_call 31; (with_reducible refine (mod_calls (by decide) (by decide)).mono ?_); rintro e w3 ⟨r, rfl, hr0, hr1, rfl⟩; have HR := Aside.mk (And.intro hr0 hr1); have hw1 : IntKind.i64.wrap (1 + r) = 1 + r := wrap_i64 _ (by omega) (by omega); have b7 := b6.ext ((Ext.refl _).alloc (.cells #[.int .i64 (1 + r)] 3)); clear hr0 hr1))
      have HB7 := Aside.mk b7
      have HK2 := Aside.mk k2
      clear b7 k2 b6
      go_meet
      have hso := SO.lit (e := 3) (R := IntC) (w2.alloc (.cells #[.int .i64 k, .slice D5 0 c5] 25)) [.int .i64 (1 + r)] [1 + r] (by simp) (rows_ints [1 + r] _)
      have hsz : (w2.alloc (.cells #[.int .i64 k, .slice D5 0 c5] 25)).heap.size = w2.heap.size + 1 := by simp
      rw [hsz] at hso
      have hso2 := SO.set (p := ⟨g6, 1, none⟩) hso (by have := HG6.out; show g6 < w2.heap.size + 1; omega) (.slice (some ⟨w2.heap.size + 1, 0, none⟩) 1 1) (fun _ _ h => h)
      obtain ⟨b, o, e1, e2, e3, e4⟩ := IV.first hso2.sv.iv
      simp only [Option.some.injEq, Addr.mk.injEq, and_true] at e1
      obtain ⟨rfl, rfl⟩ := e1
      have hlt := HLT2.out
      have hgg := HG6.out
      have hew := E1.out.size
      exact ⟨KeepB.set (KeepB.ext ((Ext.refl _).alloc _) HK2.out) (by omega) _ _, ⟨1 + r, [], _, _, 1, 1, HB7.out.put 1 _, e2, hso2.sv.iv, e3, e4, dims_of (by simp) (fun d hd => by have := HR.out; simp only [List.mem_singleton] at hd; omega), Below.setCell (((E1.out.trans ((Ext.refl w1).alloc _)).trans (HE2.out.alloc _)).alloc _) (by show w.heap.size ≤ g6; omega) _⟩⟩
    · obtain ⟨d, ds, hes⟩ : ∃ d ds, es = d :: ds := by
        cases he : es with
        | nil => exact absurd (by rw [← HN5.out, he]; rfl) h0
        | cons d ds => exact ⟨d, ds, rfl⟩
      have h0' : ((n5 : Int) == 0) = false := by simp; omega
      subst hes
      obtain ⟨b, o, rfl, hc, hnn, hcc⟩ := IV.first HRO.out.sv.iv
      have HFIN : Aside (Typed6 w g6 k (w2.alloc (.cells #[.int .i64 k, .slice (some ⟨b, o, none⟩) n5 c5] 25))) := ⟨⟨d, ds, b, o, n5, c5, b6, hc, HRO.out.sv.iv, hnn, hcc, HDS.out, (E1.out.trans ((Ext.refl w1).alloc _)).trans (HE2.out.alloc _)⟩⟩
      clear hc hnn hcc
      go_wp2_with fail
      go_meet
      exact ⟨k2, HFIN⟩
  case rest =>
    obtain ⟨kx, hty⟩ := hcut
    obtain ⟨d, ds, bo, oo, n6, c6, hb6, hc6, hi6, hn6, hcc6, hdd, he6⟩ := hty.out
    have HI6 := Aside.mk hi6
    have HDD := Aside.mk hdd
    have HE6 := Aside.mk he6
    have HV6 := Aside.mk (HV0.out.ext kx.1.out)
    have hd18 := hdd.2 d (by simp)
    obtain ⟨dn, rfl⟩ : ∃ dn : Nat, d = dn := ⟨d.toNat, by omega⟩
    have hdn1 : 1 ≤ dn := by omega
    have hdn8 : dn ≤ 8 := by omega
    have h60 : (0 : Int) < (n6 : Int) := by omega
    clear hty hi6 hdd he6 hn6 hd18 HV0 HV1 HT1 HVL HE0 HU HU1 HU2 HU3 HN5 HDS HRO k2 b6
    go_upto_block 0 with (first | (go_at_call 23; (with_reducible refine (fit_v HI6.out HK.out HDD.out (vv_nums HV6.out).2.1 (vv_nums HV6.out).2.2).mono ?_); rintro e w7 ⟨v, D7, d7, A7, a7, B7, b7, l1, l2, l3, rfl, hv, ho, hvk, hvd, hl1, hl2, hl3, he⟩; have HV7 := Aside.mk (hv.ext ((Ext.refl w7).alloc (.cells #[.int .i64 k, .slice D7 l1 d7, .slice A7 l2 a7, .slice B7 l3 b7] 29))); have HO := Aside.mk ho; have HVK := Aside.mk hvk; have HVD := Aside.mk hvd; have HL1 := Aside.mk hl1; have HL2 := Aside.mk hl2; have HL3 := Aside.mk hl3; have hb7 := B4.new (w := w7) rfl (.int .i64 k) (.slice D7 l1 d7) (.slice A7 l2 a7) (.slice B7 l3 b7) 29; have HE7 := Aside.mk (he.alloc (.cells #[.int .i64 k, .slice D7 l1 d7, .slice A7 l2 a7, .slice B7 l3 b7] 29)); clear hv ho hvk hvd hl1 hl2 hl3 he))
    have hb6 := hb6.ext HE7.out
    have hc6 := HE7.out.cell hc6
    have HI7 := Aside.mk (HI6.out.ext HE7.out)
    have E7 := Aside.mk (HE6.out.trans HE7.out)
    obtain ⟨wl, hwl⟩ : ∃ x, w7.alloc (.cells #[.int .i64 k, .slice D7 l1 d7, .slice A7 l2 a7, .slice B7 l3 b7] 29) = x := ⟨_, rfl⟩
    obtain ⟨g7, hg7⟩ : ∃ g, w7.heap.size = g := ⟨_, rfl⟩
    rw [hwl] at hb6 hc6 HI7 E7 HV7 hb7
    rw [hg7] at hb7
    try rw [hwl]
    try rw [hg7]
    clear HI6 HE6 HV6 HE7 kx hwl hg7
    go_wp2_with fail
    go_loopw [8, 9] (fun s i wr => ∃ j : Nat, j ≤ dn ∧ i = .int .i64 (j : Int) ∧ Aside (MadeP wl (elemsTo v j) s wr)) (fun _ i _ => dn - (intOf i).toNat)
    case atStart => exact ⟨0, by omega, rfl, ⟨none, 0, 0, rfl, rfl, Ext.refl _, SO.nil⟩⟩
    case round =>
      obtain ⟨j, hj, rfl, hm⟩ := hrel
      obtain ⟨XA, xn, xc, rfl, hxn, hxe, hxo⟩ := hm.out
      obtain rfl : j = xn := by rw [← hxn, elemsTo_len]
      have HXE := Aside.mk hxe
      have HXO := Aside.mk hxo
      replace hb6 := hb6.ext hxe
      replace hb7 := hb7.ext hxe
      replace hc6 := hxe.cell hc6
      clear hm hxn hxe hxo
      by_cases hlt : j < dn
      · obtain ⟨el, hel⟩ : ∃ q, elemV v j = q := ⟨_, rfl⟩
        obtain ⟨ek, hek⟩ : ∃ n, el.k = n := ⟨_, rfl⟩
        obtain ⟨e1, he1⟩ : ∃ n, el.ds.length = n := ⟨_, rfl⟩
        obtain ⟨e2, he2⟩ : ∃ n, el.nums.length = n := ⟨_, rfl⟩
        obtain ⟨e3, he3⟩ : ∃ n, el.bits.length = n := ⟨_, rfl⟩
        have HEL := Aside.mk hel
        have HEK := Aside.mk hek
        have HE1 := Aside.mk he1
        have HE2 := Aside.mk he2
        have HE3 := Aside.mk he3
        have HJ : Aside ((j : Int) < (dn : Int)) := ⟨by omega⟩
        have HOE : Aside (valOk el = true) := ⟨by rw [← hel]; exact elem_ok HO.out HVD.out (by omega)⟩
        have HLBN : Aside ((elemsTo v j).length + [el].length ≤ 1073741824) := ⟨by rw [elemsTo_len]; simp; omega⟩
        have HLN2 : Aside ((elemsTo v j ++ [el]).length = j + 1) := ⟨by simp [elemsTo_len]⟩
        have HLS : Aside (elemsTo v j ++ [el] = elemsTo v (j + 1)) := ⟨by rw [elemsTo_succ, hel]⟩
        have hp1 : (j : Int) < (dn : Int) := by omega
        clear hel hek he1 he2 he3
        go_wp2_with (first | (go_at_call 16; (with_reducible refine (elem_vo (HV7.out.ext HXE.out) HO.out HVD.out HJ.out HEL.out HEK.out HE1.out HE2.out HE3.out).mono ?_); rintro e w8 ⟨D8, d8, A8, a8, B8, b8, rfl, hr, he⟩; have HVO8 := Aside.mk (hr.ext ((Ext.refl w8).alloc (.cells #[.int .i64 ek, .slice D8 e1 d8, .slice A8 e2 a8, .slice B8 e3 b8] 29))); have E8 := Aside.mk (he.alloc (.cells #[.int .i64 ek, .slice D8 e1 d8, .slice A8 e2 a8, .slice B8 e3 b8] 29)); have hb8 := B4.new (w := w8) rfl (.int .i64 ek) (.slice D8 e1 d8) (.slice A8 e2 a8) (.slice B8 e3 b8) 29; clear hr he) | (go_at_call 15; (with_reducible refine (isValue_calls HVO8.out.vv HOE.out).mono ?_); rintro e w9 ⟨rfl, he⟩; have hb9 := hb8.ext he; have E9 := Aside.mk (E8.out.trans (he.alloc (.cells #[.int .i64 ek, .slice D8 e1 d8, .slice A8 e2 a8, .slice B8 e3 b8] 29))); have HS9 := Aside.mk (Nat.le_trans HXE.out.size E9.out.size); have HONE := Aside.mk (one_val (base := wl.heap.size) (g := w9.heap.size) rfl HEK.out.symm (HVO8.out.ext he) HXE.out.size); have HOUT9 := Aside.mk (HXO.out.ext (ValO.ext _) E9.out); clear he hb8) | (at_builtin; refine append_so (R := ValO wl.heap.size) wl.heap.size elemVal rfl _ _ rfl _ _ (elemsTo v j) [el] HOUT9.out HONE.out ValO.one (fun _ hg => ValO.grown HOUT9.out hg) rfl rfl HS9.out HLBN.out ?_; intro v1 w10 ho hg; obtain ⟨A5, c5, rfl, _⟩ := ho.sv.form; rw [HLN2.out] at ho ⊢; have HE10 := Aside.mk (SO.ext_grown HOUT9.out (HXE.out.trans E9.out) (Nat.le_refl _) hg); have HOUT10 := Aside.mk ho; clear ho hg))
        go_roundw
        case rel => exact ⟨j + 1, by omega, by go_num, ⟨A5, j + 1, c5, rfl, elemsTo_len _ _, HE10.out, by rw [← HLS.out]; exact HOUT10.out⟩⟩
        case measure => simp [intOf]; omega
      · obtain rfl : j = dn := by omega
        have hp1 : ¬ (j : Int) < (j : Int) := by omega
        have HPK : Aside (packR (elemsTo v j) = (v, 0)) := ⟨pack_elems HO.out HVD.out⟩
        have HLV := Aside.mk HXO.out.lv
        have HJ1 : Aside (1 ≤ (j : Int)) := ⟨by omega⟩
        have HJ2 : Aside ((j : Int) ≤ 1000000) := ⟨by omega⟩
        have hpp := (dims_tail HDD.out).prod
        obtain ⟨pm, hpm⟩ : ∃ a, prodI ds = a := ⟨_, rfl⟩
        rw [hpm] at hpp
        have HPM := Aside.mk hpm
        have hb1 : 0 ≤ (j : Int) * pm := Int.mul_nonneg (by omega) (by omega)
        have hb2 : (j : Int) * pm ≤ 8 * 512 := Int.mul_le_mul (by omega) (by omega) (by omega) (by omega)
        have HSZ1 : Aside (sizeR k ((j : Int) :: ds) = ((j : Int) * pm, 0)) := ⟨by
          have := size_of HO.out
          rw [HVK.out, HVD.out, prodI_cons, hpm] at this
          exact this⟩
        have hwm : IntKind.i64.wrap ((j : Int) * pm) = (j : Int) * pm := wrap_i64 _ (by omega) (by omega)
        clear hb1 hb2 hpp hpm hlt hj
        go_upto_region 21 with (first | (go_at_call 42; (with_reducible refine (pack_to HLV.out HPK.out HVK.out HL1.out HL2.out HL3.out).mono ?_); rintro e w10 ⟨D10, d10, A10, a10, B10, b10, rfl, hr, he⟩; have HV10 := Aside.mk (hr.ext ((Ext.refl w10).alloc (.cells #[.int .i64 k, .slice D10 l1 d10, .slice A10 l2 a10, .slice B10 l3 b10] 29))); have E10 := Aside.mk (he.alloc (.cells #[.int .i64 k, .slice D10 l1 d10, .slice A10 l2 a10, .slice B10 l3 b10] 29)); have p10 := B4.new (w := w10) rfl (.int .i64 k) (.slice D10 l1 d10) (.slice A10 l2 a10) (.slice B10 l3 b10) 29; have b6a := hb6.ext E10.out; have b7a := hb7.ext E10.out; have HV7a := Aside.mk (HV7.out.ext (HXE.out.trans E10.out)); clear hr he hb6 hb7) | (go_at_call 21; (with_reducible refine (gives3_same HV10.out HV7a.out).mono ?_); rintro e w11 ⟨rfl, he⟩; have E11 := Aside.mk (E10.out.trans he); have p11 := p10.ext he; have b6b := b6a.ext he; have HV11 := Aside.mk (HV10.out.ext he); clear he b6a b7a p10) | (go_at_call 31; (with_reducible refine (mod_calls HJ1.out HJ2.out).mono ?_); rintro e w15 ⟨r, rfl, hr0, hr1, rfl⟩; obtain ⟨i0, rfl⟩ : ∃ i : Nat, r = (i : Int) := ⟨r.toNat, by omega⟩; have HI0 := Aside.mk hr1; obtain ⟨el, hel⟩ : ∃ q, elemV v i0 = q := ⟨_, rfl⟩; obtain ⟨ek, hek⟩ : ∃ n, el.k = n := ⟨_, rfl⟩; obtain ⟨e1, he1⟩ : ∃ n, el.ds.length = n := ⟨_, rfl⟩; obtain ⟨e2, he2⟩ : ∃ n, el.nums.length = n := ⟨_, rfl⟩; obtain ⟨e3, he3⟩ : ∃ n, el.bits.length = n := ⟨_, rfl⟩; have HEL := Aside.mk hel; have HEK := Aside.mk hek; have HE1 := Aside.mk he1; have HE2 := Aside.mk he2; have HE3 := Aside.mk he3; clear hel hek he1 he2 he3) | (go_at_call 16; (with_reducible refine (elem_vo HV11.out HO.out HVD.out HI0.out HEL.out HEK.out HE1.out HE2.out HE3.out).mono ?_); rintro e w12 ⟨D12, d12, A12, a12, B12, b12, rfl, hr, he⟩; have HV12 := Aside.mk (hr.vv.ext ((Ext.refl w12).alloc (.cells #[.int .i64 ek, .slice D12 e1 d12, .slice A12 e2 a12, .slice B12 e3 b12] 29))); have E12 := Aside.mk (E11.out.trans (he.alloc (.cells #[.int .i64 ek, .slice D12 e1 d12, .slice A12 e2 a12, .slice B12 e3 b12] 29))); have p12 := B4.new (w := w12) rfl (.int .i64 ek) (.slice D12 e1 d12) (.slice A12 e2 a12) (.slice B12 e3 b12) 29; have b6c := b6b.ext (he.alloc (.cells #[.int .i64 ek, .slice D12 e1 d12, .slice A12 e2 a12, .slice B12 e3 b12] 29)); clear hr he b6b p11) | (go_at_call 37; (with_reducible refine (sizeOf_calls (TV.mk (HI7.out.ext (HXE.out.trans E12.out))) HSZ1.out).mono ?_); rintro e w13 ⟨rfl, he⟩; have E13 := Aside.mk (E12.out.trans he); have HV13 := Aside.mk (HV12.out.ext he); have p13 := p12.ext he; have b6d := b6c.ext he; have HSZ2 := Aside.mk (elem_size HO.out HVD.out HI0.out HEL.out HEK.out HPM.out); clear he p12 b6c) | (go_at_call 37; (with_reducible refine (sizeOf_calls (TV.mk (vv_nums HV13.out).1) HSZ2.out).mono ?_); rintro e w14 ⟨rfl, he⟩; have E14 := Aside.mk (E13.out.trans he); have HV14 := Aside.mk (HV13.out.ext he); have p14 := p13.ext he; have b6e := b6d.ext he; clear he p13 b6d))
        have EWL := Aside.mk (E7.out.trans (HXE.out.trans E14.out))
        have hgel : (elemsTo v j)[i0]? = some el := by rw [← HEL.out]; exact elemsTo_get v (by have := HI0.out; omega)
        obtain ⟨bx, ox, dx, yx, zx, hA, hq0, hq1, hq2, hq3, hvq⟩ := LV.at' (HLV.out.ext ValC.ext E14.out) i0 hgel
        obtain ⟨DQ, cq1, AQ, cq2, BQ, cq3, ev⟩ := hvq.form
        simp only [Value.agg.injEq, Array.mk.injEq, List.cons.injEq, true_and, and_true] at ev
        obtain ⟨rfl, rfl, rfl⟩ := ev
        rw [HEK.out] at hq0
        rw [HE1.out] at hq1
        rw [HE2.out] at hq2
        rw [HE3.out] at hq3
        rw [HEK.out, HE1.out, HE2.out, HE3.out] at hvq
        have HVQ := Aside.mk hvq
        obtain ⟨g12, hg12⟩ : ∃ g, w12.heap.size = g := ⟨_, rfl⟩
        rw [hg12] at p14
        try rw [hg12]
        subst hA
        have hs : S21 w14 bx (ox + i0 * 4) g12 g6 bo oo (.int .i64 ek) (.slice DQ e1 cq1) (.slice AQ e2 cq2) (.slice BQ e3 cq3) (.int .i64 ek) (.slice D12 e1 d12) (.slice A12 e2 a12) (.slice B12 e3 b12) (.int .i64 k) (.slice (some ⟨bo, oo, none⟩) n6 c6) (.int .i64 (j : Int)) w14.drew := S21.ext ((Ext.refl _).drew) ⟨⟨Ext.refl _⟩, ⟨hq0, hq1, hq2, hq3⟩, p14, b6e, E14.out.cell hc6⟩
        have hi1 : (0 : Int) ≤ (i0 : Int) := Int.natCast_nonneg _
        have hi2 : (i0 : Int) < (j : Int) := HI0.out
        have h61 : 0 < n6 := by omega
        clear hgel hq0 hq1 hq2 hq3 hvq p14 b6e hg12 hc6
        go_region_held3 (fun w' => S21 w14 bx (ox + i0 * 4) g12 g6 bo oo (.int .i64 ek) (.slice DQ e1 cq1) (.slice AQ e2 cq2) (.slice BQ e3 cq3) (.int .i64 ek) (.slice D12 e1 d12) (.slice A12 e2 a12) (.slice B12 e3 b12) (.int .i64 k) (.slice (some ⟨bo, oo, none⟩) n6 c6) (.int .i64 (j : Int)) w') (first | assumption | exact S21.ext (by assumption) (by assumption)) (first | (go_at_call 21; (with_reducible refine (gives3_same (HV14.out.ext (Aside.out (And.left (show S21 w14 bx (ox + i0 * 4) g12 g6 bo oo (.int .i64 ek) (.slice DQ e1 cq1) (.slice AQ e2 cq2) (.slice BQ e3 cq3) (.int .i64 ek) (.slice D12 e1 d12) (.slice A12 e2 a12) (.slice B12 e3 b12) (.int .i64 k) (.slice (some ⟨bo, oo, none⟩) n6 c6) (.int .i64 (j : Int)) _ from by assumption)))) (HVQ.out.ext (Aside.out (And.left (show S21 w14 bx (ox + i0 * 4) g12 g6 bo oo (.int .i64 ek) (.slice DQ e1 cq1) (.slice AQ e2 cq2) (.slice BQ e3 cq3) (.int .i64 ek) (.slice D12 e1 d12) (.slice A12 e2 a12) (.slice B12 e3 b12) (.int .i64 k) (.slice (some ⟨bo, oo, none⟩) n6 c6) (.int .i64 (j : Int)) _ from by assumption))))).mono ?_); rintro e w16 ⟨rfl, f16⟩) | (go_at_call 19; (with_reducible refine (alive3_calls (HG.out.ext (EWL.out.trans (Aside.out (And.left (show S21 w14 bx (ox + i0 * 4) g12 g6 bo oo (.int .i64 ek) (.slice DQ e1 cq1) (.slice AQ e2 cq2) (.slice BQ e3 cq3) (.int .i64 ek) (.slice D12 e1 d12) (.slice A12 e2 a12) (.slice B12 e3 b12) (.int .i64 k) (.slice (some ⟨bo, oo, none⟩) n6 c6) (.int .i64 (j : Int)) _ from by assumption)))))).mono ?_); rintro e w17 ⟨rfl, f17⟩; have HEND := Aside.mk ((EWL.out.trans (Aside.out (And.left (show S21 w14 bx (ox + i0 * 4) g12 g6 bo oo (.int .i64 ek) (.slice DQ e1 cq1) (.slice AQ e2 cq2) (.slice BQ e3 cq3) (.int .i64 ek) (.slice D12 e1 d12) (.slice A12 e2 a12) (.slice B12 e3 b12) (.int .i64 k) (.slice (some ⟨bo, oo, none⟩) n6 c6) (.int .i64 (j : Int)) _ from by assumption)))).trans f17)))
        all_goals
          go_wp2_with fail
          go_ret
          exact ⟨rfl, HEND.out⟩
end Go.Proofs.YtcbaipnphepbeaaGreatDoor

namespace Go.Proofs.YtcbaipnphepbeaaGreatDoor
open Go.RowKit Go.ChangeShapes Go.WideShapes Go.ChangeAt

set_option maxRecDepth 100000 in
theorem lwParts_lifted (os : Os) (started : os.Started) (H : Type) (enc : TypeId × Value → H) :
    ReturnsInHanded {} Tryz.checked os 8 .any (fun w args => (Rows.shapePartsSpec.pre enc Tryz.prog Tryz.f8 [] false w args ∧ laidMetH Tryz.prog Rows.shapePartsRow.laid w) ∧ sizedMet enc Tryz.prog Tryz.f8 (OpenSpec.ofChange Rows.shapePartsSpec) false w args)
      (Rows.shapePartsSpec.post enc Tryz.prog Tryz.f8 false true false false) := by
  refine returns_law (C := Tryz.checked) (X := fun w _ => laidMetH Tryz.prog Rows.shapePartsRow.laid w) (fun _ _ _ hh h => h.of_heap hh) Tryz.own started (by kernel_rfl) Tryz.func8
    (ChangeSpec.witness_shaped (enc := enc) (C := Tryz.checked) (os := os) (X := fun w _ => laidMetH Tryz.prog Rows.shapePartsRow.laid w) false (World.laidAll Tryz.prog os Rows.shapePartsRow.laid) #[.agg #[.int .i64 0, .slice none 0 0, .slice none 0 0, .slice none 0 0], .int .i64 0] 8 (World.laidAll_os _ _ _)
      (World.shaped_of_ZipB (by kernel_rfl) (by kernel_rfl)) (by kernel_rfl) (by kernel_rfl) (by kernel_rfl)
      (by rw [MakeChecks.laidMetH_plain _ _ _ (by kernel_rfl)]; exact laidMet_laidAll _ (by kernel_rfl) (by kernel_rfl))) ?_
  intro W base args ds gs before hval0 hW hL hsh
  have hval : ∀ (j : Nat) t v, Tryz.f8.params[j]? = some t → args[j]? = some v → Value.okWide Tryz.prog W .any base t v := hval0
  have hW' := hW
  obtain ⟨p, q, hA0, hV, rfl, hfz, hnd⟩ := hW
  have hA : DataW.TrodAll enc Tryz.prog W 0 (fun _ => true) true Tryz.f8.params.toList args.toList ds p := hA0
  have hA' := hA
  rw [Tryz.params8] at hA hval
  obtain ⟨v0, v1, d0, d1, p0, p1, rfl, rfl, rfl, ⟨k0, h0⟩, h1⟩ := trodAll_two hA
  obtain ⟨rfl, rfl⟩ := trodVars_none hV
  have hG := glob3_of (by kernel_rfl) rfl hL hsh
  obtain ⟨u, hu⟩ := val_of (hval 0 29 v0 rfl rfl) h0
  obtain ⟨n, rfl, rfl, rfl, wn⟩ := open_int Tryz.underlying3 (hval 1 3 v1 rfl rfl) h1
  refine (lwParts_calls hG hu).mono fun e W' ⟨he, hw⟩ => ?_
  subst he
  refine ⟨_, rfl, law_post (ts := Tryz.f8.params.toList) rfl rfl rfl ?_ ⟨rfl, rfl, rfl⟩ hW' (by simpa using hA') hw⟩
  rw [Tryz.params8]
  exact read_all (by kernel_rfl)

theorem shapeParts_holds : Rows.ShapePartsSaid :=
  OpenClaim.holds_of_wide 8 Tryz.f8 rfl rfl rfl rfl rfl rfl rfl ⟨rfl, rfl, rfl, rfl, rfl⟩ rfl rfl rfl rfl rfl (by kernel_rfl) Tryz.func8 (by kernel_rfl)
    (of_decide_eq_true (by kernel_rfl)) (by unfold Func.isWrapper; first | (rw [if_neg (by decide +kernel)]; exact ⟨rfl, rfl⟩) | (rw [if_pos (by decide +kernel)]; kernel_rfl))
    (fun os started H enc _ => lwParts_lifted os started H enc)
end Go.Proofs.YtcbaipnphepbeaaGreatDoor

namespace Go.Proofs.YtcbaipnphepbeaaGreatDoor
open Go

set_option maxRecDepth 100000 in
theorem shapeParts_card : Rows.ShapePartsCardSaid :=
  Claim7.holds_tied_plain_at .later [] [.data, .data, .data, .data, .data] true (true, "74a4f590cf19fe5091db46413e7db25a7b9d51dc5c5273584579c29297515e2e") false
    shapeParts_holds (fun _ h => by cases h) (by kernel_rfl) (fun _ h => by cases h) shapeParts_row_tie rfl ⟨rfl, rfl⟩ (by kernel_rfl) rfl
    (fun f fn hf hfn => by
      obtain rfl : f = 8 := Option.some.inj ((show Tryz.prog.funcNamed "fluxion/fluxionlaw03.ShapeParts" = some 8 by kernel_rfl).symm.trans hf) |>.symm
      obtain rfl : fn = Tryz.f8 := (Option.some.inj (Tryz.func8.symm.trans hfn)).symm
      exact ⟨by kernel_rfl, fun j t ht => by
        rw [Tryz.params8] at ht
        have hm : t ∈ Tryz.f8.params.toList := by rw [Tryz.params8]; exact Array.mem_toList_iff.2 (Array.mem_of_getElem? ht)
        have hall : (Tryz.f8.params.toList.all fun u => !Tryz.prog.wantsStandIn u) = true := by kernel_rfl
        exact (show Tryz.prog.wantsStandIn t = false by simpa using List.all_eq_true.1 hall t hm)⟩)
    (by kernel_rfl)
#print axioms shapeParts_card
end Go.Proofs.YtcbaipnphepbeaaGreatDoor
