/- The law ShapePacks: it returns true. ShapePacks: of every input the call returns true, and each argument reads behind it as it read before. ShapePacks: the tied card holds: for any list of Values Pack returns the array, and Numbers the numbers, of the specification, or its errors. Conditions: the package-level variables that the row lists start as the program's text lays them (the tie is given). -/
import Derived.Test.YtcbaipnphepbeaaGreatDoorNx
import Derived.Test.YtcbaipnphepbeaaGreatDoorNt
import Derived.Test.YtcbaipnphepbeaaGreatDoorNr
import Derived.Test.YtcbaipnphepbeaaGreatDoorNu
import Derived.Test.YtcbaipnphepbeaaGreatDoorCards
import Derived.Test.YtcbaipnphepbeaaGreatDoorTie
import Derived.SevenTiedAt
namespace Go.Proofs.YtcbaipnphepbeaaGreatDoor
open Go.RowKit
attribute [local go_sem ↓] Go.wp_at_zero Go.wp_at_succ

/-- A list of Values that the call made. -/
def MadeV (w : World) (l : List Vq) (s : Value) (W : World) : Prop := ∃ A n c, s = .slice A n c ∧ l.length = n ∧ Ext w W ∧ SO w.heap.size 29 4 (ValO w.heap.size) W (.slice A n c) l
theorem packz {w : World} {v : Value} {l : List Vq} {e0 : Int} (h : LV w v l) (hm : packR l = (zeroV, e0)) :
    Calls Tryz.prog 42 #[v] w fun e w' => ∃ D d A a B b, e = .returned (.tuple #[.agg #[.int .i64 0, .slice D 0 d, .slice A 0 a, .slice B 0 b], .int .i64 e0]) ∧ Ext w w' := by
  refine (pack_calls h hm).mono ?_
  rintro e w' ⟨⟨r, rfl, hr⟩, he⟩
  obtain ⟨D, d, A, a, B, b, rfl⟩ := hr.vv.form
  exact ⟨D, d, A, a, B, b, rfl, he⟩
theorem packg {w : World} {v : Value} {l : List Vq} {p : Vq} (h : LV w v l) (hm : packR l = (p, 0)) :
    Calls Tryz.prog 42 #[v] w fun e w' => ∃ D d A a B b, e = .returned (.tuple #[.agg #[.int .i64 p.k, .slice D p.ds.length d, .slice A p.nums.length a, .slice B p.bits.length b], .int .i64 0]) ∧ Aside (VV w' (.agg #[.int .i64 p.k, .slice D p.ds.length d, .slice A p.nums.length a, .slice B p.bits.length b]) p) ∧ Ext w w' := by
  refine (pack_calls h hm).mono ?_
  rintro e w' ⟨⟨r, rfl, hr⟩, he⟩
  obtain ⟨D, d, A, a, B, b, rfl⟩ := hr.vv.form
  exact ⟨D, d, A, a, B, b, rfl, ⟨hr.vv⟩, he⟩
theorem nums_to {w : World} {v : Value} {l : List Vq} {ns : List Rq} {e0 : Int} {k : Nat} (h : LV w v l) (hm : numsR l = (ns, e0)) (hk : ns.length = k) :
    Calls Tryz.prog 43 #[v] w fun e w' => ∃ A c, e = .returned (.tuple #[.slice A k c, .int .i64 e0]) ∧ Aside (QV w' (.slice A k c) ns) ∧ Ext w w' := by
  subst hk
  refine (numbers_calls h hm).mono ?_
  rintro e w' ⟨⟨r, rfl, hr⟩, he⟩
  have hv := hr.sv.mono (fun _ _ h => RatO.c h)
  obtain ⟨A, c, rfl, _⟩ := hv.form
  exact ⟨A, c, rfl, ⟨hv⟩, he⟩
theorem rnums_to {w : World} {v : Value} {l : List Vq} {ns : List Rq} {k : Nat} (h : LV w v l) (hn64 : l.length ≤ 64) (ha : (l.any fun q => !valOk q) = false) (hm : l.flatMap (·.nums) = ns) (hk : ns.length = k) :
    Calls Tryz.prog 45 #[v] w fun e w' => ∃ A c, e = .returned (.slice A k c) ∧ Aside (QV w' (.slice A k c) ns) ∧ Ext w w' := by
  subst hm hk
  refine (rNumbers_calls h hn64 ha).mono ?_
  rintro e w' ⟨r, rfl, hr, he⟩
  have hv := hr.sv.mono (fun _ _ h => RatO.c h)
  obtain ⟨A, c, rfl, _⟩ := hv.form
  exact ⟨A, c, rfl, ⟨hv⟩, he⟩
/-- An operation whose guard fails is passed over. -/
theorem skip_one {P : Program} {md : Region.Mode} {ops : Array Oper} {Q : Exit → Act → World → Prop} {S : World → Prop} {i j d e : Nat} {b : Bool} {oi oj : Oper} {fuel : Nat} {listed : Array Bool} {a : Act} {w : World}
    (hi : ops[i]? = some oi) (hj : ops[j]? = some oj) (hg : oi.guard = some (j, b)) (hd : oj.dst = some d) (he : oi.dst = some e) (hne : e ≠ d)
    (hs : Region.noSelect ops = true) (hf : Region.free md ops listed i = true) (hr : (Region.ready md ops listed).contains i = true)
    (hQ : ∀ c a w, Q (.panic c) (a.put oi.dst undef) w → Q (.panic c) a w) (hS : S w) (ht : a.tmps[d]? = some (.bool (!b)))
    (h : (a.put (some e) undef).tmps[d]? = some (.bool (!b)) → wpAnyH P md ops Q S fuel (listed.setIfInBounds i true) (a.put (some e) undef) w) : wpAnyH P md ops Q S (fuel + 1) listed a w := by
  refine wpAnyH_take (v := undef) hi hs hf hr hQ (Or.inr ⟨?_, rfl⟩) hS ?_
  · unfold Region.wanted
    rw [hg]
    simp only [yielded, hj, Option.bind_some, hd, ht]
    cases b <;> rfl
  · rw [he]
    refine h ?_
    show (a.tmps.setIfInBounds e undef)[d]? = _
    rw [Array.getElem?_setIfInBounds_ne hne]
    exact ht
theorem take_one {P : Program} {md : Region.Mode} {ops : Array Oper} {Q : Exit → Act → World → Prop} {S : World → Prop} {i e : Nat} {v : Value} {oi : Oper} {fuel : Nat} {listed : Array Bool} {a : Act} {w : World}
    (hi : ops[i]? = some oi) (he : oi.dst = some e) (hs : Region.noSelect ops = true) (hf : Region.free md ops listed i = true) (hr : (Region.ready md ops listed).contains i = true)
    (hQ : ∀ c a w, Q (.panic c) (a.put oi.dst v) w → Q (.panic c) a w) (hy : YieldsIf P ops S oi v a) (hS : S w)
    (h : wpAnyH P md ops Q S fuel (listed.setIfInBounds i true) (a.put (some e) v) w) : wpAnyH P md ops Q S (fuel + 1) listed a w :=
  wpAnyH_take hi hs hf hr hQ hy hS (he ▸ h)
/-- The packed value's box, and two types. -/
abbrev KT5 (w4 : World) (x0 x1 x2 x3 : Value) (b0 o0 p0 : Nat) (y0 y1 z0 z1 : Value) (W : World) : Prop :=
  KeepB w4 x0 x1 x2 x3 W ∧ (W.cell? ⟨b0, p0, none⟩ = some y0 ∧ W.cell? ⟨b0, p0 + 1, none⟩ = some y1) ∧ (W.cell? ⟨b0, o0, none⟩ = some z0 ∧ W.cell? ⟨b0, o0 + 1, none⟩ = some z1)
theorem KT5.ext {w4 w1 w2 : World} {x0 x1 x2 x3 y0 y1 z0 z1 : Value} {b0 o0 p0 : Nat} (e : Ext w1 w2) (h : KT5 w4 x0 x1 x2 x3 b0 o0 p0 y0 y1 z0 z1 w1) : KT5 w4 x0 x1 x2 x3 b0 o0 p0 y0 y1 z0 z1 w2 :=
  ⟨KeepB.ext e h.1, ⟨e.cell h.2.1.1, e.cell h.2.1.2⟩, ⟨e.cell h.2.2.1, e.cell h.2.2.2⟩⟩
theorem rpack_to {w : World} {v : Value} {l : List Vq} {q0 p : Vq} (h : LV w v l) (hn8 : 1 ≤ l.length ∧ l.length ≤ 8) (ha : (l.any fun q => !valOk q) = false) (hq : l[0]? = some q0) (hp : (⟨q0.k, (l.length : Int) :: q0.ds, l.flatMap (·.nums), l.flatMap (·.bits)⟩ : Vq) = p) :
    Calls Tryz.prog 46 #[v] w fun e w' => ∃ D d A a B b, e = .returned (.agg #[.int .i64 p.k, .slice D p.ds.length d, .slice A p.nums.length a, .slice B p.bits.length b]) ∧ Aside (VV w' (.agg #[.int .i64 p.k, .slice D p.ds.length d, .slice A p.nums.length a, .slice B p.bits.length b]) p) ∧ Ext w w' := by
  subst hp
  refine (rPack_calls h hn8 ha hq).mono ?_
  rintro e w' ⟨r, rfl, hr, he⟩
  obtain ⟨D, d, A, a, B, b, rfl⟩ := hr.vv.form
  exact ⟨D, d, A, a, B, b, rfl, ⟨hr.vv⟩, he⟩
set_option linter.unusedSimpArgs false in
set_option maxRecDepth 10000 in
set_option maxHeartbeats 8000000 in
theorem lwPacks_calls {w : World} {s : Value} {lr : List Vq} (hg : Glob3 w) (h : RawL 4 ValL w s lr) :
    Calls Tryz.prog 9 #[s] w fun e w' => e = .returned (.bool true) ∧ Ext w w' := by
  have HG := Aside.mk hg
  obtain ⟨A0, c0, rfl, hc0, hl0⟩ := h.form
  have HL0 := Aside.mk h
  obtain ⟨n0, hn0⟩ : ∃ n, lr.length = n := ⟨_, rfl⟩
  have HN0 := Aside.mk hn0
  rw [hn0] at HL0 hc0 hl0 ⊢
  unfold maxLen at hl0
  obtain ⟨l, hl⟩ : ∃ l, (lr.take 66).map cutv = l := ⟨_, rfl⟩
  have HLR := Aside.mk hl
  clear hg h hn0 hl
  go_enter Tryz.func9, Tryz.ntmps9
  go_upto_block 0 with fail
  go_cut [3] from 4 to 29 (fun s3 wx => MadeV w l s3 wx)
  case first =>
    go_wp2
    go_loopw [3, 4] (fun o i wr => ∃ (j : Nat) (NA : Option Addr) (nc : Nat), j ≤ n0 ∧ j ≤ 66 ∧ i = .int .i64 (j : Int) ∧ o = .slice NA j nc ∧ Aside (Ext w wr) ∧
      Aside (∃ vs, vs = (lr.take j).map cutv ∧ vs.length = j ∧ SO w.heap.size 29 4 (ValO w.heap.size) wr (.slice NA j nc) vs)) (fun _ i _ => n0 - (intOf i).toNat)
    case atStart => exact ⟨0, none, 0, by omega, by omega, rfl, rfl, ⟨Ext.refl w⟩, ⟨[], by simp, rfl, SO.nil⟩⟩
    case round =>
      obtain ⟨j, NA, nc, hj, hj66, rfl, rfl, HE, HS⟩ := hrel
      obtain ⟨vs, hvs, hvn, hout⟩ := HS.out
      have HVS := Aside.mk hvs
      have HVN := Aside.mk hvn
      have HOUT := Aside.mk hout
      clear HS hvs hvn hout
      by_cases hlt : j < n0 ∧ j < 66
      · obtain ⟨hlt, hlt66⟩ := hlt
        obtain ⟨q, hq⟩ : ∃ q, lr[j]? = some q := ⟨lr[j]'(by rw [HN0.out]; exact hlt), List.getElem?_eq_getElem _⟩
        obtain ⟨b1, o1, D, cd, X, cx, Y, cy, rfl, hq0, hq1, hq2, hq3, hvl⟩ := (HL0.out.ext ValL.ext HE.out).atv j hq
        obtain ⟨u, hu⟩ : ∃ u, cutv q = u := ⟨_, rfl⟩
        have HU := Aside.mk hu
        have HVL := Aside.mk hvl
        obtain ⟨lu1, hu1⟩ : ∃ n, u.ds.length = n := ⟨_, rfl⟩
        obtain ⟨lu2, hu2⟩ : ∃ n, u.nums.length = n := ⟨_, rfl⟩
        obtain ⟨lu3, hu3⟩ : ∃ n, u.bits.length = n := ⟨_, rfl⟩
        have HU1 := Aside.mk hu1
        have HU2 := Aside.mk hu2
        have HU3 := Aside.mk hu3
        have HTK : Aside (vs ++ [u] = (lr.take (j + 1)).map cutv) := ⟨by rw [HVS.out, List.take_add_one, hq, ← hu]; simp⟩
        have HLBN : Aside (vs.length + [u].length ≤ 1073741824) := ⟨by have := HVN.out; simp; omega⟩
        have HLN2 : Aside ((vs ++ [u]).length = j + 1) := ⟨by simp [HVN.out]⟩
        generalize q.ds.length = lq1 at *
        generalize q.nums.length = lq2 at *
        generalize q.bits.length = lq3 at *
        have hp0 : (0 : Int) ≤ (j : Int) := Int.natCast_nonneg _
        have hp1 : (j : Int) < (n0 : Int) := by omega
        have hp2 : (j : Int) < (66 : Int) := by omega
        clear hq hvl hu hu1 hu2 hu3
        go_wp2_with (first | (go_at_call 13; (with_reducible refine (value_vo HVL.out HU.out).mono ?_); rw [HU1.out, HU2.out, HU3.out]; rintro e w3 ⟨D3, d3, A3, a3, B3, b3, rfl, hr, he⟩; have E3 := Aside.mk (he.alloc (.cells #[.int .i64 u.k, .slice D3 lu1 d3, .slice A3 lu2 a3, .slice B3 lu3 b3] 29)); have HS3 := Aside.mk (Nat.le_trans HE.out.size E3.out.size); have HONE := Aside.mk (one_val (base := w.heap.size) (g := w3.heap.size) rfl rfl hr HE.out.size); have HOUT3 := Aside.mk (HOUT.out.ext (ValO.ext _) E3.out); clear hr he) | (at_builtin; refine append_so (R := ValO w.heap.size) w.heap.size elemVal rfl _ _ rfl _ _ vs [u] HOUT3.out HONE.out ValO.one (fun _ hg => ValO.grown HOUT3.out hg) rfl rfl HS3.out HLBN.out ?_; intro v1 w6 ho hg; obtain ⟨A5, c5, rfl, _⟩ := ho.sv.form; rw [HLN2.out] at ho ⊢; have HE6 := Aside.mk (SO.ext_grown HOUT3.out (HE.out.trans E3.out) (Nat.le_refl _) hg); have HOUT6 := Aside.mk ho; clear ho hg))
        go_roundw
        case rel => exact ⟨j + 1, A5, c5, by omega, by omega, by go_num, rfl, HE6, ⟨_, HTK.out, HLN2.out, HOUT6.out⟩⟩
        case measure => simp [intOf]; omega
      · have HFIN : Aside (MadeV w l (.slice NA j nc) wr) := ⟨by
          have hl : l = vs := by
            rw [← HLR.out, HVS.out]
            by_cases h : j < n0
            · rw [show j = 66 from by omega]
            · rw [show j = lr.length from by rw [HN0.out]; omega, List.take_length, List.take_of_length_le (by rw [HN0.out]; omega)]
          rw [hl]
          exact ⟨NA, j, nc, rfl, HVN.out, HE.out, HOUT.out⟩⟩
        by_cases h1 : (j : Int) < (n0 : Int)
        · have h2 : ¬ (j : Int) < (66 : Int) := by omega
          go_wp2_with fail
          go_meet
          exact HFIN.out
        · go_wp2_with fail
          go_meet
          exact HFIN.out
  case rest =>
    obtain ⟨A, n, c, rfl, hn, he, hso⟩ := hcut
    have HLV := Aside.mk hso.lv
    have HN := Aside.mk hn
    have E0 := Aside.mk he
    have hn66 : n ≤ 66 := by
      rw [← hn, ← HLR.out, List.length_map]
      exact List.length_take_le _ _
    have hn30 : n ≤ 1073741824 := by omega
    obtain ⟨A', c', e, hnc, _⟩ := hso.sv.form
    have hnc' : n ≤ c := by
      simp only [Value.slice.injEq] at e
      obtain ⟨_, e2, e3⟩ := e
      omega
    clear hso hn he e hnc HLR HL0 HN0 hl0 hc0
    by_cases h64 : 64 < n
    · have HPK : Aside (packR l = (zeroV, 3)) := ⟨by unfold packR; rw [if_pos (by rw [HN.out]; exact h64)]⟩
      have HNU : Aside (numsR l = ([], 3)) := ⟨by unfold numsR; rw [if_pos (by rw [HN.out]; exact h64)]⟩
      have HNK : Aside (([] : List Rq).length = 0) := ⟨rfl⟩
      have h64' : (64 : Int) < (n : Int) := by omega
      clear h64
      go_wp2_with (first | (go_at_call 42; (with_reducible refine (packz HLV.out HPK.out).mono ?_); rintro e w4 ⟨D4, e4, A4, a4, B4, b4, rfl, f4⟩; have k4 := KeepB.init w4 (.int .i64 0) (.slice D4 0 e4) (.slice A4 0 a4) (.slice B4 0 b4) 29; have F4 := Aside.mk f4; clear f4) | (go_at_call 43; (with_reducible refine (nums_to (HLV.out.ext ValC.ext (F4.out.trans k4.1.out)) HNU.out HNK.out).mono ?_); rintro e w5 ⟨A5, a5, rfl, HQ5, f5⟩; have k5 := KeepB.ext f5 k4; clear f5 k4))
      go_loopw [9, 10] (fun b i wr => b = .int .i64 3 ∧ i = .int .i64 0 ∧ KeepB w4 (.int .i64 0) (.slice D4 0 e4) (.slice A4 0 a4) (.slice B4 0 b4) wr) (fun _ _ _ => 0)
      case atStart => exact ⟨rfl, rfl, k5⟩
      case round =>
        clear k5
        obtain ⟨rfl, rfl, k5⟩ := hrel
        have hn0' : (0 : Int) < (n : Int) := by omega
        go_wp2_with (first | (go_at_call 18; (with_reducible refine lzero_true.mono ?_); rintro e w7 ⟨rfl, f7⟩; have k7 := KeepB.ext f7 k5; clear f7 k5) | (go_at_call 19; (with_reducible refine (alive3_calls (HG.out.ext (E0.out.trans (F4.out.trans k7.1.out)))).mono ?_); rintro e w8 ⟨rfl, f8⟩; have HEND := Aside.mk (E0.out.trans (F4.out.trans (k7.1.out.trans f8))); clear f8 k7))
        go_ret
        exact ⟨rfl, HEND.out⟩
    · have h64' : ¬ (64 : Int) < (n : Int) := by omega
      have hp64 : ¬ 64 < l.length := by rw [HN.out]; exact h64
      cases hany : (l.any fun q => !valOk q)
      · have HVAL : Aside (∀ (j : Nat) q, l[j]? = some q → valOk q = true) := ⟨fun j q hq => any_not_valOk hany hq⟩
        have HA := Aside.mk hany
        have HN64 : Aside (l.length ≤ 64) := ⟨by omega⟩
        obtain ⟨ns, hns⟩ : ∃ ns, l.flatMap (·.nums) = ns := ⟨_, rfl⟩
        obtain ⟨nk, hnk⟩ : ∃ k, ns.length = k := ⟨_, rfl⟩
        have HFM := Aside.mk hns
        have HNK := Aside.mk hnk
        have HNU : Aside (numsR l = (ns, 0)) := ⟨by unfold numsR; rw [if_neg hp64, hany, if_neg (by decide), hns]⟩
        have HP64 := Aside.mk hp64
        clear h64 hp64 hany hns hnk
        by_cases hn8 : n = 0 ∨ 8 < n
        · have HPK : Aside (packR l = (zeroV, 2)) := ⟨by unfold packR; rw [if_neg HP64.out, HA.out, if_neg (by decide), if_pos (by rw [HN.out]; exact hn8)]⟩
          have HN8 := Aside.mk hn8
          clear hn8
          go_wp2_with (first | (go_at_call 42; (with_reducible refine (packz HLV.out HPK.out).mono ?_); rintro e w4 ⟨D4, e4, A4, a4, B4, b4, rfl, f4⟩; have k4 := KeepB.init w4 (.int .i64 0) (.slice D4 0 e4) (.slice A4 0 a4) (.slice B4 0 b4) 29; have F4 := Aside.mk f4; clear f4) | (go_at_call 43; (with_reducible refine (nums_to (HLV.out.ext ValC.ext (F4.out.trans k4.1.out)) HNU.out HNK.out).mono ?_); rintro e w5 ⟨A5, a5, rfl, HQ5, f5⟩; have k5 := KeepB.ext f5 k4; clear f5 k4))
          go_loopw [9, 10] (fun b i wr => ∃ j : Nat, j ≤ n ∧ b = .int .i64 0 ∧ i = .int .i64 (j : Int) ∧ KeepB w4 (.int .i64 0) (.slice D4 0 e4) (.slice A4 0 a4) (.slice B4 0 b4) wr ∧ Aside (Ext w5 wr)) (fun _ i _ => n - (intOf i).toNat)
          case atStart => exact ⟨0, by omega, rfl, rfl, k5, ⟨Ext.refl w5⟩⟩
          case round =>
            clear k5
            obtain ⟨j, hj, rfl, rfl, k5, HX5⟩ := hrel
            by_cases hlt : j < n
            · obtain ⟨q, hq⟩ : ∃ q, l[j]? = some q := ⟨l[j]'(by rw [HN.out]; exact hlt), List.getElem?_eq_getElem _⟩
              obtain ⟨b1, o1, d1, y1, z1, hA, hq0, hq1, hq2, hq3, hvq⟩ := LV.at' (HLV.out.ext ValC.ext (F4.out.trans k5.1.out)) j hq
              first
                | subst hA
                | (simp only [Option.some.injEq, Addr.mk.injEq, and_true] at hA; obtain ⟨rfl, rfl⟩ := hA)
              obtain ⟨DQ, cq1, AQ, cq2, BQ, cq3, ev⟩ := hvq.form
              simp only [Value.agg.injEq, Array.mk.injEq, List.cons.injEq, true_and, and_true] at ev
              obtain ⟨rfl, rfl, rfl⟩ := ev
              have HVQ := Aside.mk hvq
              have HGQ := Aside.mk hq
              generalize q.ds.length = lq1 at *
              generalize q.nums.length = lq2 at *
              generalize q.bits.length = lq3 at *
              have hp0 : (0 : Int) ≤ (j : Int) := Int.natCast_nonneg _
              have hp1 : (j : Int) < (n : Int) := by omega
              clear hvq hq
              have HOQ := Aside.mk (HVAL.out j q HGQ.out)
              go_wp2_with (go_at_call 14; (with_reducible refine (rIsValue_calls HVQ.out HOQ.out).mono ?_); rintro e w6 ⟨rfl, f6⟩; have k6 := KeepB.ext f6 k5; have HX6 := Aside.mk (HX5.out.trans f6); clear f6 k5)
              go_roundw
              case rel => exact ⟨j + 1, by omega, rfl, by go_num, k6, HX6⟩
              case measure => simp [intOf]; omega
            · have hjn : ¬ (j : Int) < (n : Int) := by omega
              rcases HN8.out with h0 | h8
              · have hn0' : ((n : Int) == 0) = true := by simp [h0]
                clear h0
                go_wp2_with (first | (go_at_call 45; (with_reducible refine (rnums_to (HLV.out.ext ValC.ext (F4.out.trans k5.1.out)) HN64.out HA.out HFM.out HNK.out).mono ?_); rintro e w10 ⟨A10, a10, rfl, HQ10, f10⟩; have k10 := KeepB.ext f10 k5; have HQ11 := Aside.mk (HQ5.out.ext RatC.ext (HX5.out.trans f10)); clear f10 k5) | (go_at_call 44; (with_reducible refine (lnumbers_same HQ11.out HQ10.out).mono ?_); rintro e w11 ⟨rfl, f11⟩; have k11 := KeepB.ext f11 k10; clear f11 k10) | (go_at_call 18; (with_reducible refine lzero_true.mono ?_); rintro e w7 ⟨rfl, f7⟩; have k7 := KeepB.ext f7 k11; clear f7 k11) | (go_at_call 19; (with_reducible refine (alive3_calls (HG.out.ext (E0.out.trans (F4.out.trans k7.1.out)))).mono ?_); rintro e w8 ⟨rfl, f8⟩; have HEND := Aside.mk (E0.out.trans (F4.out.trans (k7.1.out.trans f8))); clear f8 k7))
                go_ret
                exact ⟨rfl, HEND.out⟩
              · have hn0' : ((n : Int) == 0) = false := beq_eq_false_iff_ne.2 (by omega)
                have hn8' : (8 : Int) < (n : Int) := by omega
                go_wp2_with (first | (go_at_call 45; (with_reducible refine (rnums_to (HLV.out.ext ValC.ext (F4.out.trans k5.1.out)) HN64.out HA.out HFM.out HNK.out).mono ?_); rintro e w10 ⟨A10, a10, rfl, HQ10, f10⟩; have k10 := KeepB.ext f10 k5; have HQ11 := Aside.mk (HQ5.out.ext RatC.ext (HX5.out.trans f10)); clear f10 k5) | (go_at_call 44; (with_reducible refine (lnumbers_same HQ11.out HQ10.out).mono ?_); rintro e w11 ⟨rfl, f11⟩; have k11 := KeepB.ext f11 k10; clear f11 k10) | (go_at_call 18; (with_reducible refine lzero_true.mono ?_); rintro e w7 ⟨rfl, f7⟩; have k7 := KeepB.ext f7 k11; clear f7 k11) | (go_at_call 19; (with_reducible refine (alive3_calls (HG.out.ext (E0.out.trans (F4.out.trans k7.1.out)))).mono ?_); rintro e w8 ⟨rfl, f8⟩; have HEND := Aside.mk (E0.out.trans (F4.out.trans (k7.1.out.trans f8))); clear f8 k7))
                go_ret
                exact ⟨rfl, HEND.out⟩
        · have hlp : 0 < n := by omega
          have i1 : (0 : Int) < (n : Int) := by omega
          obtain ⟨q0, hq0⟩ : ∃ q, l[0]? = some q := ⟨l[0]'(by rw [HN.out]; exact hlp), List.getElem?_eq_getElem _⟩
          have HQ0 := Aside.mk hq0
          obtain ⟨b0, o0, d0, y0, z0, hA0, -⟩ := LV.at' HLV.out 0 hq0
          subst hA0
          have hn0' : ((n : Int) == 0) = false := beq_eq_false_iff_ne.2 (by omega)
          have hn8' : ¬ (8 : Int) < (n : Int) := by omega
          have HN18 : Aside (¬ (l.length = 0 ∨ 8 < l.length)) := ⟨by rw [HN.out]; exact hn8⟩
          clear hn8
          by_cases ht : (l.any fun q => !tySame q.k q.ds q0.k q0.ds) = true ∨ q0.ds.length = 3
          · have HPK : Aside (packR l = (zeroV, 12)) := ⟨packR_type HP64.out HA.out HN18.out hq0 ht⟩
            have HTY := Aside.mk ht
            clear hq0 ht
            go_wp2_with (first | (go_at_call 42; (with_reducible refine (packz HLV.out HPK.out).mono ?_); rintro e w4 ⟨D4, e4, A4, a4, B4, b4, rfl, f4⟩; have k4 := KeepB.init w4 (.int .i64 0) (.slice D4 0 e4) (.slice A4 0 a4) (.slice B4 0 b4) 29; have F4 := Aside.mk f4; clear f4) | (go_at_call 43; (with_reducible refine (nums_to (HLV.out.ext ValC.ext (F4.out.trans k4.1.out)) HNU.out HNK.out).mono ?_); rintro e w5 ⟨A5, a5, rfl, HQ5, f5⟩; have k5 := KeepB.ext f5 k4; clear f5 k4))
            go_loopw [9, 10] (fun b i wr => ∃ j : Nat, j ≤ n ∧ b = .int .i64 0 ∧ i = .int .i64 (j : Int) ∧ KeepB w4 (.int .i64 0) (.slice D4 0 e4) (.slice A4 0 a4) (.slice B4 0 b4) wr ∧ Aside (Ext w5 wr)) (fun _ i _ => n - (intOf i).toNat)
            case atStart => exact ⟨0, by omega, rfl, rfl, k5, ⟨Ext.refl w5⟩⟩
            case round =>
              clear k5
              obtain ⟨j, hj, rfl, rfl, k5, HX5⟩ := hrel
              by_cases hlt : j < n
              · obtain ⟨q, hq⟩ : ∃ q, l[j]? = some q := ⟨l[j]'(by rw [HN.out]; exact hlt), List.getElem?_eq_getElem _⟩
                obtain ⟨b1, o1, d1, y1, z1, hA, hq0, hq1, hq2, hq3, hvq⟩ := LV.at' (HLV.out.ext ValC.ext (F4.out.trans k5.1.out)) j hq
                first
                  | subst hA
                  | (simp only [Option.some.injEq, Addr.mk.injEq, and_true] at hA; obtain ⟨rfl, rfl⟩ := hA)
                obtain ⟨DQ, cq1, AQ, cq2, BQ, cq3, ev⟩ := hvq.form
                simp only [Value.agg.injEq, Array.mk.injEq, List.cons.injEq, true_and, and_true] at ev
                obtain ⟨rfl, rfl, rfl⟩ := ev
                have HVQ := Aside.mk hvq
                have HGQ := Aside.mk hq
                generalize q.ds.length = lq1 at *
                generalize q.nums.length = lq2 at *
                generalize q.bits.length = lq3 at *
                have hp0 : (0 : Int) ≤ (j : Int) := Int.natCast_nonneg _
                have hp1 : (j : Int) < (n : Int) := by omega
                clear hvq hq
                have HOQ := Aside.mk (HVAL.out j q HGQ.out)
                go_wp2_with (go_at_call 14; (with_reducible refine (rIsValue_calls HVQ.out HOQ.out).mono ?_); rintro e w6 ⟨rfl, f6⟩; have k6 := KeepB.ext f6 k5; have HX6 := Aside.mk (HX5.out.trans f6); clear f6 k5)
                go_roundw
                case rel => exact ⟨j + 1, by omega, rfl, by go_num, k6, HX6⟩
                case measure => simp [intOf]; omega
              · have hjn : ¬ (j : Int) < (n : Int) := by omega
                go_wp2_with (first | (go_at_call 45; (with_reducible refine (rnums_to (HLV.out.ext ValC.ext (F4.out.trans k5.1.out)) HN64.out HA.out HFM.out HNK.out).mono ?_); rintro e w10 ⟨A10, a10, rfl, HQ10, f10⟩; have k10 := KeepB.ext f10 k5; have HQ11 := Aside.mk (HQ5.out.ext RatC.ext (HX5.out.trans f10)); clear f10 k5) | (go_at_call 44; (with_reducible refine (lnumbers_same HQ11.out HQ10.out).mono ?_); rintro e w11 ⟨rfl, f11⟩; have k11 := KeepB.ext f11 k10; clear f11 k10))
                go_loopw [11] (fun i wr => ∃ j : Nat, j ≤ n ∧ i = .int .i64 (j : Int) ∧ KeepB w4 (.int .i64 0) (.slice D4 0 e4) (.slice A4 0 a4) (.slice B4 0 b4) wr ∧ Aside (∀ k q, k < j → l[k]? = some q → tySame q.k q.ds q0.k q0.ds = true ∧ q.ds.length ≠ 3)) (fun i _ => n - (intOf i).toNat)
                case atStart => exact ⟨0, by omega, rfl, k11, ⟨fun k q h => by omega⟩⟩
                case round =>
                  clear k11 hj hlt hjn HX5
                  obtain ⟨j, hj, rfl, k5, HFI⟩ := hrel
                  by_cases hlt : j < n
                  · obtain ⟨q, hq⟩ : ∃ q, l[j]? = some q := ⟨l[j]'(by rw [HN.out]; exact hlt), List.getElem?_eq_getElem _⟩
                    have hEX : Ext wc wr.drew := (F4.out.trans k5.1.out).drew
                    obtain ⟨b1, o1, d1, y1, z1, hA, hq0, hq1, hq2, hq3, hvq⟩ := LV.at' (HLV.out.ext ValC.ext hEX) j hq
                    simp only [Option.some.injEq, Addr.mk.injEq, and_true] at hA
                    obtain ⟨rfl, rfl⟩ := hA
                    obtain ⟨-, htq, -, -⟩ := hvq.ty
                    have HTQ := Aside.mk htq
                    obtain ⟨uq, eq, hiq⟩ := htq
                    simp only [Value.agg.injEq, Array.mk.injEq, List.cons.injEq, true_and, and_true] at eq
                    subst eq
                    obtain ⟨DQ, cq1, rfl, _⟩ := hiq.form
                    obtain ⟨b2, o2, d2, y2, z2, hA, hr0, hr1, hr2, hr3, hvr⟩ := LV.at' (HLV.out.ext ValC.ext hEX) 0 HQ0.out
                    simp only [Option.some.injEq, Addr.mk.injEq, and_true] at hA
                    obtain ⟨rfl, rfl⟩ := hA
                    simp only [Nat.zero_mul, Nat.add_zero] at hr0 hr1
                    obtain ⟨-, htr, -, -⟩ := hvr.ty
                    have HT0 := Aside.mk htr
                    obtain ⟨ur, er, hir⟩ := htr
                    simp only [Value.agg.injEq, Array.mk.injEq, List.cons.injEq, true_and, and_true] at er
                    subst er
                    obtain ⟨D0, c01, rfl, _⟩ := hir.form
                    have HGQ := Aside.mk hq
                    obtain ⟨lq1, hlq⟩ : ∃ n, q.ds.length = n := ⟨_, rfl⟩
                    obtain ⟨l01, hl01⟩ : ∃ n, q0.ds.length = n := ⟨_, rfl⟩
                    have HLQ := Aside.mk hlq
                    have HL01 := Aside.mk hl01
                    rw [hlq] at hq1 HTQ
                    rw [hl01] at hr1 HT0
                    have hs5 : KT5 w4 (.int .i64 0) (.slice D4 0 e4) (.slice A4 0 a4) (.slice B4 0 b4) b0 o0 (o0 + j * 4) (.int .i64 q.k) (.slice DQ lq1 cq1) (.int .i64 q0.k) (.slice D0 l01 c01) wr.drew := ⟨KeepB.ext ((Ext.refl wr).drew) k5, ⟨hq0, hq1⟩, ⟨hr0, hr1⟩⟩
                    obtain ⟨sb, hsb⟩ : ∃ b, tySame q.k q.ds q0.k q0.ds = b := ⟨_, rfl⟩
                    have HSB := Aside.mk hsb
                    have hp0 : (0 : Int) ≤ (j : Int) := Int.natCast_nonneg _
                    have hp1 : (j : Int) < (n : Int) := by omega
                    clear hq hvq hvr hiq hir hlq hl01 hsb hEX k5 hq0 hq1 hq2 hq3 hr0 hr1 hr2 hr3
                    have hcs : (sb = true ∧ lq1 = 3) ∨ (sb = true ∧ lq1 ≠ 3) ∨ sb = false := by
                      cases sb
                      · exact .inr (.inr rfl)
                      · by_cases h : lq1 = 3
                        · exact .inl ⟨rfl, h⟩
                        · exact .inr (.inl ⟨rfl, h⟩)
                    rcases hcs with ⟨rfl, hl3⟩ | ⟨rfl, hl3⟩ | rfl
                    · have h3' : ((lq1 : Int) == 3) = true := by rw [hl3]; rfl
                      clear hl3
                      go_wp2_with fail
                      go_region_held3 (fun w' => KT5 w4 (.int .i64 0) (.slice D4 0 e4) (.slice A4 0 a4) (.slice B4 0 b4) b0 o0 (o0 + j * 4) (.int .i64 q.k) (.slice DQ lq1 cq1) (.int .i64 q0.k) (.slice D0 l01 c01) w') (first | assumption | exact KT5.ext (by assumption) (by assumption)) ((go_at_call 28; (with_reducible refine (rSame_calls HTQ.out HT0.out HSB.out).mono ?_); rintro e w13 ⟨rfl, f13⟩))
                      have k6 := KeepB.ext f13 hs5.1
                      go_wp2_with (first | (go_at_call 18; (with_reducible refine lzero_true.mono ?_); rintro e w7 ⟨rfl, f7⟩; have k7 := KeepB.ext f7 k6; clear f7 k6) | (go_at_call 19; (with_reducible refine (alive3_calls (HG.out.ext (E0.out.trans (F4.out.trans k7.1.out)))).mono ?_); rintro e w8 ⟨rfl, f8⟩; have HEND := Aside.mk (E0.out.trans (F4.out.trans (k7.1.out.trans f8))); clear f8 k7))
                      go_ret
                      exact ⟨rfl, HEND.out⟩
                    · have h3' : ((lq1 : Int) == 3) = false := beq_eq_false_iff_ne.2 (by omega)
                      have HFI2 : Aside (∀ k q, k < j + 1 → l[k]? = some q → tySame q.k q.ds q0.k q0.ds = true ∧ q.ds.length ≠ 3) := ⟨fun k q' hk hq' => by
                        by_cases h : k < j
                        · exact HFI.out k q' h hq'
                        · obtain rfl : k = j := by omega
                          obtain rfl : q = q' := Option.some.inj (HGQ.out.symm.trans hq')
                          exact ⟨HSB.out, by rw [HLQ.out]; exact hl3⟩⟩
                      clear hl3
                      go_wp2_with fail
                      go_region_held3 (fun w' => KT5 w4 (.int .i64 0) (.slice D4 0 e4) (.slice A4 0 a4) (.slice B4 0 b4) b0 o0 (o0 + j * 4) (.int .i64 q.k) (.slice DQ lq1 cq1) (.int .i64 q0.k) (.slice D0 l01 c01) w') (first | assumption | exact KT5.ext (by assumption) (by assumption)) ((go_at_call 28; (with_reducible refine (rSame_calls HTQ.out HT0.out HSB.out).mono ?_); rintro e w13 ⟨rfl, f13⟩))
                      have K6 := Aside.mk (KeepB.ext f13 hs5.1)
                      go_wp2_with fail
                      go_roundw
                      case rel => exact ⟨j + 1, by omega, by go_num, K6.out, HFI2⟩
                      case measure => simp [intOf]; omega
                    · go_wp2_with fail
                      refine wp_region_held_drew (S := fun w' => KT5 w4 (.int .i64 0) (.slice D4 0 e4) (.slice A4 0 a4) (.slice B4 0 b4) b0 o0 (o0 + j * 4) (.int .i64 q.k) (.slice DQ lq1 cq1) (.int .i64 q0.k) (.slice D0 l01 c01) w') (by kernel_rfl) hs5 (fun hHeld => ?_)
                      refine wpAnyH_take (i := 0) (v := ?_) rfl (by kernel_rfl) (by kernel_rfl) (by kernel_rfl) (fun _ _ _ h => h) (Or.inl ⟨by rfl, ?_⟩) (by assumption) ?_
                      rotate_left
                      · (intro w hSw; (try dsimp only at hSw); (first | (go_simp; done) | (go_simp; with_reducible rfl)))
                      try simp only [Act.put, List.setIfInBounds_toArray, List.set_cons_zero, List.set_cons_succ]
                      refine wpAnyH_take (i := 1) (v := ?_) rfl (by kernel_rfl) (by kernel_rfl) (by kernel_rfl) (fun _ _ _ h => h) (Or.inl ⟨by rfl, ?_⟩) (by assumption) ?_
                      rotate_left
                      · (intro w hSw; (try dsimp only at hSw); (first | (go_simp; done) | (go_simp; with_reducible rfl)))
                      try simp only [Act.put, List.setIfInBounds_toArray, List.set_cons_zero, List.set_cons_succ]
                      refine wpAnyH_take (i := 2) (v := ?_) rfl (by kernel_rfl) (by kernel_rfl) (by kernel_rfl) (fun _ _ _ h => h) (Or.inl ⟨by rfl, ?_⟩) (by assumption) ?_
                      rotate_left
                      · (intro w hSw; (try dsimp only at hSw); (first | (go_simp; done) | (go_simp; with_reducible rfl)))
                      try simp only [Act.put, List.setIfInBounds_toArray, List.set_cons_zero, List.set_cons_succ]
                      refine wpAnyH_take (i := 3) (v := ?_) rfl (by kernel_rfl) (by kernel_rfl) (by kernel_rfl) (fun _ _ _ h => h) (Or.inl ⟨by rfl, ?_⟩) (by assumption) ?_
                      rotate_left
                      · (intro w hSw; (try dsimp only at hSw); (first | (go_simp; done) | (go_simp; with_reducible rfl)))
                      try simp only [Act.put, List.setIfInBounds_toArray, List.set_cons_zero, List.set_cons_succ]
                      refine wpAnyH_take (i := 4) (v := ?_) rfl (by kernel_rfl) (by kernel_rfl) (by kernel_rfl) (fun _ _ _ h => h) (Or.inl ⟨by rfl, ?_⟩) (by assumption) ?_
                      rotate_left
                      · (intro w hSw; (try dsimp only at hSw); (first | (go_simp; done) | (go_simp; with_reducible rfl)))
                      try simp only [Act.put, List.setIfInBounds_toArray, List.set_cons_zero, List.set_cons_succ]
                      refine wpAnyH_take (i := 5) (v := ?_) rfl (by kernel_rfl) (by kernel_rfl) (by kernel_rfl) (fun _ _ _ h => h) (Or.inl ⟨by rfl, ?_⟩) (by assumption) ?_
                      rotate_left
                      · (intro w hSw; (try dsimp only at hSw); (first | (go_simp; done) | (go_simp; with_reducible rfl)))
                      try simp only [Act.put, List.setIfInBounds_toArray, List.set_cons_zero, List.set_cons_succ]
                      refine wpAnyH_take (i := 6) (v := ?_) rfl (by kernel_rfl) (by kernel_rfl) (by kernel_rfl) (fun _ _ _ h => h) (Or.inl ⟨by rfl, ?_⟩) (by assumption) ?_
                      rotate_left
                      · (intro w hSw; (try dsimp only at hSw); (first | (go_simp; done) | (go_simp; with_reducible rfl)))
                      try simp only [Act.put, List.setIfInBounds_toArray, List.set_cons_zero, List.set_cons_succ]
                      refine wpAnyH_take (i := 7) (v := ?_) rfl (by kernel_rfl) (by kernel_rfl) (by kernel_rfl) (fun _ _ _ h => h) (Or.inl ⟨by rfl, ?_⟩) (by assumption) ?_
                      rotate_left
                      · (intro w hSw; (try dsimp only at hSw); (first | (go_simp; done) | (go_simp; with_reducible rfl)))
                      try simp only [Act.put, List.setIfInBounds_toArray, List.set_cons_zero, List.set_cons_succ]
                      refine wpAnyH_take (i := 8) (v := ?_) rfl (by kernel_rfl) (by kernel_rfl) (by kernel_rfl) (fun _ _ _ h => h) (Or.inl ⟨by rfl, ?_⟩) (by assumption) ?_
                      rotate_left
                      · (intro w hSw; (try dsimp only at hSw); (first | (go_simp; done) | (go_simp; with_reducible rfl)))
                      try simp only [Act.put, List.setIfInBounds_toArray, List.set_cons_zero, List.set_cons_succ]
                      refine wpAnyH_ready (rs := [9]) (by kernel_rfl) (by simp) ?_
                      refine AllReadyH.cons rfl (fun K hK => ?_) AllReadyH.nil
                      go_simp
                      go_wp2_with (go_at_call 28; (with_reducible refine (rSame_calls HTQ.out HT0.out HSB.out).mono ?_); rintro e w13 ⟨rfl, f13⟩)
                      have hs6 := KT5.ext f13 hs5
                      refine hK.out _ _ hs6 (fun hHeld => ?_)
                      clear hK K hHeld
                      refine wpAnyH_take (i := 10) (v := ?_) rfl (by kernel_rfl) (by kernel_rfl) (by kernel_rfl) (fun _ _ _ h => h) (Or.inl ⟨by rfl, ?_⟩) (by assumption) ?_
                      rotate_left
                      · (intro w hSw; (try dsimp only at hSw); (first | (go_simp; done) | (go_simp; with_reducible rfl)))
                      try simp only [Act.put, List.setIfInBounds_toArray, List.set_cons_zero, List.set_cons_succ]
                      refine wpAnyH_take (i := 11) (v := ?_) rfl (by kernel_rfl) (by kernel_rfl) (by kernel_rfl) (fun _ _ _ h => h) (Or.inl ⟨by rfl, ?_⟩) (by assumption) ?_
                      rotate_left
                      · (intro w hSw; (try dsimp only at hSw); (first | (go_simp; done) | (go_simp; with_reducible rfl)))
                      try simp only [Act.put, List.setIfInBounds_toArray, List.set_cons_zero, List.set_cons_succ]
                      refine skip_one (i := 12) (j := 11) (d := 124) (e := 125) rfl rfl rfl rfl rfl (by decide) (by kernel_rfl) (by kernel_rfl) (by kernel_rfl) (fun _ _ _ h => h) (by assumption) (by rfl) (fun hT => ?_)
                      refine skip_one (i := 13) (j := 11) (d := 124) (e := 126) rfl rfl rfl rfl rfl (by decide) (by kernel_rfl) (by kernel_rfl) (by kernel_rfl) (fun _ _ _ h => h) (by assumption) hT (fun hT2 => ?_)
                      clear hT
                      have hT := hT2
                      clear hT2
                      refine skip_one (i := 14) (j := 11) (d := 124) (e := 127) rfl rfl rfl rfl rfl (by decide) (by kernel_rfl) (by kernel_rfl) (by kernel_rfl) (fun _ _ _ h => h) (by assumption) hT (fun hT2 => ?_)
                      clear hT
                      have hT := hT2
                      clear hT2
                      refine skip_one (i := 15) (j := 11) (d := 124) (e := 128) rfl rfl rfl rfl rfl (by decide) (by kernel_rfl) (by kernel_rfl) (by kernel_rfl) (fun _ _ _ h => h) (by assumption) hT (fun hT2 => ?_)
                      clear hT
                      have hT := hT2
                      clear hT2
                      refine skip_one (i := 16) (j := 11) (d := 124) (e := 129) rfl rfl rfl rfl rfl (by decide) (by kernel_rfl) (by kernel_rfl) (by kernel_rfl) (fun _ _ _ h => h) (by assumption) hT (fun hT2 => ?_)
                      clear hT
                      have hT := hT2
                      clear hT2
                      refine skip_one (i := 17) (j := 11) (d := 124) (e := 130) rfl rfl rfl rfl rfl (by decide) (by kernel_rfl) (by kernel_rfl) (by kernel_rfl) (fun _ _ _ h => h) (by assumption) hT (fun hT2 => ?_)
                      clear hT
                      have hT := hT2
                      clear hT2
                      refine skip_one (i := 18) (j := 11) (d := 124) (e := 131) rfl rfl rfl rfl rfl (by decide) (by kernel_rfl) (by kernel_rfl) (by kernel_rfl) (fun _ _ _ h => h) (by assumption) hT (fun hT2 => ?_)
                      clear hT
                      have hT := hT2
                      clear hT2
                      refine skip_one (i := 19) (j := 11) (d := 124) (e := 132) rfl rfl rfl rfl rfl (by decide) (by kernel_rfl) (by kernel_rfl) (by kernel_rfl) (fun _ _ _ h => h) (by assumption) hT (fun hT2 => ?_)
                      clear hT
                      have hT := hT2
                      clear hT2
                      clear hT
                      simp only [Act.put, List.getElem_toArray, List.getElem_cons_zero, List.getElem_cons_succ, List.setIfInBounds_toArray, List.set_cons_zero, List.set_cons_succ]
                      refine take_one (i := 20) (e := 133) (v := .bool true) rfl rfl (by kernel_rfl) (by kernel_rfl) (by kernel_rfl) (fun _ _ _ h => h) (Or.inl ⟨by kernel_rfl, ?_⟩) (by assumption) ?_
                      · (intro w hSw; (try dsimp only at hSw); (first | (go_simp; done) | (go_simp; with_reducible rfl)))
                      simp only [Act.put, List.setIfInBounds_toArray, List.set_cons_zero, List.set_cons_succ]
                      refine wpAnyH_done (by kernel_rfl) ?_ _
                      have k6 := KeepB.ext f13 hs5.1
                      go_wp2_with (first | (go_at_call 18; (with_reducible refine lzero_true.mono ?_); rintro e w7 ⟨rfl, f7⟩; have k7 := KeepB.ext f7 k6; clear f7 k6) | (go_at_call 19; (with_reducible refine (alive3_calls (HG.out.ext (E0.out.trans (F4.out.trans k7.1.out)))).mono ?_); rintro e w8 ⟨rfl, f8⟩; have HEND := Aside.mk (E0.out.trans (F4.out.trans (k7.1.out.trans f8))); clear f8 k7))
                      go_ret
                      exact ⟨rfl, HEND.out⟩
                  · exfalso
                    have hjn : j = n := by omega
                    rcases HTY.out with h | h
                    · obtain ⟨q, hq, hb⟩ := List.any_eq_true.1 h
                      obtain ⟨k, hk⟩ := List.getElem?_of_mem hq
                      have hk2 : k < j := by
                        have := (List.getElem?_eq_some_iff.1 hk).1
                        rw [HN.out] at this; omega
                      rw [(HFI.out k q hk2 hk).1] at hb
                      cases hb
                    · exact (HFI.out 0 q0 (by omega) HQ0.out).2 h
          · have hta : (l.any fun q => !tySame q.k q.ds q0.k q0.ds) = false := by
              cases hh : (l.any fun q => !tySame q.k q.ds q0.k q0.ds)
              · rfl
              · exact absurd (.inl hh) ht
            have hd3 : q0.ds.length ≠ 3 := fun h => ht (.inr h)
            obtain ⟨p, hp⟩ : ∃ p, (⟨q0.k, (l.length : Int) :: q0.ds, l.flatMap (·.nums), l.flatMap (·.bits)⟩ : Vq) = p := ⟨_, rfl⟩
            have HPK : Aside (packR l = (p, 0)) := ⟨by rw [← hp]; exact packR_ok HP64.out HA.out HN18.out hq0 hta hd3⟩
            have HPQ := Aside.mk hp
            have HTY : Aside (∀ (k : Nat) q, l[k]? = some q → tySame q.k q.ds q0.k q0.ds = true ∧ q.ds.length ≠ 3) := ⟨fun k q hk => by
              have h1 : tySame q.k q.ds q0.k q0.ds = true := by
                have := List.any_eq_false.1 hta q (List.mem_of_getElem? hk)
                simpa using this
              refine ⟨h1, ?_⟩
              have h2 : q.ds = q0.ds := by
                unfold tySame at h1
                simp at h1
                exact h1.2
              rw [h2]; exact hd3⟩
            clear hq0 ht hta hp hd3
            go_wp2_with (first | (go_at_call 42; (with_reducible refine (packg HLV.out HPK.out).mono ?_); rintro e w4 ⟨D4, e4, A4, a4, B4, b4, rfl, HPV, f4⟩; have k4 := KeepB.init w4 (.int .i64 p.k) (.slice D4 p.ds.length e4) (.slice A4 p.nums.length a4) (.slice B4 p.bits.length b4) 29; have F4 := Aside.mk f4; clear f4) | (go_at_call 43; (with_reducible refine (nums_to (HLV.out.ext ValC.ext (F4.out.trans k4.1.out)) HNU.out HNK.out).mono ?_); rintro e w5 ⟨A5, a5, rfl, HQ5, f5⟩; have k5 := KeepB.ext f5 k4; clear f5 k4))
            go_loopw [9, 10] (fun b i wr => ∃ j : Nat, j ≤ n ∧ b = .int .i64 0 ∧ i = .int .i64 (j : Int) ∧ KeepB w4 (.int .i64 p.k) (.slice D4 p.ds.length e4) (.slice A4 p.nums.length a4) (.slice B4 p.bits.length b4) wr ∧ Aside (Ext w5 wr)) (fun _ i _ => n - (intOf i).toNat)
            case atStart => exact ⟨0, by omega, rfl, rfl, k5, ⟨Ext.refl w5⟩⟩
            case round =>
              clear k5
              obtain ⟨j, hj, rfl, rfl, k5, HX5⟩ := hrel
              by_cases hlt : j < n
              · obtain ⟨q, hq⟩ : ∃ q, l[j]? = some q := ⟨l[j]'(by rw [HN.out]; exact hlt), List.getElem?_eq_getElem _⟩
                obtain ⟨b1, o1, d1, y1, z1, hA, hq0, hq1, hq2, hq3, hvq⟩ := LV.at' (HLV.out.ext ValC.ext (F4.out.trans k5.1.out)) j hq
                first
                  | subst hA
                  | (simp only [Option.some.injEq, Addr.mk.injEq, and_true] at hA; obtain ⟨rfl, rfl⟩ := hA)
                obtain ⟨DQ, cq1, AQ, cq2, BQ, cq3, ev⟩ := hvq.form
                simp only [Value.agg.injEq, Array.mk.injEq, List.cons.injEq, true_and, and_true] at ev
                obtain ⟨rfl, rfl, rfl⟩ := ev
                have HVQ := Aside.mk hvq
                have HGQ := Aside.mk hq
                generalize q.ds.length = lq1 at *
                generalize q.nums.length = lq2 at *
                generalize q.bits.length = lq3 at *
                have hp0 : (0 : Int) ≤ (j : Int) := Int.natCast_nonneg _
                have hp1 : (j : Int) < (n : Int) := by omega
                clear hvq hq
                have HOQ := Aside.mk (HVAL.out j q HGQ.out)
                go_wp2_with (go_at_call 14; (with_reducible refine (rIsValue_calls HVQ.out HOQ.out).mono ?_); rintro e w6 ⟨rfl, f6⟩; have k6 := KeepB.ext f6 k5; have HX6 := Aside.mk (HX5.out.trans f6); clear f6 k5)
                go_roundw
                case rel => exact ⟨j + 1, by omega, rfl, by go_num, k6, HX6⟩
                case measure => simp [intOf]; omega
              · have hjn : ¬ (j : Int) < (n : Int) := by omega
                go_wp2_with (first | (go_at_call 45; (with_reducible refine (rnums_to (HLV.out.ext ValC.ext (F4.out.trans k5.1.out)) HN64.out HA.out HFM.out HNK.out).mono ?_); rintro e w10 ⟨A10, a10, rfl, HQ10, f10⟩; have k10 := KeepB.ext f10 k5; have HQ11 := Aside.mk (HQ5.out.ext RatC.ext (HX5.out.trans f10)); clear f10 k5) | (go_at_call 44; (with_reducible refine (lnumbers_same HQ11.out HQ10.out).mono ?_); rintro e w11 ⟨rfl, f11⟩; have k11 := KeepB.ext f11 k10; clear f11 k10))
                go_loopw [11] (fun i wr => ∃ j : Nat, j ≤ n ∧ i = .int .i64 (j : Int) ∧ KeepB w4 (.int .i64 p.k) (.slice D4 p.ds.length e4) (.slice A4 p.nums.length a4) (.slice B4 p.bits.length b4) wr) (fun i _ => n - (intOf i).toNat)
                case atStart => exact ⟨0, by omega, rfl, k11⟩
                case round =>
                  clear k11 hj hlt hjn HX5
                  obtain ⟨j, hj, rfl, k5⟩ := hrel
                  by_cases hlt : j < n
                  · obtain ⟨q, hq⟩ : ∃ q, l[j]? = some q := ⟨l[j]'(by rw [HN.out]; exact hlt), List.getElem?_eq_getElem _⟩
                    have hEX : Ext wc wr.drew := (F4.out.trans k5.1.out).drew
                    obtain ⟨b1, o1, d1, y1, z1, hA, hq0, hq1, hq2, hq3, hvq⟩ := LV.at' (HLV.out.ext ValC.ext hEX) j hq
                    simp only [Option.some.injEq, Addr.mk.injEq, and_true] at hA
                    obtain ⟨rfl, rfl⟩ := hA
                    obtain ⟨-, htq, -, -⟩ := hvq.ty
                    have HTQ := Aside.mk htq
                    obtain ⟨uq, eq, hiq⟩ := htq
                    simp only [Value.agg.injEq, Array.mk.injEq, List.cons.injEq, true_and, and_true] at eq
                    subst eq
                    obtain ⟨DQ, cq1, rfl, _⟩ := hiq.form
                    obtain ⟨b2, o2, d2, y2, z2, hA, hr0, hr1, hr2, hr3, hvr⟩ := LV.at' (HLV.out.ext ValC.ext hEX) 0 HQ0.out
                    simp only [Option.some.injEq, Addr.mk.injEq, and_true] at hA
                    obtain ⟨rfl, rfl⟩ := hA
                    simp only [Nat.zero_mul, Nat.add_zero] at hr0 hr1
                    obtain ⟨-, htr, -, -⟩ := hvr.ty
                    have HT0 := Aside.mk htr
                    obtain ⟨ur, er, hir⟩ := htr
                    simp only [Value.agg.injEq, Array.mk.injEq, List.cons.injEq, true_and, and_true] at er
                    subst er
                    obtain ⟨D0, c01, rfl, _⟩ := hir.form
                    have HGQ := Aside.mk hq
                    obtain ⟨lq1, hlq⟩ : ∃ n, q.ds.length = n := ⟨_, rfl⟩
                    obtain ⟨l01, hl01⟩ : ∃ n, q0.ds.length = n := ⟨_, rfl⟩
                    have HLQ := Aside.mk hlq
                    have HL01 := Aside.mk hl01
                    rw [hlq] at hq1 HTQ
                    rw [hl01] at hr1 HT0
                    have hs5 : KT5 w4 (.int .i64 p.k) (.slice D4 p.ds.length e4) (.slice A4 p.nums.length a4) (.slice B4 p.bits.length b4) b0 o0 (o0 + j * 4) (.int .i64 q.k) (.slice DQ lq1 cq1) (.int .i64 q0.k) (.slice D0 l01 c01) wr.drew := ⟨KeepB.ext ((Ext.refl wr).drew) k5, ⟨hq0, hq1⟩, ⟨hr0, hr1⟩⟩
                    obtain ⟨sb, hsb⟩ : ∃ b, tySame q.k q.ds q0.k q0.ds = b := ⟨_, rfl⟩
                    have HSB := Aside.mk hsb
                    have hp0 : (0 : Int) ≤ (j : Int) := Int.natCast_nonneg _
                    have hp1 : (j : Int) < (n : Int) := by omega
                    clear hq hvq hvr hiq hir hlq hl01 hsb hEX k5 hq0 hq1 hq2 hq3 hr0 hr1 hr2 hr3
                    have hcs : (sb = true ∧ lq1 = 3) ∨ (sb = true ∧ lq1 ≠ 3) ∨ sb = false := by
                      cases sb
                      · exact .inr (.inr rfl)
                      · by_cases h : lq1 = 3
                        · exact .inl ⟨rfl, h⟩
                        · exact .inr (.inl ⟨rfl, h⟩)
                    rcases hcs with ⟨rfl, hl3⟩ | ⟨rfl, hl3⟩ | rfl
                    · exact absurd (HLQ.out.trans hl3) (HTY.out j q HGQ.out).2
                    · have h3' : ((lq1 : Int) == 3) = false := beq_eq_false_iff_ne.2 (by omega)
                      clear hl3
                      go_wp2_with fail
                      go_region_held3 (fun w' => KT5 w4 (.int .i64 p.k) (.slice D4 p.ds.length e4) (.slice A4 p.nums.length a4) (.slice B4 p.bits.length b4) b0 o0 (o0 + j * 4) (.int .i64 q.k) (.slice DQ lq1 cq1) (.int .i64 q0.k) (.slice D0 l01 c01) w') (first | assumption | exact KT5.ext (by assumption) (by assumption)) ((go_at_call 28; (with_reducible refine (rSame_calls HTQ.out HT0.out HSB.out).mono ?_); rintro e w13 ⟨rfl, f13⟩))
                      have K6 := Aside.mk (KeepB.ext f13 hs5.1)
                      go_wp2_with fail
                      go_roundw
                      case rel => exact ⟨j + 1, by omega, by go_num, K6.out⟩
                      case measure => simp [intOf]; omega
                    · exact absurd (HSB.out.symm.trans (HTY.out j q HGQ.out).1) (by decide)
                  · have hjn : ¬ (j : Int) < (n : Int) := by omega
                    have HN8 : Aside (1 ≤ l.length ∧ l.length ≤ 8) := ⟨by have := HN.out; have := HN18.out; omega⟩
                    have hs6 : KeepB w4 (.int .i64 p.k) (.slice D4 p.ds.length e4) (.slice A4 p.nums.length a4) (.slice B4 p.bits.length b4) wr.drew := KeepB.ext ((Ext.refl wr).drew) k5
                    go_wp2_with fail
                    clear k5
                    go_region_held3 (fun w' => KeepB w4 (.int .i64 p.k) (.slice D4 p.ds.length e4) (.slice A4 p.nums.length a4) (.slice B4 p.bits.length b4) w') (first | assumption | exact KeepB.ext (by assumption) (by assumption)) (first | (go_at_call 46; (with_reducible refine (rpack_to (HLV.out.ext ValC.ext (F4.out.trans (Aside.out (And.left (show KeepB w4 (.int .i64 p.k) (.slice D4 p.ds.length e4) (.slice A4 p.nums.length a4) (.slice B4 p.bits.length b4) _ from by assumption))))) HN8.out HA.out HQ0.out HPQ.out).mono ?_); rintro e w20 ⟨D20, e20, A20, a20, B20, b20, rfl, HR20, f20⟩) | (go_at_call 21; (with_reducible refine (gives3_same (HPV.out.ext (Aside.out (And.left (show KeepB w4 (.int .i64 p.k) (.slice D4 p.ds.length e4) (.slice A4 p.nums.length a4) (.slice B4 p.bits.length b4) _ from by assumption)))) HR20.out).mono ?_); rintro e w21 ⟨rfl, f21⟩) | (go_at_call 19; (with_reducible refine (alive3_calls (HG.out.ext (E0.out.trans (F4.out.trans (Aside.out (And.left (show KeepB w4 (.int .i64 p.k) (.slice D4 p.ds.length e4) (.slice A4 p.nums.length a4) (.slice B4 p.bits.length b4) _ from by assumption))))))).mono ?_); rintro e w22 ⟨rfl, f22⟩))
                    have HEND := Aside.mk (E0.out.trans (F4.out.trans (hs6.1.out.trans (f20.trans (f21.trans f22)))))
                    go_wp2_with fail
                    go_ret
                    exact ⟨rfl, HEND.out⟩
      · have HPK : Aside (packR l = (zeroV, 5)) := ⟨by unfold packR; rw [if_neg hp64, hany, if_pos rfl]⟩
        have HNU : Aside (numsR l = ([], 5)) := ⟨by unfold numsR; rw [if_neg hp64, hany, if_pos rfl]⟩
        have HNK : Aside (([] : List Rq).length = 0) := ⟨rfl⟩
        have HANY := Aside.mk hany
        clear h64 hp64 hany
        go_wp2_with (first | (go_at_call 42; (with_reducible refine (packz HLV.out HPK.out).mono ?_); rintro e w4 ⟨D4, e4, A4, a4, B4, b4, rfl, f4⟩; have k4 := KeepB.init w4 (.int .i64 0) (.slice D4 0 e4) (.slice A4 0 a4) (.slice B4 0 b4) 29; have F4 := Aside.mk f4; clear f4) | (go_at_call 43; (with_reducible refine (nums_to (HLV.out.ext ValC.ext (F4.out.trans k4.1.out)) HNU.out HNK.out).mono ?_); rintro e w5 ⟨A5, a5, rfl, HQ5, f5⟩; have k5 := KeepB.ext f5 k4; clear f5 k4))
        go_loopw [9, 10] (fun b i wr => ∃ j : Nat, j ≤ n ∧ i = .int .i64 (j : Int) ∧ ((b = .int .i64 0 ∧ Aside ((l.take j).any (fun q => !valOk q) = false)) ∨ b = .int .i64 5) ∧ KeepB w4 (.int .i64 0) (.slice D4 0 e4) (.slice A4 0 a4) (.slice B4 0 b4) wr) (fun _ i _ => n - (intOf i).toNat)
        case atStart => exact ⟨0, by omega, rfl, .inl ⟨rfl, ⟨rfl⟩⟩, k5⟩
        case round =>
          clear k5
          obtain ⟨j, hj, rfl, hb, k5⟩ := hrel
          rcases hb with ⟨rfl, HF⟩ | rfl
          · by_cases hlt : j < n
            · obtain ⟨q, hq⟩ : ∃ q, l[j]? = some q := ⟨l[j]'(by rw [HN.out]; exact hlt), List.getElem?_eq_getElem _⟩
              obtain ⟨b1, o1, d1, y1, z1, hA, hq0, hq1, hq2, hq3, hvq⟩ := LV.at' (HLV.out.ext ValC.ext (F4.out.trans k5.1.out)) j hq
              first
                | subst hA
                | (simp only [Option.some.injEq, Addr.mk.injEq, and_true] at hA; obtain ⟨rfl, rfl⟩ := hA)
              obtain ⟨DQ, cq1, AQ, cq2, BQ, cq3, ev⟩ := hvq.form
              simp only [Value.agg.injEq, Array.mk.injEq, List.cons.injEq, true_and, and_true] at ev
              obtain ⟨rfl, rfl, rfl⟩ := ev
              have HVQ := Aside.mk hvq
              have HGQ := Aside.mk hq
              generalize q.ds.length = lq1 at *
              generalize q.nums.length = lq2 at *
              generalize q.bits.length = lq3 at *
              have hp0 : (0 : Int) ≤ (j : Int) := Int.natCast_nonneg _
              have hp1 : (j : Int) < (n : Int) := by omega
              clear hvq hq
              cases hok : valOk q
              · have HOQ := Aside.mk hok
                clear hok
                go_wp2_with (go_at_call 14; (with_reducible refine (rIsValue_calls HVQ.out HOQ.out).mono ?_); rintro e w6 ⟨rfl, f6⟩; have k6 := KeepB.ext f6 k5; clear f6 k5)
                go_roundw
                case rel => exact ⟨j + 1, by omega, by go_num, .inr rfl, k6⟩
                case measure => simp [intOf]; omega
              · have HOQ := Aside.mk hok
                have HF2 : Aside ((l.take (j + 1)).any (fun q => !valOk q) = false) := ⟨by rw [List.take_add_one, HGQ.out, List.any_append, HF.out]; simp [hok]⟩
                clear hok
                go_wp2_with (go_at_call 14; (with_reducible refine (rIsValue_calls HVQ.out HOQ.out).mono ?_); rintro e w6 ⟨rfl, f6⟩; have k6 := KeepB.ext f6 k5; clear f6 k5)
                go_roundw
                case rel => exact ⟨j + 1, by omega, by go_num, .inl ⟨rfl, HF2⟩, k6⟩
                case measure => simp [intOf]; omega
            · exfalso
              have h1 := HF.out
              rw [show j = l.length from by rw [HN.out]; omega, List.take_length, HANY.out] at h1
              cases h1
          · by_cases hjn : (j : Int) < (n : Int)
            · go_wp2_with (first | (go_at_call 18; (with_reducible refine lzero_true.mono ?_); rintro e w7 ⟨rfl, f7⟩; have k7 := KeepB.ext f7 k5; clear f7 k5) | (go_at_call 19; (with_reducible refine (alive3_calls (HG.out.ext (E0.out.trans (F4.out.trans k7.1.out)))).mono ?_); rintro e w8 ⟨rfl, f8⟩; have HEND := Aside.mk (E0.out.trans (F4.out.trans (k7.1.out.trans f8))); clear f8 k7))
              go_ret
              exact ⟨rfl, HEND.out⟩
            · go_wp2_with (first | (go_at_call 18; (with_reducible refine lzero_true.mono ?_); rintro e w7 ⟨rfl, f7⟩; have k7 := KeepB.ext f7 k5; clear f7 k5) | (go_at_call 19; (with_reducible refine (alive3_calls (HG.out.ext (E0.out.trans (F4.out.trans k7.1.out)))).mono ?_); rintro e w8 ⟨rfl, f8⟩; have HEND := Aside.mk (E0.out.trans (F4.out.trans (k7.1.out.trans f8))); clear f8 k7))
              go_ret
              exact ⟨rfl, HEND.out⟩
end Go.Proofs.YtcbaipnphepbeaaGreatDoor

namespace Go.Proofs.YtcbaipnphepbeaaGreatDoor
open Go.RowKit Go.ChangeShapes Go.WideShapes Go.ChangeAt

set_option maxRecDepth 100000 in
/-- An argument that is a list of values. -/
theorem vals_of {H : Type} {enc : TypeId × Value → H} {W : World} {n base : Nat} {v : Value} {x : DataW H × List MemPlace} {held : Bool} (hv : Value.okWide Tryz.prog W .any base 66 v)
    (h : DataW.trod enc Tryz.prog W 0 (fun _ => true) held n 66 v.cells.toList = some x) : ∃ l, RawL 4 ValL W v l := by
  obtain ⟨s, l, e, hx⟩ := rows_of (R := ValL) (W := W) Tryz.underlying66 Tryz.cValue h fun _ _ _ hl ht => valC_of hl ht
  have hs := hx
  simp only [Value.okWide, Tryz.underlying66] at hv
  have : v = s := by
    cases v <;> first | (simp [Value.cells] at e; exact e) | (simp [Cell.okWide, Cell.ok, Tryz.underlying66] at hv)
  exact ⟨l, this ▸ hs⟩
set_option maxRecDepth 100000 in
theorem lwPacks_lifted (os : Os) (started : os.Started) (H : Type) (enc : TypeId × Value → H) :
    ReturnsInHanded {} Tryz.checked os 9 .any (fun w args => (Rows.shapePacksSpec.pre enc Tryz.prog Tryz.f9 [] false w args ∧ laidMetH Tryz.prog Rows.shapePacksRow.laid w) ∧ sizedMet enc Tryz.prog Tryz.f9 (OpenSpec.ofChange Rows.shapePacksSpec) false w args)
      (Rows.shapePacksSpec.post enc Tryz.prog Tryz.f9 false true false false) := by
  refine returns_law (C := Tryz.checked) (X := fun w _ => laidMetH Tryz.prog Rows.shapePacksRow.laid w) (fun _ _ _ hh h => h.of_heap hh) Tryz.own started (by kernel_rfl) Tryz.func9
    (ChangeSpec.witness_shaped (enc := enc) (C := Tryz.checked) (os := os) (X := fun w _ => laidMetH Tryz.prog Rows.shapePacksRow.laid w) false (World.laidAll Tryz.prog os Rows.shapePacksRow.laid) #[.slice none 0 0] 8 (World.laidAll_os _ _ _)
      (World.shaped_of_ZipB (by kernel_rfl) (by kernel_rfl)) (by kernel_rfl) (by kernel_rfl) (by kernel_rfl)
      (by rw [MakeChecks.laidMetH_plain _ _ _ (by kernel_rfl)]; exact laidMet_laidAll _ (by kernel_rfl) (by kernel_rfl))) ?_
  intro W base args ds gs before hval0 hW hL hsh
  have hval : ∀ (j : Nat) t v, Tryz.f9.params[j]? = some t → args[j]? = some v → Value.okWide Tryz.prog W .any base t v := hval0
  have hW' := hW
  obtain ⟨p, q, hA0, hV, rfl, hfz, hnd⟩ := hW
  have hA : DataW.TrodAll enc Tryz.prog W 0 (fun _ => true) true Tryz.f9.params.toList args.toList ds p := hA0
  have hA' := hA
  rw [Tryz.params9] at hA hval
  obtain ⟨v0, d0, rfl, rfl, ⟨k0, h0⟩⟩ := trodAll_one hA
  obtain ⟨rfl, rfl⟩ := trodVars_none hV
  have hG := glob3_of (by kernel_rfl) rfl hL hsh
  obtain ⟨lr, hl⟩ := vals_of (hval 0 66 v0 rfl rfl) h0
  refine (lwPacks_calls hG hl).mono fun e W' ⟨he, hw⟩ => ?_
  subst he
  refine ⟨_, rfl, law_post (ts := Tryz.f9.params.toList) rfl rfl rfl ?_ ⟨rfl, rfl, rfl⟩ hW' (by simpa using hA') hw⟩
  rw [Tryz.params9]
  exact read_all (by kernel_rfl)

theorem shapePacks_holds : Rows.ShapePacksSaid :=
  OpenClaim.holds_of_wide 9 Tryz.f9 rfl rfl rfl rfl rfl rfl rfl ⟨rfl, rfl, rfl, rfl, rfl⟩ rfl rfl rfl rfl rfl (by kernel_rfl) Tryz.func9 (by kernel_rfl)
    (of_decide_eq_true (by kernel_rfl)) (by unfold Func.isWrapper; first | (rw [if_neg (by decide +kernel)]; exact ⟨rfl, rfl⟩) | (rw [if_pos (by decide +kernel)]; kernel_rfl))
    (fun os started H enc _ => lwPacks_lifted os started H enc)
end Go.Proofs.YtcbaipnphepbeaaGreatDoor

namespace Go.Proofs.YtcbaipnphepbeaaGreatDoor
open Go

set_option maxRecDepth 100000 in
theorem shapePacks_card : Rows.ShapePacksCardSaid :=
  Claim7.holds_tied_plain_at .later [] [.data, .data, .data, .data, .data] true (true, "74a4f590cf19fe5091db46413e7db25a7b9d51dc5c5273584579c29297515e2e") false
    shapePacks_holds (fun _ h => by cases h) (by kernel_rfl) (fun _ h => by cases h) shapePacks_row_tie rfl ⟨rfl, rfl⟩ (by kernel_rfl) rfl
    (fun f fn hf hfn => by
      obtain rfl : f = 9 := Option.some.inj ((show Tryz.prog.funcNamed "fluxion/fluxionlaw03.ShapePacks" = some 9 by kernel_rfl).symm.trans hf) |>.symm
      obtain rfl : fn = Tryz.f9 := (Option.some.inj (Tryz.func9.symm.trans hfn)).symm
      exact ⟨by kernel_rfl, fun j t ht => by
        rw [Tryz.params9] at ht
        have hm : t ∈ Tryz.f9.params.toList := by rw [Tryz.params9]; exact Array.mem_toList_iff.2 (Array.mem_of_getElem? ht)
        have hall : (Tryz.f9.params.toList.all fun u => !Tryz.prog.wantsStandIn u) = true := by kernel_rfl
        exact (show Tryz.prog.wantsStandIn t = false by simpa using List.all_eq_true.1 hall t hm)⟩)
    (by kernel_rfl)
#print axioms shapePacks_card
end Go.Proofs.YtcbaipnphepbeaaGreatDoor
