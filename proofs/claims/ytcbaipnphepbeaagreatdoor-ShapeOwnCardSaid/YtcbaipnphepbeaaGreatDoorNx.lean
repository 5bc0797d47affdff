/- Contracts of fluxionref03: Whole. Contracts of fluxionref03: Pack. Contracts of shape and fluxionref03: Numbers; of fluxionlaw03: numbers. Contracts of fluxionref03: Numbers; of fluxionlaw03: numbers. Rows of Values the lists of which are the call's own. -/
import Derived.Test.YtcbaipnphepbeaaGreatDoorNw
import Derived.Test.YtcbaipnphepbeaaGreatDoorNr
import Derived.Test.YtcbaipnphepbeaaGreatDoorNo
import Derived.Test.YtcbaipnphepbeaaGreatDoorNt
namespace Go.Proofs.YtcbaipnphepbeaaGreatDoor
open Go.RowKit
attribute [local go_sem ↓] Go.wp_at_zero Go.wp_at_succ

/-- Pack of any list. -/
theorem pack_calls {w : World} {v : Value} {l : List Vq} {m : Vq × Int} (h : LV w v l) (hm : packR l = m) :
    Calls Tryz.prog 42 #[v] w fun e w' => ValP w.heap.size w' m e ∧ Ext w w' := by
  by_cases hb : 64 < l.length ∨ (l.any fun q => !valOk q) = true ∨ (l.length = 0 ∨ 8 < l.length)
  · exact pack_bad h hm hb
  · have h2 : (l.any fun q => !valOk q) = false := by
      cases hh : (l.any fun q => !valOk q)
      · rfl
      · exact absurd (.inr (.inl hh)) hb
    have hn8 : 1 ≤ l.length ∧ l.length ≤ 8 := by omega
    obtain ⟨q0, hq⟩ : ∃ q, l[0]? = some q := ⟨l[0]'(by omega), List.getElem?_eq_getElem _⟩
    by_cases ht : (l.any fun q => !tySame q.k q.ds q0.k q0.ds) = true ∨ q0.ds.length = 3
    · exact pack_type h hm hn8 h2 hq ht
    · exact pack_ok h hm hn8 h2 hq (by
        cases hh : (l.any fun q => !tySame q.k q.ds q0.k q0.ds)
        · rfl
        · exact absurd (.inl hh) ht) (fun h3 => ht (.inr h3))
theorem whole_part {v : Vq} {m : Nat} (ho : valOk v = true) (hm : prodI v.ds = (m : Int)) : partN v 0 m = v.nums ∧ partB v 0 m = v.bits ∧ (v.k = 1 → 0 + m ≤ v.nums.length) ∧ (v.k ≠ 1 → 0 + m ≤ v.bits.length) := by
  have hk := valOk_kinds ho
  unfold valOk at ho
  simp only [Bool.and_eq_true] at ho
  have h2 := ho.2
  unfold partN partB
  by_cases h1 : v.k = 1
  · rw [if_pos h1] at h2
    simp only [Bool.and_eq_true, beq_iff_eq] at h2
    have hl : v.nums.length = m := by omega
    rw [if_pos h1, if_pos h1, (hk.1 h1).1, List.drop_zero, ← hl, List.take_length]
    exact ⟨rfl, rfl, fun _ => by omega, fun h => absurd h1 h⟩
  · rw [if_neg h1] at h2
    have hl : v.bits.length = m := by
      split at h2
      · simp only [Bool.and_eq_true, beq_iff_eq] at h2; omega
      · cases h2
    rw [if_neg h1, if_neg h1, (hk.2 h1).1, List.drop_zero, ← hl, List.take_length]
    exact ⟨rfl, rfl, fun h => absurd h h1, fun _ => by omega⟩
theorem rpart0_calls {w : World} {x : Value} {v : Vq} {many : Nat} {kt : Int} {T : Option Addr} {lt ct : Nat} (h : VV w x v) (hfm : 0 + many ≤ 4096) (hl1 : v.k = 1 → 0 + many ≤ v.nums.length) (hl2 : v.k ≠ 1 → 0 + many ≤ v.bits.length) :
    Calls Tryz.prog 73 #[x, .int .i64 0, .int .i64 (many : Int), .agg #[.int .i64 kt, .slice T lt ct]] w fun e w' => ∃ xn xb, e = .returned (.agg #[.int .i64 kt, .slice T lt ct, xn, xb]) ∧
      SO w.heap.size 83 4 (RatO w.heap.size) w' xn (partN v 0 many) ∧ SO w.heap.size 46 2 BitC w' xb (partB v 0 many) ∧ Ext w w' := rpart_calls (fr := 0) h hfm hl1 hl2
set_option maxRecDepth 10000 in
set_option maxHeartbeats 8000000 in
theorem rWhole_calls {w : World} {x : Value} {v : Vq} (h : VV w x v) (ho : valOk v = true) :
    Calls Tryz.prog 55 #[x] w fun e w' => ∃ r, e = .returned r ∧ VO w.heap.size w' r v ∧ Ext w w' := by
  have HV := Aside.mk h
  obtain ⟨D, cd, A, ca, B, cb, rfl⟩ := h.form
  obtain ⟨-, hty, -, -⟩ := h.ty
  have hdim := valOk_dims ho
  obtain ⟨m, hm⟩ : ∃ m : Nat, prodI v.ds = (m : Int) := ⟨(prodI v.ds).toNat, by have := hdim.prod; omega⟩
  have hw := whole_part ho hm
  have HTV := Aside.mk hty
  have HDD := Aside.mk hdim
  have HM := Aside.mk hm
  have HEN := Aside.mk hw.1
  have HEB := Aside.mk hw.2.1
  have HL1 := Aside.mk hw.2.2.1
  have HL2 := Aside.mk hw.2.2.2
  have HFM : Aside (0 + m ≤ 4096) := ⟨by have := hdim.prod; omega⟩
  obtain ⟨u, e, hi⟩ := hty
  simp only [Value.agg.injEq, Array.mk.injEq, List.cons.injEq, true_and, and_true] at e
  subst e
  have HD := Aside.mk hi.sv
  obtain ⟨nd, hnd⟩ : ∃ n, v.ds.length = n := ⟨_, rfl⟩
  obtain ⟨ln, hln⟩ : ∃ n, v.nums.length = n := ⟨_, rfl⟩
  obtain ⟨lb, hlb⟩ : ∃ n, v.bits.length = n := ⟨_, rfl⟩
  have HND := Aside.mk hnd
  have HLN := Aside.mk hln
  have HLB := Aside.mk hlb
  rw [hnd] at HTV HD
  rw [hnd, hln, hlb] at HV ⊢
  have hk0 := KeepO.ext ((Ext.refl _).drew) (KeepO.init w (.int .i64 v.k) (.slice D nd cd) (.slice A ln ca) (.slice B lb cb) (.int .i64 0) (.slice none 0 0) (.slice none 0 0) (.slice none 0 0) 29 29)
  clear h ho hdim hm hw hi hnd hln hlb
  go_enter Tryz.func55, Tryz.ntmps55
  go_wp2
  go_region_held3 (fun w' => KeepO w (.int .i64 v.k) (.slice D nd cd) (.slice A ln ca) (.slice B lb cb) w') (first | assumption | exact KeepO.ext (by assumption) (by assumption) | exact KeepO.ext ((Ext.refl _).alloc _) (by assumption) | exact (((KeepO.set (by assumption) _ _).set _ _).set _ _).set _ _) (first | (go_at_call 40; (with_reducible refine (rSize_calls (HTV.out.ext (Aside.out (And.left (show KeepO w (.int .i64 v.k) (.slice D nd cd) (.slice A ln ca) (.slice B lb cb) _ from by assumption)))) HDD.out).mono ?_); rw [HM.out]; rintro e w1 ⟨rfl, he1⟩; have HE1 := Aside.mk he1) | (refine step_lit (base := w.heap.size + 2) elemInt IntC.ext rfl (.tmp 10) (.tmp 13) rfl (.slice D nd cd) v.ds (by rfl) (by rfl) (lit_at (by (repeat (first | with_reducible refine lit_ext HE1 ?_ | with_reducible refine lit_drew ?_ | ((with_reducible refine lit_new ?_); simp; done) | with_reducible refine lit_old ?_))) (by first | (simp; done) | (have := HE1.out.size; simp at this ⊢; omega))) (HD.out.ext IntC.ext (Aside.out (And.left (show KeepO w (.int .i64 v.k) (.slice D nd cd) (.slice A ln ca) (.slice B lb cb) _ from by assumption)))).sw (by first | (simp; done) | (have := HE1.out.size; simp at this ⊢; omega)) ?_; rintro v1 w3 h1 he3; have hk3 := KeepO.ext he3 (show KeepO w (.int .i64 v.k) (.slice D nd cd) (.slice A ln ca) (.slice B lb cb) _ from by assumption); obtain ⟨A1, c1, rfl, _⟩ := h1.sv.form; rw [HND.out] at h1 ⊢; have HR1 := Aside.mk h1; have HE3 := Aside.mk he3; clear h1) | (go_at_call 73; have HZ7 := Aside.mk (World.block_lt_of_cell? _ _ (show KeepO w (.int .i64 v.k) (.slice D nd cd) (.slice A ln ca) (.slice B lb cb) _ from by assumption).2.2.1.1); (with_reducible refine (rpart0_calls (many := m) (HV.out.ext (show KeepO w (.int .i64 v.k) (.slice D nd cd) (.slice A ln ca) (.slice B lb cb) _ from by assumption).1.out) HFM.out HL1.out HL2.out).mono ?_); rintro e w5 ⟨xn, xb, rfl, hxn, hxb, he5⟩; obtain ⟨A5, a5, rfl, _⟩ := hxn.sv.form; obtain ⟨B5, b5, rfl, _⟩ := hxb.sv.form; rw [HEN.out] at hxn ⊢; rw [HEB.out] at hxb ⊢; rw [HLN.out, HLB.out]; have hk5 := KeepO.ext he5 (show KeepO w (.int .i64 v.k) (.slice D nd cd) (.slice A ln ca) (.slice B lb cb) _ from by assumption); have HXN := Aside.mk hxn; have HXB := Aside.mk hxb; have HE5 := Aside.mk he5; clear hxn hxb))
  all_goals
    have HK := Aside.mk hk5
    go_wp2_with fail
    refine bodyPost_ret (v := .agg #[.int .i64 v.k, .slice A1 nd c1, .slice A5 ln a5, .slice B5 lb b5]) (by simp [results, Tryz.results55, go_sem, hk5]) rfl ⟨_, rfl, ⟨_, _, _, rfl, ?_, ?_, ?_⟩, ext_set4 HK.out.1.out (Nat.le_succ _) _ _ _ _⟩
    · exact ((HR1.out.ext IntC.ext HE5.out).set4 (Nat.lt_succ_self _) _ _ _ _ (fun _ _ _ _ _ _ h => h)).mono (Nat.le_succ_of_le (Nat.le_succ _))
    · have hx := HXN.out
      rw [HLN.out] at hx
      exact ((hx.set4 HZ7.out _ _ _ _ (fun w p hp u c a h => RatO.set hp u c a h)).mono (Nat.le_of_lt (Nat.lt_of_succ_lt HZ7.out))).monoR (fun _ _ h => h.mono (Nat.le_of_lt (Nat.lt_of_succ_lt HZ7.out)))
    · have hx := HXB.out
      rw [HLB.out] at hx
      exact (hx.set4 HZ7.out _ _ _ _ (fun _ _ _ _ _ _ h => h)).mono (Nat.le_of_lt (Nat.lt_of_succ_lt HZ7.out))
end Go.Proofs.YtcbaipnphepbeaaGreatDoor

namespace Go.Proofs.YtcbaipnphepbeaaGreatDoor
open Go.RowKit
attribute [local go_sem ↓] Go.wp_at_zero Go.wp_at_succ

end Go.Proofs.YtcbaipnphepbeaaGreatDoor

namespace Go.Proofs.YtcbaipnphepbeaaGreatDoor
open Go.RowKit
attribute [local go_sem ↓] Go.wp_at_zero Go.wp_at_succ

theorem field_nums (a b c d : Value) : ∀ W : World, (Instr.field 29 (.agg #[a, b, c, d]) 1).run Tryz.prog W = .ok c W := fun _ => by kernel_rfl
/-- What Numbers returns. -/
def numsR (l : List Vq) : List Rq × Int := if 64 < l.length then ([], 3) else if (l.any fun q => !valOk q) = true then ([], 5) else (l.flatMap (·.nums), 0)
/-- A list of Rats and an error. -/
def RatsP (b : Nat) (w' : World) (m : List Rq × Int) (e : Ending) : Prop := ∃ r, e = .returned (.tuple #[r, .int .i64 m.2]) ∧ SO b 83 4 (RatO b) w' r m.1
set_option maxRecDepth 10000 in
set_option maxHeartbeats 8000000 in
theorem numbers_calls {w : World} {v : Value} {l : List Vq} {m : List Rq × Int} (h : LV w v l) (hm : numsR l = m) :
    Calls Tryz.prog 43 #[v] w fun e w' => RatsP w.heap.size w' m e ∧ Ext w w' := by
  obtain ⟨A, c, rfl, hc, hl30⟩ := h.form
  have HL := Aside.mk h
  obtain ⟨n, hn⟩ : ∃ n, l.length = n := ⟨_, rfl⟩
  have HN := Aside.mk hn
  rw [hn] at HL hc hl30 ⊢
  obtain ⟨b, hbb⟩ : ∃ b, (l.any fun q => !valOk q) = b := ⟨_, rfl⟩
  have HA := Aside.mk hbb
  have HC1 : Aside (∀ args w, Sem.run Tryz.prog (callFunc 95 args) w = .ok (.enter 95 args) w) := ⟨by intro args w; simp [go_sem]⟩
  have HF1 : Aside (∀ {W : World} w' x q, Ext W w' → VV w' x q → Calls Tryz.prog 95 #[x] w' fun e w2 => e = .returned (.bool (!valOk q)) ∧ Ext w' w2) := ⟨fun w' x q _ h => numbers1_calls h rfl⟩
  unfold numsR at hm
  rw [hn, hbb] at hm
  clear h hn
  by_cases h64 : 64 < n
  · have HM : Aside (m = ([], 3)) := ⟨by rw [← hm, if_pos h64]⟩
    have h64' : (64 : Int) < (n : Int) := by omega
    clear hm hbb
    go_enter Tryz.func43, Tryz.ntmps43
    go_wp2
    go_ret2
    exact ⟨⟨.slice none 0 0, by rw [HM.out]; rfl, by rw [HM.out]; exact SO.nil⟩, Ext.refl w⟩
  · have h64' : ¬ (64 : Int) < (n : Int) := by omega
    rw [if_neg h64] at hm
    cases b
    · have HM : Aside (m = (l.flatMap (·.nums), 0)) := ⟨by rw [← hm, if_neg (by decide)]⟩
      have HVAL : Aside (∀ (j : Nat) q, l[j]? = some q → valOk q = true) := ⟨fun j q hq => any_not_valOk hbb hq⟩
      clear hm hbb
      go_enter Tryz.func43, Tryz.ntmps43
      go_wp2_with (go_at_call 91; (with_reducible refine (containsVal_calls (p := fun q => !valOk q) HC1.out HL.out HA.out HF1.out).mono ?_); rintro e w1 ⟨rfl, he1⟩)
      go_loopw [4, 16] (fun o i wr => ∃ (j : Nat) (NA : Option Addr) (nn nc : Nat), j ≤ n ∧ nn ≤ 512 * j ∧ i = .int .i64 (j : Int) ∧ o = .slice NA nn nc ∧ Aside (Ext w wr) ∧
        Aside (∃ ns, ns = (l.take j).flatMap (·.nums) ∧ ns.length = nn ∧ SO w.heap.size 83 4 (RatO w.heap.size) wr (.slice NA nn nc) ns)) (fun _ i _ => n - (intOf i).toNat)
      case atStart => exact ⟨0, none, 0, 0, by omega, by omega, rfl, rfl, ⟨he1⟩, ⟨[], by simp, rfl, SO.nil⟩⟩
      case round =>
        clear he1
        obtain ⟨j, NA, nn, nc, hj, hnj, rfl, rfl, HE, HS⟩ := hrel
        obtain ⟨ns, hns, hnn, hout⟩ := HS.out
        have HNS := Aside.mk hns
        have HNN := Aside.mk hnn
        have HOUT := Aside.mk hout
        clear HS hns hnn hout
        by_cases hlt : j < n
        · obtain ⟨q, hq⟩ : ∃ q, l[j]? = some q := ⟨l[j]'(by rw [HN.out]; exact hlt), List.getElem?_eq_getElem _⟩
          obtain ⟨b1, o1, d1, y1, z1, rfl, hq0, hq1, hq2, hq3, hvq⟩ := LV.at' (SV.ext ValC.ext HL.out HE.out) j hq
          obtain ⟨DQ, cq1, AQ, cq2, BQ, cq3, ev⟩ := hvq.form
          simp only [Value.agg.injEq, Array.mk.injEq, List.cons.injEq, true_and, and_true] at ev
          obtain ⟨rfl, rfl, rfl⟩ := ev
          have HOKQ := Aside.mk (HVAL.out j q hq)
          have hql := (valOk_len HOKQ.out).1
          have HNS2 := Aside.mk (flat_snoc (f := (·.nums)) hq)
          obtain ⟨lq1, hl1⟩ : ∃ n, q.ds.length = n := ⟨_, rfl⟩
          obtain ⟨lq2, hl2⟩ : ∃ n, q.nums.length = n := ⟨_, rfl⟩
          obtain ⟨lq3, hl3⟩ : ∃ n, q.bits.length = n := ⟨_, rfl⟩
          rw [hl1] at hq1 hvq
          rw [hl2] at hq2 hvq hql
          rw [hl3] at hq3 hvq
          have HL1 := Aside.mk hl1
          have HL2 := Aside.mk hl2
          have HL3 := Aside.mk hl3
          have HVQ := Aside.mk (hvq.ext ((Ext.refl wr).alloc (.cells #[.int .i64 q.k, .slice DQ lq1 cq1, .slice AQ lq2 cq2, .slice BQ lq3 cq3] 29)))
          have HBASE : Aside (w.heap.size ≤ (wr.alloc (.cells #[.int .i64 q.k, .slice DQ lq1 cq1, .slice AQ lq2 cq2, .slice BQ lq3 cq3] 29)).heap.size) := ⟨Nat.le_trans HE.out.size ((Ext.refl wr).alloc (.cells #[.int .i64 q.k, .slice DQ lq1 cq1, .slice AQ lq2 cq2, .slice BQ lq3 cq3] 29)).size⟩
          have HLBN : Aside (ns.length + q.nums.length ≤ 1073741824) := ⟨by rw [HNN.out, hl2]; omega⟩
          have HLN2 : Aside ((ns ++ q.nums).length = nn + lq2) := ⟨by simp [HNN.out, hl2]⟩
          have hp0 : (0 : Int) ≤ (j : Int) := Int.natCast_nonneg _
          have hp1 : (j : Int) < (n : Int) := by omega
          have HJ := Aside.mk (And.intro hnj hql)
          have hbx := B4.new (w := wr) rfl (.int .i64 q.k) (.slice DQ lq1 cq1) (.slice AQ lq2 cq2) (.slice BQ lq3 cq3) 29
          clear hq hvq hl1 hl2 hl3 hnj hql
          go_wp2_with (first | (go_at_call 66; (with_reducible refine (own_calls HVQ.out).mono ?_); rintro e w3 ⟨r3, rfl, hr, he⟩; obtain ⟨D3, d3, A3, a3, B3, b3, rfl⟩ := hr.vv.form; rw [HL1.out, HL2.out, HL3.out] at hr ⊢; have E3 := Aside.mk (((Ext.refl wr).alloc (.cells #[.int .i64 q.k, .slice DQ lq1 cq1, .slice AQ lq2 cq2, .slice BQ lq3 cq3] 29)).trans he); have hfl := field_nums (.int .i64 q.k) (.slice D3 lq1 d3) (.slice A3 lq2 a3) (.slice B3 lq3 b3); have HON := Aside.mk (hr.parts.2.1.sv.mono (fun _ _ h => RatO.mono h HBASE.out)); have HOUT3 := Aside.mk (HOUT.out.ext (RatO.ext _) E3.out); have HS3 := Aside.mk (Nat.le_trans HE.out.size E3.out.size); clear hr he) | (at_builtin; refine append_so (R := RatO w.heap.size) w.heap.size elemRat rfl _ _ rfl _ _ ns q.nums HOUT3.out HON.out RatO.one (fun _ hg => RatO.grown HOUT3.out (by decide) hg) rfl rfl HS3.out HLBN.out ?_; intro v1 w6 ho hg; obtain ⟨A5, c5, rfl, _⟩ := ho.sv.form; rw [HLN2.out] at ho ⊢; have HE6 := Aside.mk (SO.ext_grown HOUT3.out (HE.out.trans E3.out) (Nat.le_refl _) hg); have HOUT6 := Aside.mk ho; clear ho hg))
          go_roundw
          case rel => exact ⟨j + 1, A5, nn + lq2, c5, by omega, by have := HJ.out; omega, by go_num, rfl, HE6, ⟨_, by rw [HNS2.out, ← HNS.out], HLN2.out, HOUT6.out⟩⟩
          case measure => simp [intOf]; omega
        · have hjn : j = n := by omega
          have hp1 : ¬ (j : Int) < (n : Int) := by omega
          have HTN : Aside (l.take j = l) := ⟨by rw [hjn, ← HN.out, List.take_length]⟩
          go_wp2_with fail
          go_ret2
          exact ⟨⟨.slice NA nn nc, by rw [HM.out]; rfl, by
            have hns := HNS.out
            rw [HTN.out] at hns
            rw [HM.out, ← hns]; exact HOUT.out⟩, HE.out⟩
    · have HM : Aside (m = ([], 5)) := ⟨by rw [← hm, if_pos rfl]⟩
      clear hm hbb
      go_enter Tryz.func43, Tryz.ntmps43
      go_wp2_with (go_at_call 91; (with_reducible refine (containsVal_calls (p := fun q => !valOk q) HC1.out HL.out HA.out HF1.out).mono ?_); rintro e w1 ⟨rfl, he1⟩)
      go_ret2
      exact ⟨⟨.slice none 0 0, by rw [HM.out]; rfl, by rw [HM.out]; exact SO.nil⟩, he1⟩
end Go.Proofs.YtcbaipnphepbeaaGreatDoor

namespace Go.Proofs.YtcbaipnphepbeaaGreatDoor
open Go.RowKit
attribute [local go_sem ↓] Go.wp_at_zero Go.wp_at_succ

set_option maxRecDepth 10000 in
set_option maxHeartbeats 8000000 in
/-- law03.numbers of two readings of one list. -/
theorem lnumbers_same {w : World} {x y : Value} {l : List Rq} (hx : QV w x l) (hy : QV w y l) :
    Calls Tryz.prog 44 #[x, y] w fun e w' => e = .returned (.bool true) ∧ Ext w w' := by
  obtain ⟨A, ca, rfl, hca, hl30⟩ := hx.form
  obtain ⟨A', ca', rfl, hca', _⟩ := hy.form
  have HX := Aside.mk hx
  have HY := Aside.mk hy
  obtain ⟨ln, hln⟩ : ∃ n, l.length = n := ⟨_, rfl⟩
  have HLN := Aside.mk hln
  rw [hln] at HX HY hca hca' hl30 ⊢
  clear hx hy hln
  go_enter Tryz.func44, Tryz.ntmps44
  go_wp2
  go_loopw [5] (fun i wr => ∃ j : Nat, j ≤ ln ∧ i = .int .i64 (j : Int) ∧ Aside (Ext w wr)) (fun i _ => ln - (intOf i).toNat)
  case atStart => exact ⟨0, by omega, rfl, ⟨Ext.refl w⟩⟩
  case round =>
    obtain ⟨j, hj, rfl, HE⟩ := hrel
    by_cases hlt : j < ln
    · obtain ⟨q, hq⟩ : ∃ q, l[j]? = some q := ⟨l[j]'(by rw [HLN.out]; exact hlt), List.getElem?_eq_getElem _⟩
      obtain ⟨b0, o0, x0, y0, rfl, ha0, ha1, ha2, ha3, hr1⟩ := QV.at' (SV.ext RatC.ext HX.out HE.out.drew) j hq
      obtain ⟨b1, o1, x1, y1, rfl, hb0, hb1, hb2, hb3, hr2⟩ := QV.at' (SV.ext RatC.ext HY.out HE.out.drew) j hq
      have hc1 : C4 wr.drew b0 (o0 + j * 4) (.int .i64 q.f) (.bool q.neg) x0 y0 := ⟨ha0, ha1, ha2, ha3⟩
      have hc2 : C4 wr.drew b1 (o1 + j * 4) (.int .i64 q.f) (.bool q.neg) x1 y1 := ⟨hb0, hb1, hb2, hb3⟩
      have HR1 := Aside.mk hr1
      have HR2 := Aside.mk hr2
      have hes : Aside (Ext w wr.drew) := ⟨HE.out.drew⟩
      have hp0 : (0 : Int) ≤ (j : Int) := Int.natCast_nonneg _
      have hp1 : (j : Int) < (ln : Int) := by omega
      clear ha0 ha1 ha2 ha3 hb0 hb1 hb2 hb3 hr1 hr2 hq
      go_wp2_with fail
      go_region_held3 (fun w' => Aside (Ext w w') ∧ C4 w' b0 (o0 + j * 4) (.int .i64 q.f) (.bool q.neg) x0 y0 ∧ C4 w' b1 (o1 + j * 4) (.int .i64 q.f) (.bool q.neg) x1 y1) (first | (exact ⟨by assumption, by assumption, by assumption⟩) | exact ⟨he2, C4.ext he hc1, C4.ext he hc2⟩) ((go_at_call 82; (with_reducible refine (requal_same HR1.out HR2.out).mono ?_); rintro e w2 ⟨rfl, he⟩; have he2 := Aside.mk (HE.out.trans ((Ext.refl wr).drew.trans he))))
      go_wp2_with fail
      go_roundw
      case rel => exact ⟨j + 1, by omega, by go_num, he2⟩
      case measure => simp [intOf]; omega
    · go_wp2_with fail
      go_ret
      exact ⟨rfl, HE.out⟩
end Go.Proofs.YtcbaipnphepbeaaGreatDoor

namespace Go.Proofs.YtcbaipnphepbeaaGreatDoor
open Go.RowKit

theorem SV.one {α : Type} {k : Nat} {R : World → List Value → α → Prop} {w : World} {v : Value} {l : List α} (h : SV k R w v l) : v.oneCell' = true := by
  obtain ⟨A, c, xs, rfl, _⟩ := h; rfl
theorem value_vo {w : World} {x : Value} {v u : Vq} (h : VL w x v) (hu : cutv v = u) :
    Calls Tryz.prog 13 #[x] w fun e w' => ∃ D d A a B b, e = .returned (.agg #[.int .i64 u.k, .slice D u.ds.length d, .slice A u.nums.length a, .slice B u.bits.length b]) ∧ VO w.heap.size w' (.agg #[.int .i64 u.k, .slice D u.ds.length d, .slice A u.nums.length a, .slice B u.bits.length b]) u ∧ Ext w w' := by
  subst hu
  refine (value_calls h).mono ?_
  rintro e w' ⟨r, rfl, hr, he⟩
  obtain ⟨D, d, A, a, B, b, rfl⟩ := hr.vv.form
  exact ⟨D, d, A, a, B, b, rfl, hr, he⟩
/-- A value's cells, its lists however long. -/
def ValL (w : World) (c : List Value) (v : Vq) : Prop := ∃ d n b, c = [.int .i64 v.k, d, n, b] ∧ RawL 1 IntC w d v.ds ∧ RawL 4 RatL w n v.nums ∧ RawL 2 BitC w b v.bits
theorem RawL.form {α : Type} {k : Nat} {R : World → List Value → α → Prop} {w : World} {v : Value} {l : List α} (h : RawL k R w v l) : ∃ A c, v = .slice A l.length c ∧ l.length ≤ c ∧ l.length ≤ maxLen := let ⟨A, c, _, h1, h2, h3, _⟩ := h; ⟨A, c, h1, h2, h3⟩
end Go.Proofs.YtcbaipnphepbeaaGreatDoor
