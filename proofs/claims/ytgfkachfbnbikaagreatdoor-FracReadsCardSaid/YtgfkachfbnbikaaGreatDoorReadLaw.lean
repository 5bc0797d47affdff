/- FracTexts: the call returns true. FracReads: the call returns true. FracReads: of every input the call returns true, and each argument reads behind it as it read before. FracReads: the tied card holds: Parse of Text is the Rat, and Text of Parse is the text; the Decimal of a whole number's digits without a sign is the number. Conditions: the package-level variables that the row lists start as the program's text lays them (the tie is given). -/
import Derived.Test.YtgfkachfbnbikaaGreatDoorMw
import Derived.Test.YtgfkachfbnbikaaGreatDoorMs
import Derived.Test.YtgfkachfbnbikaaGreatDoorMn
import Derived.Test.YtgfkachfbnbikaaGreatDoorMt
import Derived.Deep.RegionHeld
import Derived.Test.YtgfkachfbnbikaaGreatDoorMp
import Derived.ChangeMaps5
import Derived.Test.YtgfkachfbnbikaaGreatDoorCards
import Derived.Test.YtgfkachfbnbikaaGreatDoorTie
import Derived.SevenTiedAt
namespace Go.Proofs.YtgfkachfbnbikaaGreatDoor
open Go.RowKit

theorem four_new (w : World) (x0 x1 x2 x3 : Value) (t : TypeId) : Four (w.alloc (.cells #[x0, x1, x2, x3] t)) w.heap.size x0 x1 x2 x3 := ⟨cell_new rfl rfl, cell_new rfl rfl, cell_new rfl rfl, cell_new rfl rfl⟩
/-- frac.Text of a valid Rat. -/
theorem text_good {w : World} {v : Value} {q : Rq} {s : ByteArray} (hg : Glob w) (h : RR w v q) (hq : okq q = true) (hs : (⟨(rtext q).toArray⟩ : ByteArray) = s) :
    Calls Tryz.prog 26 #[v] w fun e w' => e = .returned (.tuple #[.string s, .int .i64 0]) ∧ Ext w w' := by
  subst hs
  by_cases hf : q.f = 0
  · have k := okq_ds hq hf h.ds
    have e : rtext q = ntext q.neg (val q.num) (val q.den) := if_pos hf
    have eq : (⟨0, q.neg, dig (val q.num), dig (val q.den)⟩ : Rq) = q := by
      rw [← k.num, ← k.den]
      obtain ⟨f, n, x, y⟩ := q
      obtain rfl : f = 0 := hf
      rfl
    rw [e]
    exact text_num hg (by rw [eq]; exact h) (by rw [eq]; exact hq) k.la k.lb k.pos
  · have e : (⟨(rtext q).toArray⟩ : ByteArray) = faultB q.f := by
      rw [show rtext q = (faultB q.f).data.toList from if_neg hf]
    rw [e]
    exact text_fault hg h hq hf
theorem parse_to {w : World} {s : ByteArray} {q : Rq} {e : Int} (hg : Glob w) (hs : s.size ≤ 1073741824) (hm : fparse s.data.toList = (q, e)) :
    Calls Tryz.prog 29 #[.string s] w fun e' w' => ∃ r, e' = .returned (.tuple #[r, .int .i64 e]) ∧ RO w.heap.size w' r q ∧ Ext w w' := parse_calls (m := (q, e)) hg hs hm
theorem decimal_to {w : World} {s : ByteArray} {q : Rq} {e : Int} (hg : Glob w) (hs : s.size ≤ 1073741824) (hm : fdec s.data.toList = (q, e)) :
    Calls Tryz.prog 30 #[.string s] w fun e' w' => ∃ r, e' = .returned (.tuple #[r, .int .i64 e]) ∧ RO w.heap.size w' r q ∧ Ext w w' := decimal_calls (m := (q, e)) hg hs hm
theorem rparse_to {w : World} {s : ByteArray} {q : Rq} {e : Int} (hs : s.size ≤ 1073741824) (hm : fparse s.data.toList = (q, e)) :
    Calls Tryz.prog 31 #[.string s] w fun e' w' => ∃ r, e' = .returned (.tuple #[r, .int .i64 e]) ∧ RO w.heap.size w' r q ∧ Ext w w' := rparse_calls (m := (q, e)) hs hm
theorem rdecimal_to {w : World} {s : ByteArray} {q : Rq} {e : Int} (hs : s.size ≤ 1073741824) (hm : fdec s.data.toList = (q, e)) :
    Calls Tryz.prog 32 #[.string s] w fun e' w' => ∃ r, e' = .returned (.tuple #[r, .int .i64 e]) ∧ RO w.heap.size w' r q ∧ Ext w w' := rdecimal_calls (m := (q, e)) hs hm

set_option maxRecDepth 10000 in
set_option maxHeartbeats 8000000 in
theorem texts_calls {w : World} {f1 : Int} {n1 : Bool} {sx sy : Value} {xs ys : List Nat} {s0 : ByteArray} (hg : Glob w) (hx : RL w sx xs) (hy : RL w sy ys) :
    Calls Tryz.prog 4 #[.agg #[.int .i64 f1, .bool n1, sx, sy], .string s0] w fun e w' => e = .returned (.bool true) ∧ Ext w w' := by
  have HG := Aside.mk hg
  have HX0 := Aside.mk hx
  have HY0 := Aside.mk hy
  obtain ⟨q_a, ha⟩ : ∃ a : Rq, (⟨f1, n1, xs.take 132, ys.take 132⟩ : Rq) = a := ⟨_, rfl⟩
  have HQ := Aside.mk ha
  obtain ⟨AX, cx, rfl, _⟩ := hx
  obtain ⟨AY, cy, rfl, _⟩ := hy
  generalize xs.length = nx at *
  generalize ys.length = ny at *
  clear ha hg
  have hB_r := four_new w (.int .i64 f1) (.bool n1) (.slice AX nx cx) (.slice AY ny cy) 26
  have HX := Aside.mk ((Ext.refl w).alloc (.cells #[.int .i64 f1, .bool n1, .slice AX nx cx, .slice AY ny cy] 26))
  have HE1 := Aside.mk (Ext.refl w)
  obtain ⟨s, hs⟩ : ∃ s : ByteArray, s0.extract 0 (min (s0.size : Int) 5000).toNat = s := ⟨_, rfl⟩
  have hsz : s.size ≤ 5000 := by
    rw [← hs, ext_take, mk_size, List.length_take]; omega
  have HS : Aside (s.size ≤ 1073741824) := ⟨by omega⟩
  obtain ⟨⟨q_y, e1⟩, hm1⟩ : ∃ m, fparse s.data.toList = m := ⟨_, rfl⟩
  obtain ⟨⟨q_z, e2⟩, hm2⟩ : ∃ m, fdec s.data.toList = m := ⟨_, rfl⟩
  have HM1 := Aside.mk hm1
  have HM2 := Aside.mk hm2
  have HE_y : Aside ((q_y.f == q_y.f && sameq q_y q_y) = true) := ⟨by simp [sameq]⟩
  have HE_z : Aside ((q_z.f == q_z.f && sameq q_z q_z) = true) := ⟨by simp [sameq]⟩
  clear hm1 hm2 hsz
  cases hka : okq q_a
  · have HKA := Aside.mk hka
    clear hka
    go_enter Tryz.func4, Tryz.ntmps4
    go_wp2_with (first | (go_at_call 25; with_reducible refine (rat_q (HX0.out.ext HX.out) (HY0.out.ext HX.out) HQ.out).mono ?_; rintro e w101 ⟨r, rfl, hr, he0⟩; obtain ⟨A_a, c_a, B_a, d_a, rfl⟩ := hr.form; have he := he0.alloc (.cells #[.int .i64 q_a.f, .bool q_a.neg, .slice A_a q_a.num.length c_a, .slice B_a q_a.den.length d_a] 26); clear hB_r; replace HX := Aside.mk (HX.out.trans he); have HR_a := Aside.mk (hr.rr.ext ((Ext.refl w101).alloc (.cells #[.int .i64 q_a.f, .bool q_a.neg, .slice A_a q_a.num.length c_a, .slice B_a q_a.den.length d_a] 26))); have hB_a := four_new w101 (.int .i64 q_a.f) (.bool q_a.neg) (.slice A_a q_a.num.length c_a) (.slice B_a q_a.den.length d_a) 26; clear hr he0 he) | (go_at_call 26; with_reducible refine (text_bad HR_a.out HKA.out).mono ?_; rintro e w102 ⟨rfl, he⟩; replace HX := Aside.mk (HX.out.trans he); replace hB_a := Four.ext he hB_a; replace HR_a := Aside.mk (HR_a.out.ext he); clear he) | (go_at_call 27; with_reducible refine (risrat_calls HR_a.out HKA.out).mono ?_; rintro e w103 ⟨rfl, he⟩; replace HX := Aside.mk (HX.out.trans he); replace hB_a := Four.ext he hB_a; replace HR_a := Aside.mk (HR_a.out.ext he); clear he) | (go_at_call 29; with_reducible refine (parse_to (HG.out.ext HX.out) HS.out HM1.out).mono ?_; rintro e w105 ⟨r, rfl, hr, he0⟩; obtain ⟨A_y, c_y, B_y, d_y, rfl⟩ := hr.form; have he := he0.alloc (.cells #[.int .i64 q_y.f, .bool q_y.neg, .slice A_y q_y.num.length c_y, .slice B_y q_y.den.length d_y] 26); replace HX := Aside.mk (HX.out.trans he); have HR_y := Aside.mk (hr.rr.ext ((Ext.refl w105).alloc (.cells #[.int .i64 q_y.f, .bool q_y.neg, .slice A_y q_y.num.length c_y, .slice B_y q_y.den.length d_y] 26))); have hB_y := four_new w105 (.int .i64 q_y.f) (.bool q_y.neg) (.slice A_y q_y.num.length c_y) (.slice B_y q_y.den.length d_y) 26; clear hr he0 he) | (go_at_call 30; with_reducible refine (decimal_to (HG.out.ext HX.out) HS.out HM2.out).mono ?_; rintro e w106 ⟨r, rfl, hr, he0⟩; obtain ⟨A_z, c_z, B_z, d_z, rfl⟩ := hr.form; have he := he0.alloc (.cells #[.int .i64 q_z.f, .bool q_z.neg, .slice A_z q_z.num.length c_z, .slice B_z q_z.den.length d_z] 26); replace HX := Aside.mk (HX.out.trans he); replace hB_y := Four.ext he hB_y; replace HR_y := Aside.mk (HR_y.out.ext he); have HR_z := Aside.mk (hr.rr.ext ((Ext.refl w106).alloc (.cells #[.int .i64 q_z.f, .bool q_z.neg, .slice A_z q_z.num.length c_z, .slice B_z q_z.den.length d_z] 26))); have hB_z := four_new w106 (.int .i64 q_z.f) (.bool q_z.neg) (.slice A_z q_z.num.length c_z) (.slice B_z q_z.den.length d_z) 26; clear hr he0 he) | (go_at_call 31; with_reducible refine (rparse_to HS.out HM1.out).mono ?_; rintro e w107 ⟨r, rfl, hr, he0⟩; obtain ⟨A_p, c_p, B_p, d_p, rfl⟩ := hr.form; have he := he0.alloc (.cells #[.int .i64 q_y.f, .bool q_y.neg, .slice A_p q_y.num.length c_p, .slice B_p q_y.den.length d_p] 26); replace HX := Aside.mk (HX.out.trans he); replace hB_y := Four.ext he hB_y; replace hB_z := Four.ext he hB_z; replace HR_y := Aside.mk (HR_y.out.ext he); replace HR_z := Aside.mk (HR_z.out.ext he); have HR_p := Aside.mk (hr.rr.ext ((Ext.refl w107).alloc (.cells #[.int .i64 q_y.f, .bool q_y.neg, .slice A_p q_y.num.length c_p, .slice B_p q_y.den.length d_p] 26))); have hB_p := four_new w107 (.int .i64 q_y.f) (.bool q_y.neg) (.slice A_p q_y.num.length c_p) (.slice B_p q_y.den.length d_p) 26; clear hr he0 he) | (go_at_call 32; with_reducible refine (rdecimal_to HS.out HM2.out).mono ?_; rintro e w108 ⟨r, rfl, hr, he0⟩; obtain ⟨A_d, c_d, B_d, d_d, rfl⟩ := hr.form; have he := he0.alloc (.cells #[.int .i64 q_z.f, .bool q_z.neg, .slice A_d q_z.num.length c_d, .slice B_d q_z.den.length d_d] 26); replace HX := Aside.mk (HX.out.trans he); replace hB_y := Four.ext he hB_y; replace hB_z := Four.ext he hB_z; replace hB_p := Four.ext he hB_p; replace HR_y := Aside.mk (HR_y.out.ext he); replace HR_z := Aside.mk (HR_z.out.ext he); replace HR_p := Aside.mk (HR_p.out.ext he); have HR_d := Aside.mk (hr.rr.ext ((Ext.refl w108).alloc (.cells #[.int .i64 q_z.f, .bool q_z.neg, .slice A_d q_z.num.length c_d, .slice B_d q_z.den.length d_d] 26))); have hB_d := four_new w108 (.int .i64 q_z.f) (.bool q_z.neg) (.slice A_d q_z.num.length c_d) (.slice B_d q_z.den.length d_d) 26; clear hr he0 he) | (go_at_call 33; with_reducible refine (requal_calls HR_y.out HR_p.out HE_y.out).mono ?_; rintro e w109 ⟨rfl, he⟩; clear hB_y hB_p HR_y HR_p; replace HX := Aside.mk (HX.out.trans he); replace hB_z := Four.ext he hB_z; replace hB_d := Four.ext he hB_d; replace HR_z := Aside.mk (HR_z.out.ext he); replace HR_d := Aside.mk (HR_d.out.ext he); clear he) | (go_at_call 33; with_reducible refine (requal_calls HR_z.out HR_d.out HE_z.out).mono ?_; rintro e w110 ⟨rfl, he⟩; clear hB_z hB_d HR_z HR_d; replace HX := Aside.mk (HX.out.trans he); clear he) | (go_at_call 23; with_reducible refine (alive_calls (HG.out.ext (HE1.out.trans HX.out))).mono ?_; rintro e w99 ⟨rfl, he⟩; have HEND := Aside.mk ((HE1.out.trans HX.out).trans he); clear he))
    go_ret
    exact ⟨rfl, HEND.out⟩
  · have HKA := Aside.mk hka
    obtain ⟨st, hst⟩ : ∃ st : ByteArray, (⟨(rtext q_a).toArray⟩ : ByteArray) = st := ⟨_, rfl⟩
    have HTX := Aside.mk hst
    clear hka hst
    go_enter Tryz.func4, Tryz.ntmps4
    go_wp2_with (first | (go_at_call 25; with_reducible refine (rat_q (HX0.out.ext HX.out) (HY0.out.ext HX.out) HQ.out).mono ?_; rintro e w101 ⟨r, rfl, hr, he0⟩; obtain ⟨A_a, c_a, B_a, d_a, rfl⟩ := hr.form; have he := he0.alloc (.cells #[.int .i64 q_a.f, .bool q_a.neg, .slice A_a q_a.num.length c_a, .slice B_a q_a.den.length d_a] 26); clear hB_r; replace HX := Aside.mk (HX.out.trans he); have HR_a := Aside.mk (hr.rr.ext ((Ext.refl w101).alloc (.cells #[.int .i64 q_a.f, .bool q_a.neg, .slice A_a q_a.num.length c_a, .slice B_a q_a.den.length d_a] 26))); have hB_a := four_new w101 (.int .i64 q_a.f) (.bool q_a.neg) (.slice A_a q_a.num.length c_a) (.slice B_a q_a.den.length d_a) 26; clear hr he0 he) | (go_at_call 26; with_reducible refine (text_good (HG.out.ext HX.out) HR_a.out HKA.out HTX.out).mono ?_; rintro e w102 ⟨rfl, he⟩; replace HX := Aside.mk (HX.out.trans he); replace hB_a := Four.ext he hB_a; replace HR_a := Aside.mk (HR_a.out.ext he); clear he) | (go_at_call 27; with_reducible refine (risrat_calls HR_a.out HKA.out).mono ?_; rintro e w103 ⟨rfl, he⟩; replace HX := Aside.mk (HX.out.trans he); replace hB_a := Four.ext he hB_a; replace HR_a := Aside.mk (HR_a.out.ext he); clear he) | (go_at_call 28; with_reducible refine (rtext_calls HR_a.out HKA.out HTX.out).mono ?_; rintro e w104 ⟨rfl, he⟩; clear hB_a HR_a; replace HX := Aside.mk (HX.out.trans he); clear he) | (go_at_call 29; with_reducible refine (parse_to (HG.out.ext HX.out) HS.out HM1.out).mono ?_; rintro e w105 ⟨r, rfl, hr, he0⟩; obtain ⟨A_y, c_y, B_y, d_y, rfl⟩ := hr.form; have he := he0.alloc (.cells #[.int .i64 q_y.f, .bool q_y.neg, .slice A_y q_y.num.length c_y, .slice B_y q_y.den.length d_y] 26); replace HX := Aside.mk (HX.out.trans he); have HR_y := Aside.mk (hr.rr.ext ((Ext.refl w105).alloc (.cells #[.int .i64 q_y.f, .bool q_y.neg, .slice A_y q_y.num.length c_y, .slice B_y q_y.den.length d_y] 26))); have hB_y := four_new w105 (.int .i64 q_y.f) (.bool q_y.neg) (.slice A_y q_y.num.length c_y) (.slice B_y q_y.den.length d_y) 26; clear hr he0 he) | (go_at_call 30; with_reducible refine (decimal_to (HG.out.ext HX.out) HS.out HM2.out).mono ?_; rintro e w106 ⟨r, rfl, hr, he0⟩; obtain ⟨A_z, c_z, B_z, d_z, rfl⟩ := hr.form; have he := he0.alloc (.cells #[.int .i64 q_z.f, .bool q_z.neg, .slice A_z q_z.num.length c_z, .slice B_z q_z.den.length d_z] 26); replace HX := Aside.mk (HX.out.trans he); replace hB_y := Four.ext he hB_y; replace HR_y := Aside.mk (HR_y.out.ext he); have HR_z := Aside.mk (hr.rr.ext ((Ext.refl w106).alloc (.cells #[.int .i64 q_z.f, .bool q_z.neg, .slice A_z q_z.num.length c_z, .slice B_z q_z.den.length d_z] 26))); have hB_z := four_new w106 (.int .i64 q_z.f) (.bool q_z.neg) (.slice A_z q_z.num.length c_z) (.slice B_z q_z.den.length d_z) 26; clear hr he0 he) | (go_at_call 31; with_reducible refine (rparse_to HS.out HM1.out).mono ?_; rintro e w107 ⟨r, rfl, hr, he0⟩; obtain ⟨A_p, c_p, B_p, d_p, rfl⟩ := hr.form; have he := he0.alloc (.cells #[.int .i64 q_y.f, .bool q_y.neg, .slice A_p q_y.num.length c_p, .slice B_p q_y.den.length d_p] 26); replace HX := Aside.mk (HX.out.trans he); replace hB_y := Four.ext he hB_y; replace hB_z := Four.ext he hB_z; replace HR_y := Aside.mk (HR_y.out.ext he); replace HR_z := Aside.mk (HR_z.out.ext he); have HR_p := Aside.mk (hr.rr.ext ((Ext.refl w107).alloc (.cells #[.int .i64 q_y.f, .bool q_y.neg, .slice A_p q_y.num.length c_p, .slice B_p q_y.den.length d_p] 26))); have hB_p := four_new w107 (.int .i64 q_y.f) (.bool q_y.neg) (.slice A_p q_y.num.length c_p) (.slice B_p q_y.den.length d_p) 26; clear hr he0 he) | (go_at_call 32; with_reducible refine (rdecimal_to HS.out HM2.out).mono ?_; rintro e w108 ⟨r, rfl, hr, he0⟩; obtain ⟨A_d, c_d, B_d, d_d, rfl⟩ := hr.form; have he := he0.alloc (.cells #[.int .i64 q_z.f, .bool q_z.neg, .slice A_d q_z.num.length c_d, .slice B_d q_z.den.length d_d] 26); replace HX := Aside.mk (HX.out.trans he); replace hB_y := Four.ext he hB_y; replace hB_z := Four.ext he hB_z; replace hB_p := Four.ext he hB_p; replace HR_y := Aside.mk (HR_y.out.ext he); replace HR_z := Aside.mk (HR_z.out.ext he); replace HR_p := Aside.mk (HR_p.out.ext he); have HR_d := Aside.mk (hr.rr.ext ((Ext.refl w108).alloc (.cells #[.int .i64 q_z.f, .bool q_z.neg, .slice A_d q_z.num.length c_d, .slice B_d q_z.den.length d_d] 26))); have hB_d := four_new w108 (.int .i64 q_z.f) (.bool q_z.neg) (.slice A_d q_z.num.length c_d) (.slice B_d q_z.den.length d_d) 26; clear hr he0 he) | (go_at_call 33; with_reducible refine (requal_calls HR_y.out HR_p.out HE_y.out).mono ?_; rintro e w109 ⟨rfl, he⟩; clear hB_y hB_p HR_y HR_p; replace HX := Aside.mk (HX.out.trans he); replace hB_z := Four.ext he hB_z; replace hB_d := Four.ext he hB_d; replace HR_z := Aside.mk (HR_z.out.ext he); replace HR_d := Aside.mk (HR_d.out.ext he); clear he) | (go_at_call 33; with_reducible refine (requal_calls HR_z.out HR_d.out HE_z.out).mono ?_; rintro e w110 ⟨rfl, he⟩; clear hB_z hB_d HR_z HR_d; replace HX := Aside.mk (HX.out.trans he); clear he) | (go_at_call 23; with_reducible refine (alive_calls (HG.out.ext (HE1.out.trans HX.out))).mono ?_; rintro e w99 ⟨rfl, he⟩; have HEND := Aside.mk ((HE1.out.trans HX.out).trans he); clear he))
    go_ret
    exact ⟨rfl, HEND.out⟩
end Go.Proofs.YtgfkachfbnbikaaGreatDoor

namespace Go.Proofs.YtgfkachfbnbikaaGreatDoor
open Go.RowKit

theorem tame128 {w : World} {f : Int} {neg : Bool} {sx sy : Value} {xs ys : List Nat} {q : Rq} (hx : RL w sx xs) (hy : RL w sy ys) (hq : tameq f neg xs ys 128 = q) :
    Calls Tryz.prog 34 #[.agg #[.int .i64 f, .bool neg, sx, sy], .int .i64 128] w fun e w' => ∃ r, e = .returned r ∧ RO w.heap.size w' r q ∧ Ext w w' := tame_calls (most := 128) hx hy (by decide) hq
theorem RR.agg {w : World} {f : Int} {n : Bool} {x y : Value} {q : Rq} (h : RR w (.agg #[.int .i64 f, .bool n, x, y]) q) : RV w x q.num ∧ RV w y q.den := by
  obtain ⟨x', y', e, h1, h2⟩ := h
  injection e with e
  simp only [Array.mk.injEq, List.cons.injEq, and_true] at e
  obtain ⟨_, _, rfl, rfl⟩ := e
  exact ⟨h1, h2⟩
/-- Two boxes. -/
abbrev KP2 (w : World) (P Q : Nat) (a0 a1 a2 a3 b0 b1 b2 b3 : Value) (w' : World) : Prop := Aside (Ext w w') ∧ Four w' P a0 a1 a2 a3 ∧ Four w' Q b0 b1 b2 b3
theorem KP2.ext {w w1 w2 : World} {P Q : Nat} {a0 a1 a2 a3 b0 b1 b2 b3 : Value} (e : Ext w1 w2) (h : KP2 w P Q a0 a1 a2 a3 b0 b1 b2 b3 w1) : KP2 w P Q a0 a1 a2 a3 b0 b1 b2 b3 w2 := ⟨⟨h.1.out.trans e⟩, h.2.1.ext e, h.2.2.ext e⟩
theorem fparse_bad {l : List UInt8} {q : Rq} {e : Int} (h : fparse l = (q, e)) (he : e ≠ 0) : q = fq 0 := by
  unfold fparse at h
  split at h
  · injection h with h _; exact h.symm
  · split at h
    · injection h with _ h; exact absurd h.symm he
    · split at h
      · injection h with _ h; exact absurd h.symm he
      · have := fparts_bad h he
        injection this
theorem parse_none {w : World} {s : ByteArray} {e : Int} (hg : Glob w) (hs : s.size ≤ 1073741824) (hm : fparse s.data.toList = (fq 0, e)) :
    Calls Tryz.prog 29 #[.string s] w fun e' w' => ∃ A c B d, e' = .returned (.tuple #[.agg #[.int .i64 0, .bool false, .slice A 0 c, .slice B 0 d], .int .i64 e]) ∧ Ext w w' := by
  refine (parse_to hg hs hm).mono ?_
  rintro e' w' ⟨r, rfl, hr, he⟩
  obtain ⟨A, c, B, d, rfl⟩ := hr.form
  exact ⟨A, c, B, d, rfl, he⟩
theorem rtext_len {q : Rq} (h : okq q = true) (hd : Ds q.num ∧ Ds q.den) : 1 ≤ (rtext q).length ∧ (rtext q).length ≤ 2600 := by
  by_cases hf : q.f = 0
  · have k := okq_ds h hf hd
    have e : rtext q = ntext q.neg (val q.num) (val q.den) := if_pos hf
    have h1 := dtext_le k.la
    have h2 := dtext_le k.lb
    have h3 := List.length_pos_iff.2 (dtext_ne (val q.num))
    rw [e]
    unfold ntext
    split <;> split <;> simp [*] <;> omega
  · have e : rtext q = (faultB q.f).data.toList := if_neg hf
    rw [e]
    unfold faultB
    split
    · exact ⟨by decide, by decide⟩
    · exact ⟨by decide, by decide⟩
theorem fdec_dtext {a : Nat} (ha : (dig a).length ≤ 128) : fdec (dtext a) = (ratio false a 1, 0) := by
  have h1 : Lib.cut (dtext a) [46] = (dtext a, [], false) := cut_none (dtext_no a (by decide))
  have h2 : isDs (dtext a) = true := by
    unfold isDs
    rw [dtext_all, Bool.and_true]
    cases h : dtext a with
    | nil => exact absurd h (dtext_ne a)
    | cons => rfl
  have h3 := dtext_le ha
  unfold fdec
  rw [if_neg (by omega), h1]
  dsimp only
  rw [h2]
  have h4 : Lib.trimRightB [] 48 = [] := rfl
  rw [h4]
  simp only [Bool.not_false, Bool.true_or, Bool.and_self, if_true]
  unfold fdecParts
  rw [List.append_nil, dval_dtext]
  have h5 : (10 : Nat) ^ ([] : List UInt8).length = 1 := rfl
  rw [h5, if_pos]
  rw [ratio_whole ha]

set_option maxRecDepth 10000 in
set_option maxHeartbeats 8000000 in
theorem reads_calls {w : World} {f1 : Int} {n1 : Bool} {sx sy : Value} {xs ys : List Nat} {s0 : ByteArray} (hg : Glob w) (hx : RL w sx xs) (hy : RL w sy ys) :
    Calls Tryz.prog 5 #[.agg #[.int .i64 f1, .bool n1, sx, sy], .string s0] w fun e w' => e = .returned (.bool true) ∧ Ext w w' := by
  have HG := Aside.mk hg
  have HX0 := Aside.mk hx
  have HY0 := Aside.mk hy
  obtain ⟨q_a, ha⟩ : ∃ a : Rq, tameq f1 n1 xs ys 128 = a := ⟨_, rfl⟩
  have HQ := Aside.mk ha
  have hka : okq q_a = true := ha ▸ tameq_okq _ _ _ _ _
  have hda : Ds q_a.num ∧ Ds q_a.den := by
    rw [← ha]; unfold tameq
    split
    · exact ⟨Ds.nil, Ds.nil⟩
    · exact ratio_ds _ _ _
  obtain ⟨AX, cx, rfl, _⟩ := hx
  obtain ⟨AY, cy, rfl, _⟩ := hy
  generalize xs.length = nx at *
  generalize ys.length = ny at *
  clear ha hg
  have hB_r := four_new w (.int .i64 f1) (.bool n1) (.slice AX nx cx) (.slice AY ny cy) 26
  have HX := Aside.mk ((Ext.refl w).alloc (.cells #[.int .i64 f1, .bool n1, .slice AX nx cx, .slice AY ny cy] 26))
  have HE1 := Aside.mk (Ext.refl w)
  obtain ⟨s, hs⟩ : ∃ s : ByteArray, s0.extract 0 (min (s0.size : Int) 1000).toNat = s := ⟨_, rfl⟩
  have hsz : s.size ≤ 1000 := by
    rw [← hs, ext_take, mk_size, List.length_take]; omega
  have HS : Aside (s.size ≤ 1073741824) := ⟨by omega⟩
  obtain ⟨⟨q_z, e_z⟩, hm1⟩ : ∃ m, fparse s.data.toList = m := ⟨_, rfl⟩
  obtain ⟨st, hst⟩ : ∃ st : ByteArray, (⟨(rtext q_a).toArray⟩ : ByteArray) = st := ⟨_, rfl⟩
  have hstl : st.data.toList = rtext q_a := by rw [← hst]
  have hl := rtext_len hka hda
  have hz1 : 1 ≤ st.size := by rw [Lib.size_eq, hstl]; exact hl.1
  have hz2 : st.size ≤ 2600 := by rw [Lib.size_eq, hstl]; exact hl.2
  have HS1 : Aside (st.size ≤ 1073741824) := ⟨by omega⟩
  have HP1 : Aside (fparse st.data.toList = (q_a, 0)) := ⟨by rw [hstl]; exact parse_text hka hda (by omega)⟩
  have HTX := Aside.mk hst
  have HKA := Aside.mk hka
  clear hst hsz hl
  by_cases hf : q_a.f = 0
  · have k := okq_ds hka hf hda
    have hqf1 : (q_a.f == 0) = true := by rw [hf]; rfl
    have hqf2 : (q_a.f != 0) = false := by rw [hf]; rfl
    obtain ⟨b, hb⟩ : ∃ b, val q_a.den = b := ⟨_, rfl⟩
    obtain ⟨a, ha⟩ : ∃ a, val q_a.num = a := ⟨_, rfl⟩
    rw [ha, hb] at k
    have hbl := dig_length_pos k.pos
    rw [← k.den] at hbl
    obtain ⟨t, ht⟩ : ∃ t, q_a.den.getD 0 0 = t := ⟨_, rfl⟩
    have HDEN : Aside (∀ w' A n c, RV w' (.slice A n c) q_a.den → ∃ bd, A = some bd ∧ w'.cell? bd = some (.int .u32 (t : Int))) := ⟨fun w' A n c h => by
      obtain ⟨A', c', e, _, _, hr⟩ := h
      injection e with e1 e2 e3
      subst e1
      obtain ⟨bd, rfl, hcell⟩ := Rd.at32 hr 0 hbl
      rw [ht, show bd.add 0 = bd from by simp [Addr.add]] at hcell
      exact ⟨bd, rfl, hcell⟩⟩
    have HEN := Aside.mk k.num
    by_cases hb1 : b = 1
    · subst hb1
      have HED := Aside.mk k.den
      have hd1 : q_a.den = [1] := by rw [k.den, dig_one]
      have ht1 : t = 1 := by rw [← ht, hd1]; rfl
      subst ht1
      have hlen : ((q_a.den.length : Int) == 1) = true := by rw [hd1]; rfl
      obtain ⟨q_w, hw⟩ : ∃ q, ratio false a 1 = q := ⟨_, rfl⟩
      have HQW := Aside.mk hw
      obtain ⟨sd, hsd⟩ : ∃ sd : ByteArray, (⟨(dtext a).toArray⟩ : ByteArray) = sd := ⟨_, rfl⟩
      have hsdl : sd.data.toList = dtext a := by rw [← hsd]
      have HP2 : Aside (fdec sd.data.toList = (q_w, 0)) := ⟨by rw [hsdl, fdec_dtext k.la, hw]⟩
      have LN1 : Aside ((dig a).length < 1073741824) := ⟨by have := k.la; omega⟩
      have LN2 : Aside ((dig 1).length < 1073741824) := ⟨by rw [dig_one]; decide⟩
      have HS2 : Aside (sd.size ≤ 1073741824) := ⟨by rw [Lib.size_eq, hsdl]; have := dtext_le k.la; omega⟩
      have hrt : rtext q_a = ntext q_a.neg a 1 := by unfold rtext; rw [if_pos hf, ha, hb]
      cases hneg : q_a.neg
      · have HNEG := Aside.mk hneg
        have hss : st = sd := by
          rw [← Lib.mk_data st, hstl, hrt, hneg, ← hsd]
          simp [ntext]
        subst hss
        clear hsd hsdl hrt hb ha k hf hstl ht hd1 hka hda hw
        by_cases hz : e_z = 0
        · subst hz
          obtain ⟨hkz, -, -, htz, -⟩ := text_parse hm1
          have HKZ := Aside.mk hkz
          have HTZ : Aside ((⟨(rtext q_z).toArray⟩ : ByteArray) = s) := ⟨by rw [htz]⟩
          have HM1 := Aside.mk hm1
          clear hm1 hkz htz
          go_enter Tryz.func5, Tryz.ntmps5
          go_wp2_with (first | (go_at_call 34; with_reducible refine (tame128 (HX0.out.ext HX.out) (HY0.out.ext HX.out) HQ.out).mono ?_; rintro e w101 ⟨r, rfl, hr, he0⟩; obtain ⟨A_a, c_a, B_a, d_a, rfl⟩ := hr.form; have he := he0.alloc (.cells #[.int .i64 q_a.f, .bool q_a.neg, .slice A_a q_a.num.length c_a, .slice B_a q_a.den.length d_a] 26); clear hB_r; replace HX := Aside.mk (HX.out.trans he); (try replace hc_bd := he.cell hc_bd); have HR_a := Aside.mk (hr.rr.ext ((Ext.refl w101).alloc (.cells #[.int .i64 q_a.f, .bool q_a.neg, .slice A_a q_a.num.length c_a, .slice B_a q_a.den.length d_a] 26))); have hB_a := four_new w101 (.int .i64 q_a.f) (.bool q_a.neg) (.slice A_a q_a.num.length c_a) (.slice B_a q_a.den.length d_a) 26; clear hr he0 he; (try obtain ⟨bd, rfl, hc_bd⟩ := HDEN.out _ _ _ _ (RR.agg HR_a.out).2); (try simp only [HNEG.out] at HX hB_a HR_a hc_bd)) | (go_at_call 26; with_reducible refine (text_good (HG.out.ext HX.out) HR_a.out HKA.out HTX.out).mono ?_; rintro e w102 ⟨rfl, he⟩; replace HX := Aside.mk (HX.out.trans he); (try replace hc_bd := he.cell hc_bd); replace hB_a := Four.ext he hB_a; replace HR_a := Aside.mk (HR_a.out.ext he); clear he) | (go_at_call 29; with_reducible refine (parse_to (HG.out.ext HX.out) HS1.out HP1.out).mono ?_; rintro e w103 ⟨r, rfl, hr, he0⟩; obtain ⟨A_y, c_y, B_y, d_y, rfl⟩ := hr.form; have he := he0.alloc (.cells #[.int .i64 q_a.f, .bool q_a.neg, .slice A_y q_a.num.length c_y, .slice B_y q_a.den.length d_y] 26); replace HX := Aside.mk (HX.out.trans he); (try replace hc_bd := he.cell hc_bd); replace hB_a := Four.ext he hB_a; replace HR_a := Aside.mk (HR_a.out.ext he); have HR_y := Aside.mk (hr.rr.ext ((Ext.refl w103).alloc (.cells #[.int .i64 q_a.f, .bool q_a.neg, .slice A_y q_a.num.length c_y, .slice B_y q_a.den.length d_y] 26))); have hB_y := four_new w103 (.int .i64 q_a.f) (.bool q_a.neg) (.slice A_y q_a.num.length c_y) (.slice B_y q_a.den.length d_y) 26; clear hr he0 he; (try simp only [HNEG.out] at HX hB_a HR_a hB_y HR_y hc_bd)) | (go_at_call 17; with_reducible refine (gives_same HR_y.out HR_a.out).mono ?_; rintro e w104 ⟨rfl, he⟩; clear hB_y HR_y; replace HX := Aside.mk (HX.out.trans he); (try replace hc_bd := he.cell hc_bd); replace hB_a := Four.ext he hB_a; replace HR_a := Aside.mk (HR_a.out.ext he); clear he) | (go_at_call 30; with_reducible refine (decimal_to (HG.out.ext HX.out) HS2.out HP2.out).mono ?_; rintro e w105 ⟨r, rfl, hr, he0⟩; obtain ⟨A_d, c_d, B_d, d_d, rfl⟩ := hr.form; have he := he0.alloc (.cells #[.int .i64 q_w.f, .bool q_w.neg, .slice A_d q_w.num.length c_d, .slice B_d q_w.den.length d_d] 26); replace HX := Aside.mk (HX.out.trans he); (try replace hc_bd := he.cell hc_bd); replace hB_a := Four.ext he hB_a; replace HR_a := Aside.mk (HR_a.out.ext he); have HR_d := Aside.mk (hr.rr.ext ((Ext.refl w105).alloc (.cells #[.int .i64 q_w.f, .bool q_w.neg, .slice A_d q_w.num.length c_d, .slice B_d q_w.den.length d_d] 26))); have hB_d := four_new w105 (.int .i64 q_w.f) (.bool q_w.neg) (.slice A_d q_w.num.length c_d) (.slice B_d q_w.den.length d_d) 26; clear hr he0 he))
          have HNA := Aside.mk ((RR.agg HR_a.out).1.eq' HEN.out)
          have HDA := Aside.mk ((RR.agg HR_a.out).2.eq' HED.out)
          generalize hW : w105.alloc _ = W0 at *
          have hkd : KP2 W0 w101.heap.size w105.heap.size (.int .i64 q_a.f) (.bool false) (.slice A_a q_a.num.length c_a) (.slice (some bd) q_a.den.length d_a) (.int .i64 q_w.f) (.bool q_w.neg) (.slice A_d q_w.num.length c_d) (.slice B_d q_w.den.length d_d) W0 := ⟨⟨Ext.refl _⟩, hB_a, hB_d⟩
          have hkd' := KP2.ext (Ext.refl _).drew hkd
          clear hkd hW
          go_region_held (fun w' => KP2 W0 w101.heap.size w105.heap.size (.int .i64 q_a.f) (.bool false) (.slice A_a q_a.num.length c_a) (.slice (some bd) q_a.den.length d_a) (.int .i64 q_w.f) (.bool q_w.neg) (.slice A_d q_w.num.length c_d) (.slice B_d q_w.den.length d_d) w') (first | assumption | exact KP2.ext (by assumption) (by assumption)) (first | (go_at_call 24; with_reducible refine (rratio_calls (HNA.out.ext (Aside.out (And.left (show KP2 W0 w101.heap.size w105.heap.size (.int .i64 q_a.f) (.bool false) (.slice A_a q_a.num.length c_a) (.slice (some bd) q_a.den.length d_a) (.int .i64 q_w.f) (.bool q_w.neg) (.slice A_d q_w.num.length c_d) (.slice B_d q_w.den.length d_d) _ from by assumption)))) (HDA.out.ext (Aside.out (And.left (show KP2 W0 w101.heap.size w105.heap.size (.int .i64 q_a.f) (.bool false) (.slice A_a q_a.num.length c_a) (.slice (some bd) q_a.den.length d_a) (.int .i64 q_w.f) (.bool q_w.neg) (.slice A_d q_w.num.length c_d) (.slice B_d q_w.den.length d_d) _ from by assumption)))) LN1.out LN2.out HQW.out).mono ?_; rintro e w205 ⟨r, rfl, hr, he5⟩; have HR5 := Aside.mk hr.rr; obtain ⟨A5, c5, B5, d5, rfl⟩ := hr.form; clear hr) | (go_at_call 17; with_reducible refine (gives_same (HR_d.out.ext (Aside.out (And.left (show KP2 W0 w101.heap.size w105.heap.size (.int .i64 q_a.f) (.bool false) (.slice A_a q_a.num.length c_a) (.slice (some bd) q_a.den.length d_a) (.int .i64 q_w.f) (.bool q_w.neg) (.slice A_d q_w.num.length c_d) (.slice B_d q_w.den.length d_d) _ from by assumption)))) HR5.out).mono ?_; rintro e w206 ⟨rfl, he6⟩))
          have hk6 := KP2.ext he6 (KP2.ext he5 hkd')
          replace HX := Aside.mk (HX.out.trans hk6.1.out)
          clear hkd' he5 he6 hk6 hB_a hB_d
          go_wp2_with (first | (go_at_call 29; with_reducible refine (parse_to (HG.out.ext HX.out) HS.out HM1.out).mono ?_; rintro e w106 ⟨r, rfl, hr, he0⟩; obtain ⟨A_z, c_z, B_z, d_z, rfl⟩ := hr.form; have he := he0.alloc (.cells #[.int .i64 q_z.f, .bool q_z.neg, .slice A_z q_z.num.length c_z, .slice B_z q_z.den.length d_z] 26); replace HX := Aside.mk (HX.out.trans he); have HR_z := Aside.mk (hr.rr.ext ((Ext.refl w106).alloc (.cells #[.int .i64 q_z.f, .bool q_z.neg, .slice A_z q_z.num.length c_z, .slice B_z q_z.den.length d_z] 26))); have hB_z := four_new w106 (.int .i64 q_z.f) (.bool q_z.neg) (.slice A_z q_z.num.length c_z) (.slice B_z q_z.den.length d_z) 26; clear hr he0 he) | (go_at_call 23; with_reducible refine (alive_calls (HG.out.ext (HE1.out.trans HX.out))).mono ?_; rintro e w99 ⟨rfl, he⟩; have HEND := Aside.mk ((HE1.out.trans HX.out).trans he); clear he) | (go_at_call 26; with_reducible refine (text_good (HG.out.ext HX.out) HR_z.out HKZ.out HTZ.out).mono ?_; rintro e w107 ⟨rfl, he⟩; clear hB_z HR_z; replace HX := Aside.mk (HX.out.trans he); clear he))
          go_ret
          exact ⟨rfl, HEND.out⟩
        · have hz0 : (e_z == 0) = false := beq_eq_false_iff_ne.2 hz
          have hz1 : (e_z != 0) = true := by simp [bne, hz0]
          have HM1 : Aside (fparse s.data.toList = (fq 0, e_z)) := ⟨by rw [← fparse_bad hm1 hz]; exact hm1⟩
          clear hm1 hz
          go_enter Tryz.func5, Tryz.ntmps5
          go_wp2_with (first | (go_at_call 34; with_reducible refine (tame128 (HX0.out.ext HX.out) (HY0.out.ext HX.out) HQ.out).mono ?_; rintro e w101 ⟨r, rfl, hr, he0⟩; obtain ⟨A_a, c_a, B_a, d_a, rfl⟩ := hr.form; have he := he0.alloc (.cells #[.int .i64 q_a.f, .bool q_a.neg, .slice A_a q_a.num.length c_a, .slice B_a q_a.den.length d_a] 26); clear hB_r; replace HX := Aside.mk (HX.out.trans he); (try replace hc_bd := he.cell hc_bd); have HR_a := Aside.mk (hr.rr.ext ((Ext.refl w101).alloc (.cells #[.int .i64 q_a.f, .bool q_a.neg, .slice A_a q_a.num.length c_a, .slice B_a q_a.den.length d_a] 26))); have hB_a := four_new w101 (.int .i64 q_a.f) (.bool q_a.neg) (.slice A_a q_a.num.length c_a) (.slice B_a q_a.den.length d_a) 26; clear hr he0 he; (try obtain ⟨bd, rfl, hc_bd⟩ := HDEN.out _ _ _ _ (RR.agg HR_a.out).2); (try simp only [HNEG.out] at HX hB_a HR_a hc_bd)) | (go_at_call 26; with_reducible refine (text_good (HG.out.ext HX.out) HR_a.out HKA.out HTX.out).mono ?_; rintro e w102 ⟨rfl, he⟩; replace HX := Aside.mk (HX.out.trans he); (try replace hc_bd := he.cell hc_bd); replace hB_a := Four.ext he hB_a; replace HR_a := Aside.mk (HR_a.out.ext he); clear he) | (go_at_call 29; with_reducible refine (parse_to (HG.out.ext HX.out) HS1.out HP1.out).mono ?_; rintro e w103 ⟨r, rfl, hr, he0⟩; obtain ⟨A_y, c_y, B_y, d_y, rfl⟩ := hr.form; have he := he0.alloc (.cells #[.int .i64 q_a.f, .bool q_a.neg, .slice A_y q_a.num.length c_y, .slice B_y q_a.den.length d_y] 26); replace HX := Aside.mk (HX.out.trans he); (try replace hc_bd := he.cell hc_bd); replace hB_a := Four.ext he hB_a; replace HR_a := Aside.mk (HR_a.out.ext he); have HR_y := Aside.mk (hr.rr.ext ((Ext.refl w103).alloc (.cells #[.int .i64 q_a.f, .bool q_a.neg, .slice A_y q_a.num.length c_y, .slice B_y q_a.den.length d_y] 26))); have hB_y := four_new w103 (.int .i64 q_a.f) (.bool q_a.neg) (.slice A_y q_a.num.length c_y) (.slice B_y q_a.den.length d_y) 26; clear hr he0 he; (try simp only [HNEG.out] at HX hB_a HR_a hB_y HR_y hc_bd)) | (go_at_call 17; with_reducible refine (gives_same HR_y.out HR_a.out).mono ?_; rintro e w104 ⟨rfl, he⟩; clear hB_y HR_y; replace HX := Aside.mk (HX.out.trans he); (try replace hc_bd := he.cell hc_bd); replace hB_a := Four.ext he hB_a; replace HR_a := Aside.mk (HR_a.out.ext he); clear he) | (go_at_call 30; with_reducible refine (decimal_to (HG.out.ext HX.out) HS2.out HP2.out).mono ?_; rintro e w105 ⟨r, rfl, hr, he0⟩; obtain ⟨A_d, c_d, B_d, d_d, rfl⟩ := hr.form; have he := he0.alloc (.cells #[.int .i64 q_w.f, .bool q_w.neg, .slice A_d q_w.num.length c_d, .slice B_d q_w.den.length d_d] 26); replace HX := Aside.mk (HX.out.trans he); (try replace hc_bd := he.cell hc_bd); replace hB_a := Four.ext he hB_a; replace HR_a := Aside.mk (HR_a.out.ext he); have HR_d := Aside.mk (hr.rr.ext ((Ext.refl w105).alloc (.cells #[.int .i64 q_w.f, .bool q_w.neg, .slice A_d q_w.num.length c_d, .slice B_d q_w.den.length d_d] 26))); have hB_d := four_new w105 (.int .i64 q_w.f) (.bool q_w.neg) (.slice A_d q_w.num.length c_d) (.slice B_d q_w.den.length d_d) 26; clear hr he0 he))
          have HNA := Aside.mk ((RR.agg HR_a.out).1.eq' HEN.out)
          have HDA := Aside.mk ((RR.agg HR_a.out).2.eq' HED.out)
          generalize hW : w105.alloc _ = W0 at *
          have hkd : KP2 W0 w101.heap.size w105.heap.size (.int .i64 q_a.f) (.bool false) (.slice A_a q_a.num.length c_a) (.slice (some bd) q_a.den.length d_a) (.int .i64 q_w.f) (.bool q_w.neg) (.slice A_d q_w.num.length c_d) (.slice B_d q_w.den.length d_d) W0 := ⟨⟨Ext.refl _⟩, hB_a, hB_d⟩
          have hkd' := KP2.ext (Ext.refl _).drew hkd
          clear hkd hW
          go_region_held (fun w' => KP2 W0 w101.heap.size w105.heap.size (.int .i64 q_a.f) (.bool false) (.slice A_a q_a.num.length c_a) (.slice (some bd) q_a.den.length d_a) (.int .i64 q_w.f) (.bool q_w.neg) (.slice A_d q_w.num.length c_d) (.slice B_d q_w.den.length d_d) w') (first | assumption | exact KP2.ext (by assumption) (by assumption)) (first | (go_at_call 24; with_reducible refine (rratio_calls (HNA.out.ext (Aside.out (And.left (show KP2 W0 w101.heap.size w105.heap.size (.int .i64 q_a.f) (.bool false) (.slice A_a q_a.num.length c_a) (.slice (some bd) q_a.den.length d_a) (.int .i64 q_w.f) (.bool q_w.neg) (.slice A_d q_w.num.length c_d) (.slice B_d q_w.den.length d_d) _ from by assumption)))) (HDA.out.ext (Aside.out (And.left (show KP2 W0 w101.heap.size w105.heap.size (.int .i64 q_a.f) (.bool false) (.slice A_a q_a.num.length c_a) (.slice (some bd) q_a.den.length d_a) (.int .i64 q_w.f) (.bool q_w.neg) (.slice A_d q_w.num.length c_d) (.slice B_d q_w.den.length d_d) _ from by assumption)))) LN1.out LN2.out HQW.out).mono ?_; rintro e w205 ⟨r, rfl, hr, he5⟩; have HR5 := Aside.mk hr.rr; obtain ⟨A5, c5, B5, d5, rfl⟩ := hr.form; clear hr) | (go_at_call 17; with_reducible refine (gives_same (HR_d.out.ext (Aside.out (And.left (show KP2 W0 w101.heap.size w105.heap.size (.int .i64 q_a.f) (.bool false) (.slice A_a q_a.num.length c_a) (.slice (some bd) q_a.den.length d_a) (.int .i64 q_w.f) (.bool q_w.neg) (.slice A_d q_w.num.length c_d) (.slice B_d q_w.den.length d_d) _ from by assumption)))) HR5.out).mono ?_; rintro e w206 ⟨rfl, he6⟩))
          have hk6 := KP2.ext he6 (KP2.ext he5 hkd')
          replace HX := Aside.mk (HX.out.trans hk6.1.out)
          clear hkd' he5 he6 hk6 hB_a hB_d
          go_wp2_with (first | (go_at_call 29; with_reducible refine (parse_none (HG.out.ext HX.out) HS.out HM1.out).mono ?_; rintro e w301 ⟨A_z, c_z, B_z, d_z, rfl, he0⟩; have he := he0.alloc (.cells #[.int .i64 0, .bool false, .slice A_z 0 c_z, .slice B_z 0 d_z] 26); replace HX := Aside.mk (HX.out.trans he); have hB_z := four_new w301 (.int .i64 0) (.bool false) (.slice A_z 0 c_z) (.slice B_z 0 d_z) 26; clear he0 he) | (go_at_call 23; with_reducible refine (alive_calls (HG.out.ext (HE1.out.trans HX.out))).mono ?_; rintro e w99 ⟨rfl, he⟩; have HEND := Aside.mk ((HE1.out.trans HX.out).trans he); clear he) | (go_at_call 22; with_reducible refine (zero_len).mono ?_; rintro e w301 ⟨rfl, he⟩; replace HX := Aside.mk (HX.out.trans he); clear he))
          go_ret
          exact ⟨rfl, HEND.out⟩
      · have HNEG := Aside.mk hneg
        have hss : st.extract 1 st.size = sd := by
          rw [ext_drop, hstl, hrt, hneg, ← hsd]
          simp [ntext]
        clear hsd hsdl hrt hb ha k hf hstl ht hd1 hka hda hw
        by_cases hz : e_z = 0
        · subst hz
          obtain ⟨hkz, -, -, htz, -⟩ := text_parse hm1
          have HKZ := Aside.mk hkz
          have HTZ : Aside ((⟨(rtext q_z).toArray⟩ : ByteArray) = s) := ⟨by rw [htz]⟩
          have HM1 := Aside.mk hm1
          clear hm1 hkz htz
          go_enter Tryz.func5, Tryz.ntmps5
          go_wp2_with (first | (go_at_call 34; with_reducible refine (tame128 (HX0.out.ext HX.out) (HY0.out.ext HX.out) HQ.out).mono ?_; rintro e w101 ⟨r, rfl, hr, he0⟩; obtain ⟨A_a, c_a, B_a, d_a, rfl⟩ := hr.form; have he := he0.alloc (.cells #[.int .i64 q_a.f, .bool q_a.neg, .slice A_a q_a.num.length c_a, .slice B_a q_a.den.length d_a] 26); clear hB_r; replace HX := Aside.mk (HX.out.trans he); (try replace hc_bd := he.cell hc_bd); have HR_a := Aside.mk (hr.rr.ext ((Ext.refl w101).alloc (.cells #[.int .i64 q_a.f, .bool q_a.neg, .slice A_a q_a.num.length c_a, .slice B_a q_a.den.length d_a] 26))); have hB_a := four_new w101 (.int .i64 q_a.f) (.bool q_a.neg) (.slice A_a q_a.num.length c_a) (.slice B_a q_a.den.length d_a) 26; clear hr he0 he; (try obtain ⟨bd, rfl, hc_bd⟩ := HDEN.out _ _ _ _ (RR.agg HR_a.out).2); (try simp only [HNEG.out] at HX hB_a HR_a hc_bd)) | (go_at_call 26; with_reducible refine (text_good (HG.out.ext HX.out) HR_a.out HKA.out HTX.out).mono ?_; rintro e w102 ⟨rfl, he⟩; replace HX := Aside.mk (HX.out.trans he); (try replace hc_bd := he.cell hc_bd); replace hB_a := Four.ext he hB_a; replace HR_a := Aside.mk (HR_a.out.ext he); clear he) | (go_at_call 29; with_reducible refine (parse_to (HG.out.ext HX.out) HS1.out HP1.out).mono ?_; rintro e w103 ⟨r, rfl, hr, he0⟩; obtain ⟨A_y, c_y, B_y, d_y, rfl⟩ := hr.form; have he := he0.alloc (.cells #[.int .i64 q_a.f, .bool q_a.neg, .slice A_y q_a.num.length c_y, .slice B_y q_a.den.length d_y] 26); replace HX := Aside.mk (HX.out.trans he); (try replace hc_bd := he.cell hc_bd); replace hB_a := Four.ext he hB_a; replace HR_a := Aside.mk (HR_a.out.ext he); have HR_y := Aside.mk (hr.rr.ext ((Ext.refl w103).alloc (.cells #[.int .i64 q_a.f, .bool q_a.neg, .slice A_y q_a.num.length c_y, .slice B_y q_a.den.length d_y] 26))); have hB_y := four_new w103 (.int .i64 q_a.f) (.bool q_a.neg) (.slice A_y q_a.num.length c_y) (.slice B_y q_a.den.length d_y) 26; clear hr he0 he; (try simp only [HNEG.out] at HX hB_a HR_a hB_y HR_y hc_bd)) | (go_at_call 17; with_reducible refine (gives_same HR_y.out HR_a.out).mono ?_; rintro e w104 ⟨rfl, he⟩; clear hB_y HR_y; replace HX := Aside.mk (HX.out.trans he); (try replace hc_bd := he.cell hc_bd); replace hB_a := Four.ext he hB_a; replace HR_a := Aside.mk (HR_a.out.ext he); clear he) | (go_at_call 30; with_reducible refine (decimal_to (HG.out.ext HX.out) HS2.out HP2.out).mono ?_; rintro e w105 ⟨r, rfl, hr, he0⟩; obtain ⟨A_d, c_d, B_d, d_d, rfl⟩ := hr.form; have he := he0.alloc (.cells #[.int .i64 q_w.f, .bool q_w.neg, .slice A_d q_w.num.length c_d, .slice B_d q_w.den.length d_d] 26); replace HX := Aside.mk (HX.out.trans he); (try replace hc_bd := he.cell hc_bd); replace hB_a := Four.ext he hB_a; replace HR_a := Aside.mk (HR_a.out.ext he); have HR_d := Aside.mk (hr.rr.ext ((Ext.refl w105).alloc (.cells #[.int .i64 q_w.f, .bool q_w.neg, .slice A_d q_w.num.length c_d, .slice B_d q_w.den.length d_d] 26))); have hB_d := four_new w105 (.int .i64 q_w.f) (.bool q_w.neg) (.slice A_d q_w.num.length c_d) (.slice B_d q_w.den.length d_d) 26; clear hr he0 he))
          have HNA := Aside.mk ((RR.agg HR_a.out).1.eq' HEN.out)
          have HDA := Aside.mk ((RR.agg HR_a.out).2.eq' HED.out)
          generalize hW : w105.alloc _ = W0 at *
          have hkd : KP2 W0 w101.heap.size w105.heap.size (.int .i64 q_a.f) (.bool true) (.slice A_a q_a.num.length c_a) (.slice (some bd) q_a.den.length d_a) (.int .i64 q_w.f) (.bool q_w.neg) (.slice A_d q_w.num.length c_d) (.slice B_d q_w.den.length d_d) W0 := ⟨⟨Ext.refl _⟩, hB_a, hB_d⟩
          have hkd' := KP2.ext (Ext.refl _).drew hkd
          clear hkd hW
          go_region_held (fun w' => KP2 W0 w101.heap.size w105.heap.size (.int .i64 q_a.f) (.bool true) (.slice A_a q_a.num.length c_a) (.slice (some bd) q_a.den.length d_a) (.int .i64 q_w.f) (.bool q_w.neg) (.slice A_d q_w.num.length c_d) (.slice B_d q_w.den.length d_d) w') (first | assumption | exact KP2.ext (by assumption) (by assumption)) (first | (go_at_call 24; with_reducible refine (rratio_calls (HNA.out.ext (Aside.out (And.left (show KP2 W0 w101.heap.size w105.heap.size (.int .i64 q_a.f) (.bool true) (.slice A_a q_a.num.length c_a) (.slice (some bd) q_a.den.length d_a) (.int .i64 q_w.f) (.bool q_w.neg) (.slice A_d q_w.num.length c_d) (.slice B_d q_w.den.length d_d) _ from by assumption)))) (HDA.out.ext (Aside.out (And.left (show KP2 W0 w101.heap.size w105.heap.size (.int .i64 q_a.f) (.bool true) (.slice A_a q_a.num.length c_a) (.slice (some bd) q_a.den.length d_a) (.int .i64 q_w.f) (.bool q_w.neg) (.slice A_d q_w.num.length c_d) (.slice B_d q_w.den.length d_d) _ from by assumption)))) LN1.out LN2.out HQW.out).mono ?_; rintro e w205 ⟨r, rfl, hr, he5⟩; have HR5 := Aside.mk hr.rr; obtain ⟨A5, c5, B5, d5, rfl⟩ := hr.form; clear hr) | (go_at_call 17; with_reducible refine (gives_same (HR_d.out.ext (Aside.out (And.left (show KP2 W0 w101.heap.size w105.heap.size (.int .i64 q_a.f) (.bool true) (.slice A_a q_a.num.length c_a) (.slice (some bd) q_a.den.length d_a) (.int .i64 q_w.f) (.bool q_w.neg) (.slice A_d q_w.num.length c_d) (.slice B_d q_w.den.length d_d) _ from by assumption)))) HR5.out).mono ?_; rintro e w206 ⟨rfl, he6⟩))
          have hk6 := KP2.ext he6 (KP2.ext he5 hkd')
          replace HX := Aside.mk (HX.out.trans hk6.1.out)
          clear hkd' he5 he6 hk6 hB_a hB_d
          go_wp2_with (first | (go_at_call 29; with_reducible refine (parse_to (HG.out.ext HX.out) HS.out HM1.out).mono ?_; rintro e w106 ⟨r, rfl, hr, he0⟩; obtain ⟨A_z, c_z, B_z, d_z, rfl⟩ := hr.form; have he := he0.alloc (.cells #[.int .i64 q_z.f, .bool q_z.neg, .slice A_z q_z.num.length c_z, .slice B_z q_z.den.length d_z] 26); replace HX := Aside.mk (HX.out.trans he); have HR_z := Aside.mk (hr.rr.ext ((Ext.refl w106).alloc (.cells #[.int .i64 q_z.f, .bool q_z.neg, .slice A_z q_z.num.length c_z, .slice B_z q_z.den.length d_z] 26))); have hB_z := four_new w106 (.int .i64 q_z.f) (.bool q_z.neg) (.slice A_z q_z.num.length c_z) (.slice B_z q_z.den.length d_z) 26; clear hr he0 he) | (go_at_call 23; with_reducible refine (alive_calls (HG.out.ext (HE1.out.trans HX.out))).mono ?_; rintro e w99 ⟨rfl, he⟩; have HEND := Aside.mk ((HE1.out.trans HX.out).trans he); clear he) | (go_at_call 26; with_reducible refine (text_good (HG.out.ext HX.out) HR_z.out HKZ.out HTZ.out).mono ?_; rintro e w107 ⟨rfl, he⟩; clear hB_z HR_z; replace HX := Aside.mk (HX.out.trans he); clear he))
          go_ret
          exact ⟨rfl, HEND.out⟩
        · have hz0 : (e_z == 0) = false := beq_eq_false_iff_ne.2 hz
          have hz1 : (e_z != 0) = true := by simp [bne, hz0]
          have HM1 : Aside (fparse s.data.toList = (fq 0, e_z)) := ⟨by rw [← fparse_bad hm1 hz]; exact hm1⟩
          clear hm1 hz
          go_enter Tryz.func5, Tryz.ntmps5
          go_wp2_with (first | (go_at_call 34; with_reducible refine (tame128 (HX0.out.ext HX.out) (HY0.out.ext HX.out) HQ.out).mono ?_; rintro e w101 ⟨r, rfl, hr, he0⟩; obtain ⟨A_a, c_a, B_a, d_a, rfl⟩ := hr.form; have he := he0.alloc (.cells #[.int .i64 q_a.f, .bool q_a.neg, .slice A_a q_a.num.length c_a, .slice B_a q_a.den.length d_a] 26); clear hB_r; replace HX := Aside.mk (HX.out.trans he); (try replace hc_bd := he.cell hc_bd); have HR_a := Aside.mk (hr.rr.ext ((Ext.refl w101).alloc (.cells #[.int .i64 q_a.f, .bool q_a.neg, .slice A_a q_a.num.length c_a, .slice B_a q_a.den.length d_a] 26))); have hB_a := four_new w101 (.int .i64 q_a.f) (.bool q_a.neg) (.slice A_a q_a.num.length c_a) (.slice B_a q_a.den.length d_a) 26; clear hr he0 he; (try obtain ⟨bd, rfl, hc_bd⟩ := HDEN.out _ _ _ _ (RR.agg HR_a.out).2); (try simp only [HNEG.out] at HX hB_a HR_a hc_bd)) | (go_at_call 26; with_reducible refine (text_good (HG.out.ext HX.out) HR_a.out HKA.out HTX.out).mono ?_; rintro e w102 ⟨rfl, he⟩; replace HX := Aside.mk (HX.out.trans he); (try replace hc_bd := he.cell hc_bd); replace hB_a := Four.ext he hB_a; replace HR_a := Aside.mk (HR_a.out.ext he); clear he) | (go_at_call 29; with_reducible refine (parse_to (HG.out.ext HX.out) HS1.out HP1.out).mono ?_; rintro e w103 ⟨r, rfl, hr, he0⟩; obtain ⟨A_y, c_y, B_y, d_y, rfl⟩ := hr.form; have he := he0.alloc (.cells #[.int .i64 q_a.f, .bool q_a.neg, .slice A_y q_a.num.length c_y, .slice B_y q_a.den.length d_y] 26); replace HX := Aside.mk (HX.out.trans he); (try replace hc_bd := he.cell hc_bd); replace hB_a := Four.ext he hB_a; replace HR_a := Aside.mk (HR_a.out.ext he); have HR_y := Aside.mk (hr.rr.ext ((Ext.refl w103).alloc (.cells #[.int .i64 q_a.f, .bool q_a.neg, .slice A_y q_a.num.length c_y, .slice B_y q_a.den.length d_y] 26))); have hB_y := four_new w103 (.int .i64 q_a.f) (.bool q_a.neg) (.slice A_y q_a.num.length c_y) (.slice B_y q_a.den.length d_y) 26; clear hr he0 he; (try simp only [HNEG.out] at HX hB_a HR_a hB_y HR_y hc_bd)) | (go_at_call 17; with_reducible refine (gives_same HR_y.out HR_a.out).mono ?_; rintro e w104 ⟨rfl, he⟩; clear hB_y HR_y; replace HX := Aside.mk (HX.out.trans he); (try replace hc_bd := he.cell hc_bd); replace hB_a := Four.ext he hB_a; replace HR_a := Aside.mk (HR_a.out.ext he); clear he) | (go_at_call 30; with_reducible refine (decimal_to (HG.out.ext HX.out) HS2.out HP2.out).mono ?_; rintro e w105 ⟨r, rfl, hr, he0⟩; obtain ⟨A_d, c_d, B_d, d_d, rfl⟩ := hr.form; have he := he0.alloc (.cells #[.int .i64 q_w.f, .bool q_w.neg, .slice A_d q_w.num.length c_d, .slice B_d q_w.den.length d_d] 26); replace HX := Aside.mk (HX.out.trans he); (try replace hc_bd := he.cell hc_bd); replace hB_a := Four.ext he hB_a; replace HR_a := Aside.mk (HR_a.out.ext he); have HR_d := Aside.mk (hr.rr.ext ((Ext.refl w105).alloc (.cells #[.int .i64 q_w.f, .bool q_w.neg, .slice A_d q_w.num.length c_d, .slice B_d q_w.den.length d_d] 26))); have hB_d := four_new w105 (.int .i64 q_w.f) (.bool q_w.neg) (.slice A_d q_w.num.length c_d) (.slice B_d q_w.den.length d_d) 26; clear hr he0 he))
          have HNA := Aside.mk ((RR.agg HR_a.out).1.eq' HEN.out)
          have HDA := Aside.mk ((RR.agg HR_a.out).2.eq' HED.out)
          generalize hW : w105.alloc _ = W0 at *
          have hkd : KP2 W0 w101.heap.size w105.heap.size (.int .i64 q_a.f) (.bool true) (.slice A_a q_a.num.length c_a) (.slice (some bd) q_a.den.length d_a) (.int .i64 q_w.f) (.bool q_w.neg) (.slice A_d q_w.num.length c_d) (.slice B_d q_w.den.length d_d) W0 := ⟨⟨Ext.refl _⟩, hB_a, hB_d⟩
          have hkd' := KP2.ext (Ext.refl _).drew hkd
          clear hkd hW
          go_region_held (fun w' => KP2 W0 w101.heap.size w105.heap.size (.int .i64 q_a.f) (.bool true) (.slice A_a q_a.num.length c_a) (.slice (some bd) q_a.den.length d_a) (.int .i64 q_w.f) (.bool q_w.neg) (.slice A_d q_w.num.length c_d) (.slice B_d q_w.den.length d_d) w') (first | assumption | exact KP2.ext (by assumption) (by assumption)) (first | (go_at_call 24; with_reducible refine (rratio_calls (HNA.out.ext (Aside.out (And.left (show KP2 W0 w101.heap.size w105.heap.size (.int .i64 q_a.f) (.bool true) (.slice A_a q_a.num.length c_a) (.slice (some bd) q_a.den.length d_a) (.int .i64 q_w.f) (.bool q_w.neg) (.slice A_d q_w.num.length c_d) (.slice B_d q_w.den.length d_d) _ from by assumption)))) (HDA.out.ext (Aside.out (And.left (show KP2 W0 w101.heap.size w105.heap.size (.int .i64 q_a.f) (.bool true) (.slice A_a q_a.num.length c_a) (.slice (some bd) q_a.den.length d_a) (.int .i64 q_w.f) (.bool q_w.neg) (.slice A_d q_w.num.length c_d) (.slice B_d q_w.den.length d_d) _ from by assumption)))) LN1.out LN2.out HQW.out).mono ?_; rintro e w205 ⟨r, rfl, hr, he5⟩; have HR5 := Aside.mk hr.rr; obtain ⟨A5, c5, B5, d5, rfl⟩ := hr.form; clear hr) | (go_at_call 17; with_reducible refine (gives_same (HR_d.out.ext (Aside.out (And.left (show KP2 W0 w101.heap.size w105.heap.size (.int .i64 q_a.f) (.bool true) (.slice A_a q_a.num.length c_a) (.slice (some bd) q_a.den.length d_a) (.int .i64 q_w.f) (.bool q_w.neg) (.slice A_d q_w.num.length c_d) (.slice B_d q_w.den.length d_d) _ from by assumption)))) HR5.out).mono ?_; rintro e w206 ⟨rfl, he6⟩))
          have hk6 := KP2.ext he6 (KP2.ext he5 hkd')
          replace HX := Aside.mk (HX.out.trans hk6.1.out)
          clear hkd' he5 he6 hk6 hB_a hB_d
          go_wp2_with (first | (go_at_call 29; with_reducible refine (parse_none (HG.out.ext HX.out) HS.out HM1.out).mono ?_; rintro e w301 ⟨A_z, c_z, B_z, d_z, rfl, he0⟩; have he := he0.alloc (.cells #[.int .i64 0, .bool false, .slice A_z 0 c_z, .slice B_z 0 d_z] 26); replace HX := Aside.mk (HX.out.trans he); have hB_z := four_new w301 (.int .i64 0) (.bool false) (.slice A_z 0 c_z) (.slice B_z 0 d_z) 26; clear he0 he) | (go_at_call 23; with_reducible refine (alive_calls (HG.out.ext (HE1.out.trans HX.out))).mono ?_; rintro e w99 ⟨rfl, he⟩; have HEND := Aside.mk ((HE1.out.trans HX.out).trans he); clear he) | (go_at_call 22; with_reducible refine (zero_len).mono ?_; rintro e w301 ⟨rfl, he⟩; replace HX := Aside.mk (HX.out.trans he); clear he))
          go_ret
          exact ⟨rfl, HEND.out⟩
    · have hcase : ((q_a.den.length : Int) == 1) = false ∨ (((q_a.den.length : Int) == 1) = true ∧ ((t : Int) == 1) = false) := by
        by_cases h1 : q_a.den.length = 1
        · refine .inr ⟨by rw [h1]; rfl, beq_eq_false_iff_ne.2 ?_⟩
          intro h2
          apply hb1
          obtain ⟨z, hz⟩ := List.length_eq_one_iff.1 h1
          rw [← hb, hz]
          rw [hz] at ht
          simp [val] at ht ⊢
          omega
        · exact .inl (beq_eq_false_iff_ne.2 (by omega))
      clear hb ha k hf hstl ht hka hda hb1 HEN
      rcases hcase with hc1 | ⟨hc1, hc2⟩
      · by_cases hz : e_z = 0
        · subst hz
          obtain ⟨hkz, -, -, htz, -⟩ := text_parse hm1
          have HKZ := Aside.mk hkz
          have HTZ : Aside ((⟨(rtext q_z).toArray⟩ : ByteArray) = s) := ⟨by rw [htz]⟩
          have HM1 := Aside.mk hm1
          clear hm1 hkz htz
          go_enter Tryz.func5, Tryz.ntmps5
          go_wp2_with (first | (go_at_call 34; with_reducible refine (tame128 (HX0.out.ext HX.out) (HY0.out.ext HX.out) HQ.out).mono ?_; rintro e w101 ⟨r, rfl, hr, he0⟩; obtain ⟨A_a, c_a, B_a, d_a, rfl⟩ := hr.form; have he := he0.alloc (.cells #[.int .i64 q_a.f, .bool q_a.neg, .slice A_a q_a.num.length c_a, .slice B_a q_a.den.length d_a] 26); clear hB_r; replace HX := Aside.mk (HX.out.trans he); (try replace hc_bd := he.cell hc_bd); have HR_a := Aside.mk (hr.rr.ext ((Ext.refl w101).alloc (.cells #[.int .i64 q_a.f, .bool q_a.neg, .slice A_a q_a.num.length c_a, .slice B_a q_a.den.length d_a] 26))); have hB_a := four_new w101 (.int .i64 q_a.f) (.bool q_a.neg) (.slice A_a q_a.num.length c_a) (.slice B_a q_a.den.length d_a) 26; clear hr he0 he; (try obtain ⟨bd, rfl, hc_bd⟩ := HDEN.out _ _ _ _ (RR.agg HR_a.out).2); (try simp only [HNEG.out] at HX hB_a HR_a hc_bd)) | (go_at_call 26; with_reducible refine (text_good (HG.out.ext HX.out) HR_a.out HKA.out HTX.out).mono ?_; rintro e w102 ⟨rfl, he⟩; replace HX := Aside.mk (HX.out.trans he); (try replace hc_bd := he.cell hc_bd); replace hB_a := Four.ext he hB_a; replace HR_a := Aside.mk (HR_a.out.ext he); clear he) | (go_at_call 29; with_reducible refine (parse_to (HG.out.ext HX.out) HS1.out HP1.out).mono ?_; rintro e w103 ⟨r, rfl, hr, he0⟩; obtain ⟨A_y, c_y, B_y, d_y, rfl⟩ := hr.form; have he := he0.alloc (.cells #[.int .i64 q_a.f, .bool q_a.neg, .slice A_y q_a.num.length c_y, .slice B_y q_a.den.length d_y] 26); replace HX := Aside.mk (HX.out.trans he); (try replace hc_bd := he.cell hc_bd); replace hB_a := Four.ext he hB_a; replace HR_a := Aside.mk (HR_a.out.ext he); have HR_y := Aside.mk (hr.rr.ext ((Ext.refl w103).alloc (.cells #[.int .i64 q_a.f, .bool q_a.neg, .slice A_y q_a.num.length c_y, .slice B_y q_a.den.length d_y] 26))); have hB_y := four_new w103 (.int .i64 q_a.f) (.bool q_a.neg) (.slice A_y q_a.num.length c_y) (.slice B_y q_a.den.length d_y) 26; clear hr he0 he; (try simp only [HNEG.out] at HX hB_a HR_a hB_y HR_y hc_bd)) | (go_at_call 17; with_reducible refine (gives_same HR_y.out HR_a.out).mono ?_; rintro e w104 ⟨rfl, he⟩; clear hB_y HR_y; replace HX := Aside.mk (HX.out.trans he); (try replace hc_bd := he.cell hc_bd); replace hB_a := Four.ext he hB_a; replace HR_a := Aside.mk (HR_a.out.ext he); clear he) | (go_at_call 30; with_reducible refine (decimal_to (HG.out.ext HX.out) HS2.out HP2.out).mono ?_; rintro e w105 ⟨r, rfl, hr, he0⟩; obtain ⟨A_d, c_d, B_d, d_d, rfl⟩ := hr.form; have he := he0.alloc (.cells #[.int .i64 q_w.f, .bool q_w.neg, .slice A_d q_w.num.length c_d, .slice B_d q_w.den.length d_d] 26); replace HX := Aside.mk (HX.out.trans he); (try replace hc_bd := he.cell hc_bd); replace hB_a := Four.ext he hB_a; replace HR_a := Aside.mk (HR_a.out.ext he); have HR_d := Aside.mk (hr.rr.ext ((Ext.refl w105).alloc (.cells #[.int .i64 q_w.f, .bool q_w.neg, .slice A_d q_w.num.length c_d, .slice B_d q_w.den.length d_d] 26))); have hB_d := four_new w105 (.int .i64 q_w.f) (.bool q_w.neg) (.slice A_d q_w.num.length c_d) (.slice B_d q_w.den.length d_d) 26; clear hr he0 he) | (go_at_call 29; with_reducible refine (parse_to (HG.out.ext HX.out) HS.out HM1.out).mono ?_; rintro e w106 ⟨r, rfl, hr, he0⟩; obtain ⟨A_z, c_z, B_z, d_z, rfl⟩ := hr.form; have he := he0.alloc (.cells #[.int .i64 q_z.f, .bool q_z.neg, .slice A_z q_z.num.length c_z, .slice B_z q_z.den.length d_z] 26); replace HX := Aside.mk (HX.out.trans he); have HR_z := Aside.mk (hr.rr.ext ((Ext.refl w106).alloc (.cells #[.int .i64 q_z.f, .bool q_z.neg, .slice A_z q_z.num.length c_z, .slice B_z q_z.den.length d_z] 26))); have hB_z := four_new w106 (.int .i64 q_z.f) (.bool q_z.neg) (.slice A_z q_z.num.length c_z) (.slice B_z q_z.den.length d_z) 26; clear hr he0 he) | (go_at_call 23; with_reducible refine (alive_calls (HG.out.ext (HE1.out.trans HX.out))).mono ?_; rintro e w99 ⟨rfl, he⟩; have HEND := Aside.mk ((HE1.out.trans HX.out).trans he); clear he) | (go_at_call 26; with_reducible refine (text_good (HG.out.ext HX.out) HR_z.out HKZ.out HTZ.out).mono ?_; rintro e w107 ⟨rfl, he⟩; clear hB_z HR_z; replace HX := Aside.mk (HX.out.trans he); clear he))
          go_ret
          exact ⟨rfl, HEND.out⟩
        · have hz0 : (e_z == 0) = false := beq_eq_false_iff_ne.2 hz
          have hz1 : (e_z != 0) = true := by simp [bne, hz0]
          have HM1 : Aside (fparse s.data.toList = (fq 0, e_z)) := ⟨by rw [← fparse_bad hm1 hz]; exact hm1⟩
          clear hm1 hz
          go_enter Tryz.func5, Tryz.ntmps5
          go_wp2_with (first | (go_at_call 34; with_reducible refine (tame128 (HX0.out.ext HX.out) (HY0.out.ext HX.out) HQ.out).mono ?_; rintro e w101 ⟨r, rfl, hr, he0⟩; obtain ⟨A_a, c_a, B_a, d_a, rfl⟩ := hr.form; have he := he0.alloc (.cells #[.int .i64 q_a.f, .bool q_a.neg, .slice A_a q_a.num.length c_a, .slice B_a q_a.den.length d_a] 26); clear hB_r; replace HX := Aside.mk (HX.out.trans he); (try replace hc_bd := he.cell hc_bd); have HR_a := Aside.mk (hr.rr.ext ((Ext.refl w101).alloc (.cells #[.int .i64 q_a.f, .bool q_a.neg, .slice A_a q_a.num.length c_a, .slice B_a q_a.den.length d_a] 26))); have hB_a := four_new w101 (.int .i64 q_a.f) (.bool q_a.neg) (.slice A_a q_a.num.length c_a) (.slice B_a q_a.den.length d_a) 26; clear hr he0 he; (try obtain ⟨bd, rfl, hc_bd⟩ := HDEN.out _ _ _ _ (RR.agg HR_a.out).2); (try simp only [HNEG.out] at HX hB_a HR_a hc_bd)) | (go_at_call 26; with_reducible refine (text_good (HG.out.ext HX.out) HR_a.out HKA.out HTX.out).mono ?_; rintro e w102 ⟨rfl, he⟩; replace HX := Aside.mk (HX.out.trans he); (try replace hc_bd := he.cell hc_bd); replace hB_a := Four.ext he hB_a; replace HR_a := Aside.mk (HR_a.out.ext he); clear he) | (go_at_call 29; with_reducible refine (parse_to (HG.out.ext HX.out) HS1.out HP1.out).mono ?_; rintro e w103 ⟨r, rfl, hr, he0⟩; obtain ⟨A_y, c_y, B_y, d_y, rfl⟩ := hr.form; have he := he0.alloc (.cells #[.int .i64 q_a.f, .bool q_a.neg, .slice A_y q_a.num.length c_y, .slice B_y q_a.den.length d_y] 26); replace HX := Aside.mk (HX.out.trans he); (try replace hc_bd := he.cell hc_bd); replace hB_a := Four.ext he hB_a; replace HR_a := Aside.mk (HR_a.out.ext he); have HR_y := Aside.mk (hr.rr.ext ((Ext.refl w103).alloc (.cells #[.int .i64 q_a.f, .bool q_a.neg, .slice A_y q_a.num.length c_y, .slice B_y q_a.den.length d_y] 26))); have hB_y := four_new w103 (.int .i64 q_a.f) (.bool q_a.neg) (.slice A_y q_a.num.length c_y) (.slice B_y q_a.den.length d_y) 26; clear hr he0 he; (try simp only [HNEG.out] at HX hB_a HR_a hB_y HR_y hc_bd)) | (go_at_call 17; with_reducible refine (gives_same HR_y.out HR_a.out).mono ?_; rintro e w104 ⟨rfl, he⟩; clear hB_y HR_y; replace HX := Aside.mk (HX.out.trans he); (try replace hc_bd := he.cell hc_bd); replace hB_a := Four.ext he hB_a; replace HR_a := Aside.mk (HR_a.out.ext he); clear he) | (go_at_call 30; with_reducible refine (decimal_to (HG.out.ext HX.out) HS2.out HP2.out).mono ?_; rintro e w105 ⟨r, rfl, hr, he0⟩; obtain ⟨A_d, c_d, B_d, d_d, rfl⟩ := hr.form; have he := he0.alloc (.cells #[.int .i64 q_w.f, .bool q_w.neg, .slice A_d q_w.num.length c_d, .slice B_d q_w.den.length d_d] 26); replace HX := Aside.mk (HX.out.trans he); (try replace hc_bd := he.cell hc_bd); replace hB_a := Four.ext he hB_a; replace HR_a := Aside.mk (HR_a.out.ext he); have HR_d := Aside.mk (hr.rr.ext ((Ext.refl w105).alloc (.cells #[.int .i64 q_w.f, .bool q_w.neg, .slice A_d q_w.num.length c_d, .slice B_d q_w.den.length d_d] 26))); have hB_d := four_new w105 (.int .i64 q_w.f) (.bool q_w.neg) (.slice A_d q_w.num.length c_d) (.slice B_d q_w.den.length d_d) 26; clear hr he0 he) | (go_at_call 29; with_reducible refine (parse_none (HG.out.ext HX.out) HS.out HM1.out).mono ?_; rintro e w301 ⟨A_z, c_z, B_z, d_z, rfl, he0⟩; have he := he0.alloc (.cells #[.int .i64 0, .bool false, .slice A_z 0 c_z, .slice B_z 0 d_z] 26); replace HX := Aside.mk (HX.out.trans he); have hB_z := four_new w301 (.int .i64 0) (.bool false) (.slice A_z 0 c_z) (.slice B_z 0 d_z) 26; clear he0 he) | (go_at_call 23; with_reducible refine (alive_calls (HG.out.ext (HE1.out.trans HX.out))).mono ?_; rintro e w99 ⟨rfl, he⟩; have HEND := Aside.mk ((HE1.out.trans HX.out).trans he); clear he) | (go_at_call 22; with_reducible refine (zero_len).mono ?_; rintro e w301 ⟨rfl, he⟩; replace HX := Aside.mk (HX.out.trans he); clear he))
          go_ret
          exact ⟨rfl, HEND.out⟩
      · by_cases hz : e_z = 0
        · subst hz
          obtain ⟨hkz, -, -, htz, -⟩ := text_parse hm1
          have HKZ := Aside.mk hkz
          have HTZ : Aside ((⟨(rtext q_z).toArray⟩ : ByteArray) = s) := ⟨by rw [htz]⟩
          have HM1 := Aside.mk hm1
          clear hm1 hkz htz
          go_enter Tryz.func5, Tryz.ntmps5
          go_wp2_with (first | (go_at_call 34; with_reducible refine (tame128 (HX0.out.ext HX.out) (HY0.out.ext HX.out) HQ.out).mono ?_; rintro e w101 ⟨r, rfl, hr, he0⟩; obtain ⟨A_a, c_a, B_a, d_a, rfl⟩ := hr.form; have he := he0.alloc (.cells #[.int .i64 q_a.f, .bool q_a.neg, .slice A_a q_a.num.length c_a, .slice B_a q_a.den.length d_a] 26); clear hB_r; replace HX := Aside.mk (HX.out.trans he); (try replace hc_bd := he.cell hc_bd); have HR_a := Aside.mk (hr.rr.ext ((Ext.refl w101).alloc (.cells #[.int .i64 q_a.f, .bool q_a.neg, .slice A_a q_a.num.length c_a, .slice B_a q_a.den.length d_a] 26))); have hB_a := four_new w101 (.int .i64 q_a.f) (.bool q_a.neg) (.slice A_a q_a.num.length c_a) (.slice B_a q_a.den.length d_a) 26; clear hr he0 he; (try obtain ⟨bd, rfl, hc_bd⟩ := HDEN.out _ _ _ _ (RR.agg HR_a.out).2); (try simp only [HNEG.out] at HX hB_a HR_a hc_bd)) | (go_at_call 26; with_reducible refine (text_good (HG.out.ext HX.out) HR_a.out HKA.out HTX.out).mono ?_; rintro e w102 ⟨rfl, he⟩; replace HX := Aside.mk (HX.out.trans he); (try replace hc_bd := he.cell hc_bd); replace hB_a := Four.ext he hB_a; replace HR_a := Aside.mk (HR_a.out.ext he); clear he) | (go_at_call 29; with_reducible refine (parse_to (HG.out.ext HX.out) HS1.out HP1.out).mono ?_; rintro e w103 ⟨r, rfl, hr, he0⟩; obtain ⟨A_y, c_y, B_y, d_y, rfl⟩ := hr.form; have he := he0.alloc (.cells #[.int .i64 q_a.f, .bool q_a.neg, .slice A_y q_a.num.length c_y, .slice B_y q_a.den.length d_y] 26); replace HX := Aside.mk (HX.out.trans he); (try replace hc_bd := he.cell hc_bd); replace hB_a := Four.ext he hB_a; replace HR_a := Aside.mk (HR_a.out.ext he); have HR_y := Aside.mk (hr.rr.ext ((Ext.refl w103).alloc (.cells #[.int .i64 q_a.f, .bool q_a.neg, .slice A_y q_a.num.length c_y, .slice B_y q_a.den.length d_y] 26))); have hB_y := four_new w103 (.int .i64 q_a.f) (.bool q_a.neg) (.slice A_y q_a.num.length c_y) (.slice B_y q_a.den.length d_y) 26; clear hr he0 he; (try simp only [HNEG.out] at HX hB_a HR_a hB_y HR_y hc_bd)) | (go_at_call 17; with_reducible refine (gives_same HR_y.out HR_a.out).mono ?_; rintro e w104 ⟨rfl, he⟩; clear hB_y HR_y; replace HX := Aside.mk (HX.out.trans he); (try replace hc_bd := he.cell hc_bd); replace hB_a := Four.ext he hB_a; replace HR_a := Aside.mk (HR_a.out.ext he); clear he) | (go_at_call 30; with_reducible refine (decimal_to (HG.out.ext HX.out) HS2.out HP2.out).mono ?_; rintro e w105 ⟨r, rfl, hr, he0⟩; obtain ⟨A_d, c_d, B_d, d_d, rfl⟩ := hr.form; have he := he0.alloc (.cells #[.int .i64 q_w.f, .bool q_w.neg, .slice A_d q_w.num.length c_d, .slice B_d q_w.den.length d_d] 26); replace HX := Aside.mk (HX.out.trans he); (try replace hc_bd := he.cell hc_bd); replace hB_a := Four.ext he hB_a; replace HR_a := Aside.mk (HR_a.out.ext he); have HR_d := Aside.mk (hr.rr.ext ((Ext.refl w105).alloc (.cells #[.int .i64 q_w.f, .bool q_w.neg, .slice A_d q_w.num.length c_d, .slice B_d q_w.den.length d_d] 26))); have hB_d := four_new w105 (.int .i64 q_w.f) (.bool q_w.neg) (.slice A_d q_w.num.length c_d) (.slice B_d q_w.den.length d_d) 26; clear hr he0 he) | (go_at_call 29; with_reducible refine (parse_to (HG.out.ext HX.out) HS.out HM1.out).mono ?_; rintro e w106 ⟨r, rfl, hr, he0⟩; obtain ⟨A_z, c_z, B_z, d_z, rfl⟩ := hr.form; have he := he0.alloc (.cells #[.int .i64 q_z.f, .bool q_z.neg, .slice A_z q_z.num.length c_z, .slice B_z q_z.den.length d_z] 26); replace HX := Aside.mk (HX.out.trans he); have HR_z := Aside.mk (hr.rr.ext ((Ext.refl w106).alloc (.cells #[.int .i64 q_z.f, .bool q_z.neg, .slice A_z q_z.num.length c_z, .slice B_z q_z.den.length d_z] 26))); have hB_z := four_new w106 (.int .i64 q_z.f) (.bool q_z.neg) (.slice A_z q_z.num.length c_z) (.slice B_z q_z.den.length d_z) 26; clear hr he0 he) | (go_at_call 23; with_reducible refine (alive_calls (HG.out.ext (HE1.out.trans HX.out))).mono ?_; rintro e w99 ⟨rfl, he⟩; have HEND := Aside.mk ((HE1.out.trans HX.out).trans he); clear he) | (go_at_call 26; with_reducible refine (text_good (HG.out.ext HX.out) HR_z.out HKZ.out HTZ.out).mono ?_; rintro e w107 ⟨rfl, he⟩; clear hB_z HR_z; replace HX := Aside.mk (HX.out.trans he); clear he))
          go_ret
          exact ⟨rfl, HEND.out⟩
        · have hz0 : (e_z == 0) = false := beq_eq_false_iff_ne.2 hz
          have hz1 : (e_z != 0) = true := by simp [bne, hz0]
          have HM1 : Aside (fparse s.data.toList = (fq 0, e_z)) := ⟨by rw [← fparse_bad hm1 hz]; exact hm1⟩
          clear hm1 hz
          go_enter Tryz.func5, Tryz.ntmps5
          go_wp2_with (first | (go_at_call 34; with_reducible refine (tame128 (HX0.out.ext HX.out) (HY0.out.ext HX.out) HQ.out).mono ?_; rintro e w101 ⟨r, rfl, hr, he0⟩; obtain ⟨A_a, c_a, B_a, d_a, rfl⟩ := hr.form; have he := he0.alloc (.cells #[.int .i64 q_a.f, .bool q_a.neg, .slice A_a q_a.num.length c_a, .slice B_a q_a.den.length d_a] 26); clear hB_r; replace HX := Aside.mk (HX.out.trans he); (try replace hc_bd := he.cell hc_bd); have HR_a := Aside.mk (hr.rr.ext ((Ext.refl w101).alloc (.cells #[.int .i64 q_a.f, .bool q_a.neg, .slice A_a q_a.num.length c_a, .slice B_a q_a.den.length d_a] 26))); have hB_a := four_new w101 (.int .i64 q_a.f) (.bool q_a.neg) (.slice A_a q_a.num.length c_a) (.slice B_a q_a.den.length d_a) 26; clear hr he0 he; (try obtain ⟨bd, rfl, hc_bd⟩ := HDEN.out _ _ _ _ (RR.agg HR_a.out).2); (try simp only [HNEG.out] at HX hB_a HR_a hc_bd)) | (go_at_call 26; with_reducible refine (text_good (HG.out.ext HX.out) HR_a.out HKA.out HTX.out).mono ?_; rintro e w102 ⟨rfl, he⟩; replace HX := Aside.mk (HX.out.trans he); (try replace hc_bd := he.cell hc_bd); replace hB_a := Four.ext he hB_a; replace HR_a := Aside.mk (HR_a.out.ext he); clear he) | (go_at_call 29; with_reducible refine (parse_to (HG.out.ext HX.out) HS1.out HP1.out).mono ?_; rintro e w103 ⟨r, rfl, hr, he0⟩; obtain ⟨A_y, c_y, B_y, d_y, rfl⟩ := hr.form; have he := he0.alloc (.cells #[.int .i64 q_a.f, .bool q_a.neg, .slice A_y q_a.num.length c_y, .slice B_y q_a.den.length d_y] 26); replace HX := Aside.mk (HX.out.trans he); (try replace hc_bd := he.cell hc_bd); replace hB_a := Four.ext he hB_a; replace HR_a := Aside.mk (HR_a.out.ext he); have HR_y := Aside.mk (hr.rr.ext ((Ext.refl w103).alloc (.cells #[.int .i64 q_a.f, .bool q_a.neg, .slice A_y q_a.num.length c_y, .slice B_y q_a.den.length d_y] 26))); have hB_y := four_new w103 (.int .i64 q_a.f) (.bool q_a.neg) (.slice A_y q_a.num.length c_y) (.slice B_y q_a.den.length d_y) 26; clear hr he0 he; (try simp only [HNEG.out] at HX hB_a HR_a hB_y HR_y hc_bd)) | (go_at_call 17; with_reducible refine (gives_same HR_y.out HR_a.out).mono ?_; rintro e w104 ⟨rfl, he⟩; clear hB_y HR_y; replace HX := Aside.mk (HX.out.trans he); (try replace hc_bd := he.cell hc_bd); replace hB_a := Four.ext he hB_a; replace HR_a := Aside.mk (HR_a.out.ext he); clear he) | (go_at_call 30; with_reducible refine (decimal_to (HG.out.ext HX.out) HS2.out HP2.out).mono ?_; rintro e w105 ⟨r, rfl, hr, he0⟩; obtain ⟨A_d, c_d, B_d, d_d, rfl⟩ := hr.form; have he := he0.alloc (.cells #[.int .i64 q_w.f, .bool q_w.neg, .slice A_d q_w.num.length c_d, .slice B_d q_w.den.length d_d] 26); replace HX := Aside.mk (HX.out.trans he); (try replace hc_bd := he.cell hc_bd); replace hB_a := Four.ext he hB_a; replace HR_a := Aside.mk (HR_a.out.ext he); have HR_d := Aside.mk (hr.rr.ext ((Ext.refl w105).alloc (.cells #[.int .i64 q_w.f, .bool q_w.neg, .slice A_d q_w.num.length c_d, .slice B_d q_w.den.length d_d] 26))); have hB_d := four_new w105 (.int .i64 q_w.f) (.bool q_w.neg) (.slice A_d q_w.num.length c_d) (.slice B_d q_w.den.length d_d) 26; clear hr he0 he) | (go_at_call 29; with_reducible refine (parse_none (HG.out.ext HX.out) HS.out HM1.out).mono ?_; rintro e w301 ⟨A_z, c_z, B_z, d_z, rfl, he0⟩; have he := he0.alloc (.cells #[.int .i64 0, .bool false, .slice A_z 0 c_z, .slice B_z 0 d_z] 26); replace HX := Aside.mk (HX.out.trans he); have hB_z := four_new w301 (.int .i64 0) (.bool false) (.slice A_z 0 c_z) (.slice B_z 0 d_z) 26; clear he0 he) | (go_at_call 23; with_reducible refine (alive_calls (HG.out.ext (HE1.out.trans HX.out))).mono ?_; rintro e w99 ⟨rfl, he⟩; have HEND := Aside.mk ((HE1.out.trans HX.out).trans he); clear he) | (go_at_call 22; with_reducible refine (zero_len).mono ?_; rintro e w301 ⟨rfl, he⟩; replace HX := Aside.mk (HX.out.trans he); clear he))
          go_ret
          exact ⟨rfl, HEND.out⟩
  · have hqf1 : (q_a.f == 0) = false := beq_eq_false_iff_ne.2 hf
    have hqf2 : (q_a.f != 0) = true := by simp [bne, hqf1]
    clear hf hstl hka hda
    by_cases hz : e_z = 0
    · subst hz
      obtain ⟨hkz, -, -, htz, -⟩ := text_parse hm1
      have HKZ := Aside.mk hkz
      have HTZ : Aside ((⟨(rtext q_z).toArray⟩ : ByteArray) = s) := ⟨by rw [htz]⟩
      have HM1 := Aside.mk hm1
      clear hm1 hkz htz
      go_enter Tryz.func5, Tryz.ntmps5
      go_wp2_with (first | (go_at_call 34; with_reducible refine (tame128 (HX0.out.ext HX.out) (HY0.out.ext HX.out) HQ.out).mono ?_; rintro e w101 ⟨r, rfl, hr, he0⟩; obtain ⟨A_a, c_a, B_a, d_a, rfl⟩ := hr.form; have he := he0.alloc (.cells #[.int .i64 q_a.f, .bool q_a.neg, .slice A_a q_a.num.length c_a, .slice B_a q_a.den.length d_a] 26); clear hB_r; replace HX := Aside.mk (HX.out.trans he); (try replace hc_bd := he.cell hc_bd); have HR_a := Aside.mk (hr.rr.ext ((Ext.refl w101).alloc (.cells #[.int .i64 q_a.f, .bool q_a.neg, .slice A_a q_a.num.length c_a, .slice B_a q_a.den.length d_a] 26))); have hB_a := four_new w101 (.int .i64 q_a.f) (.bool q_a.neg) (.slice A_a q_a.num.length c_a) (.slice B_a q_a.den.length d_a) 26; clear hr he0 he; (try obtain ⟨bd, rfl, hc_bd⟩ := HDEN.out _ _ _ _ (RR.agg HR_a.out).2); (try simp only [HNEG.out] at HX hB_a HR_a hc_bd)) | (go_at_call 26; with_reducible refine (text_good (HG.out.ext HX.out) HR_a.out HKA.out HTX.out).mono ?_; rintro e w102 ⟨rfl, he⟩; replace HX := Aside.mk (HX.out.trans he); (try replace hc_bd := he.cell hc_bd); replace hB_a := Four.ext he hB_a; replace HR_a := Aside.mk (HR_a.out.ext he); clear he) | (go_at_call 29; with_reducible refine (parse_to (HG.out.ext HX.out) HS1.out HP1.out).mono ?_; rintro e w103 ⟨r, rfl, hr, he0⟩; obtain ⟨A_y, c_y, B_y, d_y, rfl⟩ := hr.form; have he := he0.alloc (.cells #[.int .i64 q_a.f, .bool q_a.neg, .slice A_y q_a.num.length c_y, .slice B_y q_a.den.length d_y] 26); replace HX := Aside.mk (HX.out.trans he); (try replace hc_bd := he.cell hc_bd); replace hB_a := Four.ext he hB_a; replace HR_a := Aside.mk (HR_a.out.ext he); have HR_y := Aside.mk (hr.rr.ext ((Ext.refl w103).alloc (.cells #[.int .i64 q_a.f, .bool q_a.neg, .slice A_y q_a.num.length c_y, .slice B_y q_a.den.length d_y] 26))); have hB_y := four_new w103 (.int .i64 q_a.f) (.bool q_a.neg) (.slice A_y q_a.num.length c_y) (.slice B_y q_a.den.length d_y) 26; clear hr he0 he; (try simp only [HNEG.out] at HX hB_a HR_a hB_y HR_y hc_bd)) | (go_at_call 17; with_reducible refine (gives_same HR_y.out HR_a.out).mono ?_; rintro e w104 ⟨rfl, he⟩; clear hB_y HR_y; replace HX := Aside.mk (HX.out.trans he); (try replace hc_bd := he.cell hc_bd); replace hB_a := Four.ext he hB_a; replace HR_a := Aside.mk (HR_a.out.ext he); clear he) | (go_at_call 30; with_reducible refine (decimal_to (HG.out.ext HX.out) HS2.out HP2.out).mono ?_; rintro e w105 ⟨r, rfl, hr, he0⟩; obtain ⟨A_d, c_d, B_d, d_d, rfl⟩ := hr.form; have he := he0.alloc (.cells #[.int .i64 q_w.f, .bool q_w.neg, .slice A_d q_w.num.length c_d, .slice B_d q_w.den.length d_d] 26); replace HX := Aside.mk (HX.out.trans he); (try replace hc_bd := he.cell hc_bd); replace hB_a := Four.ext he hB_a; replace HR_a := Aside.mk (HR_a.out.ext he); have HR_d := Aside.mk (hr.rr.ext ((Ext.refl w105).alloc (.cells #[.int .i64 q_w.f, .bool q_w.neg, .slice A_d q_w.num.length c_d, .slice B_d q_w.den.length d_d] 26))); have hB_d := four_new w105 (.int .i64 q_w.f) (.bool q_w.neg) (.slice A_d q_w.num.length c_d) (.slice B_d q_w.den.length d_d) 26; clear hr he0 he) | (go_at_call 29; with_reducible refine (parse_to (HG.out.ext HX.out) HS.out HM1.out).mono ?_; rintro e w106 ⟨r, rfl, hr, he0⟩; obtain ⟨A_z, c_z, B_z, d_z, rfl⟩ := hr.form; have he := he0.alloc (.cells #[.int .i64 q_z.f, .bool q_z.neg, .slice A_z q_z.num.length c_z, .slice B_z q_z.den.length d_z] 26); replace HX := Aside.mk (HX.out.trans he); have HR_z := Aside.mk (hr.rr.ext ((Ext.refl w106).alloc (.cells #[.int .i64 q_z.f, .bool q_z.neg, .slice A_z q_z.num.length c_z, .slice B_z q_z.den.length d_z] 26))); have hB_z := four_new w106 (.int .i64 q_z.f) (.bool q_z.neg) (.slice A_z q_z.num.length c_z) (.slice B_z q_z.den.length d_z) 26; clear hr he0 he) | (go_at_call 23; with_reducible refine (alive_calls (HG.out.ext (HE1.out.trans HX.out))).mono ?_; rintro e w99 ⟨rfl, he⟩; have HEND := Aside.mk ((HE1.out.trans HX.out).trans he); clear he) | (go_at_call 26; with_reducible refine (text_good (HG.out.ext HX.out) HR_z.out HKZ.out HTZ.out).mono ?_; rintro e w107 ⟨rfl, he⟩; clear hB_z HR_z; replace HX := Aside.mk (HX.out.trans he); clear he))
      go_ret
      exact ⟨rfl, HEND.out⟩
    · have hz0 : (e_z == 0) = false := beq_eq_false_iff_ne.2 hz
      have hz1 : (e_z != 0) = true := by simp [bne, hz0]
      have HM1 : Aside (fparse s.data.toList = (fq 0, e_z)) := ⟨by rw [← fparse_bad hm1 hz]; exact hm1⟩
      clear hm1 hz
      go_enter Tryz.func5, Tryz.ntmps5
      go_wp2_with (first | (go_at_call 34; with_reducible refine (tame128 (HX0.out.ext HX.out) (HY0.out.ext HX.out) HQ.out).mono ?_; rintro e w101 ⟨r, rfl, hr, he0⟩; obtain ⟨A_a, c_a, B_a, d_a, rfl⟩ := hr.form; have he := he0.alloc (.cells #[.int .i64 q_a.f, .bool q_a.neg, .slice A_a q_a.num.length c_a, .slice B_a q_a.den.length d_a] 26); clear hB_r; replace HX := Aside.mk (HX.out.trans he); (try replace hc_bd := he.cell hc_bd); have HR_a := Aside.mk (hr.rr.ext ((Ext.refl w101).alloc (.cells #[.int .i64 q_a.f, .bool q_a.neg, .slice A_a q_a.num.length c_a, .slice B_a q_a.den.length d_a] 26))); have hB_a := four_new w101 (.int .i64 q_a.f) (.bool q_a.neg) (.slice A_a q_a.num.length c_a) (.slice B_a q_a.den.length d_a) 26; clear hr he0 he; (try obtain ⟨bd, rfl, hc_bd⟩ := HDEN.out _ _ _ _ (RR.agg HR_a.out).2); (try simp only [HNEG.out] at HX hB_a HR_a hc_bd)) | (go_at_call 26; with_reducible refine (text_good (HG.out.ext HX.out) HR_a.out HKA.out HTX.out).mono ?_; rintro e w102 ⟨rfl, he⟩; replace HX := Aside.mk (HX.out.trans he); (try replace hc_bd := he.cell hc_bd); replace hB_a := Four.ext he hB_a; replace HR_a := Aside.mk (HR_a.out.ext he); clear he) | (go_at_call 29; with_reducible refine (parse_to (HG.out.ext HX.out) HS1.out HP1.out).mono ?_; rintro e w103 ⟨r, rfl, hr, he0⟩; obtain ⟨A_y, c_y, B_y, d_y, rfl⟩ := hr.form; have he := he0.alloc (.cells #[.int .i64 q_a.f, .bool q_a.neg, .slice A_y q_a.num.length c_y, .slice B_y q_a.den.length d_y] 26); replace HX := Aside.mk (HX.out.trans he); (try replace hc_bd := he.cell hc_bd); replace hB_a := Four.ext he hB_a; replace HR_a := Aside.mk (HR_a.out.ext he); have HR_y := Aside.mk (hr.rr.ext ((Ext.refl w103).alloc (.cells #[.int .i64 q_a.f, .bool q_a.neg, .slice A_y q_a.num.length c_y, .slice B_y q_a.den.length d_y] 26))); have hB_y := four_new w103 (.int .i64 q_a.f) (.bool q_a.neg) (.slice A_y q_a.num.length c_y) (.slice B_y q_a.den.length d_y) 26; clear hr he0 he; (try simp only [HNEG.out] at HX hB_a HR_a hB_y HR_y hc_bd)) | (go_at_call 17; with_reducible refine (gives_same HR_y.out HR_a.out).mono ?_; rintro e w104 ⟨rfl, he⟩; clear hB_y HR_y; replace HX := Aside.mk (HX.out.trans he); (try replace hc_bd := he.cell hc_bd); replace hB_a := Four.ext he hB_a; replace HR_a := Aside.mk (HR_a.out.ext he); clear he) | (go_at_call 30; with_reducible refine (decimal_to (HG.out.ext HX.out) HS2.out HP2.out).mono ?_; rintro e w105 ⟨r, rfl, hr, he0⟩; obtain ⟨A_d, c_d, B_d, d_d, rfl⟩ := hr.form; have he := he0.alloc (.cells #[.int .i64 q_w.f, .bool q_w.neg, .slice A_d q_w.num.length c_d, .slice B_d q_w.den.length d_d] 26); replace HX := Aside.mk (HX.out.trans he); (try replace hc_bd := he.cell hc_bd); replace hB_a := Four.ext he hB_a; replace HR_a := Aside.mk (HR_a.out.ext he); have HR_d := Aside.mk (hr.rr.ext ((Ext.refl w105).alloc (.cells #[.int .i64 q_w.f, .bool q_w.neg, .slice A_d q_w.num.length c_d, .slice B_d q_w.den.length d_d] 26))); have hB_d := four_new w105 (.int .i64 q_w.f) (.bool q_w.neg) (.slice A_d q_w.num.length c_d) (.slice B_d q_w.den.length d_d) 26; clear hr he0 he) | (go_at_call 29; with_reducible refine (parse_none (HG.out.ext HX.out) HS.out HM1.out).mono ?_; rintro e w301 ⟨A_z, c_z, B_z, d_z, rfl, he0⟩; have he := he0.alloc (.cells #[.int .i64 0, .bool false, .slice A_z 0 c_z, .slice B_z 0 d_z] 26); replace HX := Aside.mk (HX.out.trans he); have hB_z := four_new w301 (.int .i64 0) (.bool false) (.slice A_z 0 c_z) (.slice B_z 0 d_z) 26; clear he0 he) | (go_at_call 23; with_reducible refine (alive_calls (HG.out.ext (HE1.out.trans HX.out))).mono ?_; rintro e w99 ⟨rfl, he⟩; have HEND := Aside.mk ((HE1.out.trans HX.out).trans he); clear he) | (go_at_call 22; with_reducible refine (zero_len).mono ?_; rintro e w301 ⟨rfl, he⟩; replace HX := Aside.mk (HX.out.trans he); clear he))
      go_ret
      exact ⟨rfl, HEND.out⟩
end Go.Proofs.YtgfkachfbnbikaaGreatDoor

namespace Go.Proofs.YtgfkachfbnbikaaGreatDoor
open Go.RowKit Go.ChangeShapes Go.WideShapes Go.ChangeAt

set_option maxRecDepth 100000 in
theorem reads_lifted (os : Os) (started : os.Started) (H : Type) (enc : TypeId × Value → H) :
    ReturnsInHanded {} Tryz.checked os 5 .any (fun w args => (Rows.fracReadsSpec.pre enc Tryz.prog Tryz.f5 [] false w args ∧ laidMetH Tryz.prog Rows.fracReadsRow.laid w) ∧ sizedMet enc Tryz.prog Tryz.f5 (OpenSpec.ofChange Rows.fracReadsSpec) false w args)
      (Rows.fracReadsSpec.post enc Tryz.prog Tryz.f5 false true false false) := by
  refine returns_law (C := Tryz.checked) (X := fun w _ => laidMetH Tryz.prog Rows.fracReadsRow.laid w) (fun _ _ _ hh h => h.of_heap hh) Tryz.own started (by kernel_rfl) Tryz.func5
    (ChangeSpec.witness_shaped (enc := enc) (C := Tryz.checked) (os := os) (X := fun w _ => laidMetH Tryz.prog Rows.fracReadsRow.laid w) false (World.laidAll Tryz.prog os Rows.fracReadsRow.laid) #[.agg #[.int .i64 0, .bool false, .slice none 0 0, .slice none 0 0], .string ⟨#[]⟩] 8 (World.laidAll_os _ _ _)
      (World.shaped_of_ZipB (by kernel_rfl) (by kernel_rfl)) (by kernel_rfl) (by kernel_rfl) (by kernel_rfl)
      (by rw [MakeChecks.laidMetH_plain _ _ _ (by kernel_rfl)]; exact laidMet_laidAll _ (by kernel_rfl) (by kernel_rfl))) ?_
  intro W base args ds gs before hval0 hW hL hsh
  have hval : ∀ (j : Nat) t v, Tryz.f5.params[j]? = some t → args[j]? = some v → Value.okWide Tryz.prog W .any base t v := hval0
  have hW' := hW
  obtain ⟨p, q, hA0, hV, rfl, hfz, hnd⟩ := hW
  have hA : DataW.TrodAll enc Tryz.prog W 0 (fun _ => true) true Tryz.f5.params.toList args.toList ds p := hA0
  have hA' := hA
  rw [Tryz.params5] at hA hval
  obtain ⟨v0, v1, d0, d1, p0, p1, rfl, rfl, rfl, ⟨k0, h0⟩, h1⟩ := trodAll_two hA
  obtain ⟨rfl, rfl⟩ := trodVars_none hV
  have hG := glob_of (by kernel_rfl) rfl hL hsh
  obtain ⟨f1, n1, sx1, sy1, xs1, ys1, rfl, hx1, hy1⟩ := rat_of (hval 0 26 v0 rfl rfl) h0
  obtain ⟨s0, rfl, rfl, rfl, _⟩ := Go.ChangeMaps.open_string Tryz.underlying9 (hval 1 9 v1 rfl rfl) h1
  refine (reads_calls hG hx1 hy1).mono fun e W' ⟨he, hw⟩ => ?_
  subst he
  refine ⟨_, rfl, law_post (ts := Tryz.f5.params.toList) rfl rfl rfl ?_ ⟨rfl, rfl, rfl⟩ hW' (by simpa using hA') hw⟩
  rw [Tryz.params5]
  exact read_all (by kernel_rfl)

theorem fracReads_holds : Rows.FracReadsSaid :=
  OpenClaim.holds_of_wide 5 Tryz.f5 rfl rfl rfl rfl rfl rfl rfl ⟨rfl, rfl, rfl, rfl, rfl⟩ rfl rfl rfl rfl rfl (by kernel_rfl) Tryz.func5 (by kernel_rfl)
    (of_decide_eq_true (by kernel_rfl)) (by unfold Func.isWrapper; first | (rw [if_neg (by decide +kernel)]; exact ⟨rfl, rfl⟩) | (rw [if_pos (by decide +kernel)]; kernel_rfl))
    (fun os started H enc _ => reads_lifted os started H enc)
end Go.Proofs.YtgfkachfbnbikaaGreatDoor

namespace Go.Proofs.YtgfkachfbnbikaaGreatDoor
open Go

set_option maxRecDepth 100000 in
theorem fracReads_card : Rows.FracReadsCardSaid :=
  Claim7.holds_tied_plain_at .later [] [.data, .data, .pinned] true (true, "d85da3931ba373f0f2d5a7ce168e29c3a5db8cee51669ffe15e332533fbaa330") false
    fracReads_holds (fun _ h => by cases h) (by kernel_rfl) (fun _ h => by cases h) fracReads_row_tie rfl ⟨rfl, rfl⟩ (by kernel_rfl) rfl
    (fun f fn hf hfn => by
      obtain rfl : f = 5 := Option.some.inj ((show Tryz.prog.funcNamed "fluxion/fluxionlaw02.FracReads" = some 5 by kernel_rfl).symm.trans hf) |>.symm
      obtain rfl : fn = Tryz.f5 := (Option.some.inj (Tryz.func5.symm.trans hfn)).symm
      exact ⟨by kernel_rfl, fun j t ht => by
        rw [Tryz.params5] at ht
        have hm : t ∈ Tryz.f5.params.toList := by rw [Tryz.params5]; exact Array.mem_toList_iff.2 (Array.mem_of_getElem? ht)
        have hall : (Tryz.f5.params.toList.all fun u => !Tryz.prog.wantsStandIn u) = true := by kernel_rfl
        exact (show Tryz.prog.wantsStandIn t = false by simpa using List.all_eq_true.1 hall t hm)⟩)
    (by kernel_rfl)
#print axioms fracReads_card
end Go.Proofs.YtgfkachfbnbikaaGreatDoor
