/- FracTexts: the call returns true. FracTexts: of every input the call returns true, and each argument reads behind it as it read before. FracTexts: the tied card holds: Text returns the text of the specification for any Rat, Parse its Rat for any string, and Decimal its number, or their errors. Conditions: the package-level variables that the row lists start as the program's text lays them (the tie is given). -/
import Derived.Test.YtgfkachfbnbikaaGreatDoorMw
import Derived.Test.YtgfkachfbnbikaaGreatDoorMs
import Derived.Test.YtgfkachfbnbikaaGreatDoorMn
import Derived.Test.YtgfkachfbnbikaaGreatDoorMp
import Derived.ChangeMaps5
import Derived.Test.YtgfkachfbnbikaaGreatDoorCards
import Derived.Test.YtgfkachfbnbikaaGreatDoorTie
import Derived.SevenTiedAt
namespace Go.Proofs.YtgfkachfbnbikaaGreatDoor
open Go.RowKit

theorem four_new (w : World) (x0 x1 x2 x3 : Value) (t : TypeId) : Four (w.alloc (.cells #[x0, x1, x2, x3] t)) w.heap.size x0 x1 x2 x3 := ⟨cell_new rfl rfl, cell_new rfl rfl, cell_new rfl rfl, cell_new rfl rfl⟩
/-- frac.Text of a valid Rat. -/
theorem text_good {w : World} {v : Value} {q : Rq} {s : ByteArray} (hg : Glob w) (h : RR w v q) (hq : okq q = true) (hs : (⟨(rtext q).toArray⟩ : ByteArray) = s) :
    Calls Tryz.prog 26 #[v] w fun e w' => e = .returned (.tuple #[.string s, .int .i64 0]) ∧ Ext w w' := by
  subst hs
  by_cases hf : q.f = 0
  · have k := okq_ds hq hf h.ds
    have e : rtext q = ntext q.neg (val q.num) (val q.den) := if_pos hf
    have eq : (⟨0, q.neg, dig (val q.num), dig (val q.den)⟩ : Rq) = q := by
      rw [← k.num, ← k.den]
      obtain ⟨f, n, x, y⟩ := q
      obtain rfl : f = 0 := hf
      rfl
    rw [e]
    exact text_num hg (by rw [eq]; exact h) (by rw [eq]; exact hq) k.la k.lb k.pos
  · have e : (⟨(rtext q).toArray⟩ : ByteArray) = faultB q.f := by
      rw [show rtext q = (faultB q.f).data.toList from if_neg hf]
    rw [e]
    exact text_fault hg h hq hf
theorem parse_to {w : World} {s : ByteArray} {q : Rq} {e : Int} (hg : Glob w) (hs : s.size ≤ 1073741824) (hm : fparse s.data.toList = (q, e)) :
    Calls Tryz.prog 29 #[.string s] w fun e' w' => ∃ r, e' = .returned (.tuple #[r, .int .i64 e]) ∧ RO w.heap.size w' r q ∧ Ext w w' := parse_calls (m := (q, e)) hg hs hm
theorem decimal_to {w : World} {s : ByteArray} {q : Rq} {e : Int} (hg : Glob w) (hs : s.size ≤ 1073741824) (hm : fdec s.data.toList = (q, e)) :
    Calls Tryz.prog 30 #[.string s] w fun e' w' => ∃ r, e' = .returned (.tuple #[r, .int .i64 e]) ∧ RO w.heap.size w' r q ∧ Ext w w' := decimal_calls (m := (q, e)) hg hs hm
theorem rparse_to {w : World} {s : ByteArray} {q : Rq} {e : Int} (hs : s.size ≤ 1073741824) (hm : fparse s.data.toList = (q, e)) :
    Calls Tryz.prog 31 #[.string s] w fun e' w' => ∃ r, e' = .returned (.tuple #[r, .int .i64 e]) ∧ RO w.heap.size w' r q ∧ Ext w w' := rparse_calls (m := (q, e)) hs hm
theorem rdecimal_to {w : World} {s : ByteArray} {q : Rq} {e : Int} (hs : s.size ≤ 1073741824) (hm : fdec s.data.toList = (q, e)) :
    Calls Tryz.prog 32 #[.string s] w fun e' w' => ∃ r, e' = .returned (.tuple #[r, .int .i64 e]) ∧ RO w.heap.size w' r q ∧ Ext w w' := rdecimal_calls (m := (q, e)) hs hm

set_option maxRecDepth 10000 in
set_option maxHeartbeats 8000000 in
theorem texts_calls {w : World} {f1 : Int} {n1 : Bool} {sx sy : Value} {xs ys : List Nat} {s0 : ByteArray} (hg : Glob w) (hx : RL w sx xs) (hy : RL w sy ys) :
    Calls Tryz.prog 4 #[.agg #[.int .i64 f1, .bool n1, sx, sy], .string s0] w fun e w' => e = .returned (.bool true) ∧ Ext w w' := by
  have HG := Aside.mk hg
  have HX0 := Aside.mk hx
  have HY0 := Aside.mk hy
  obtain ⟨q_a, ha⟩ : ∃ a : Rq, (⟨f1, n1, xs.take 132, ys.take 132⟩ : Rq) = a := ⟨_, rfl⟩
  have HQ := Aside.mk ha
  obtain ⟨AX, cx, rfl, _⟩ := hx
  obtain ⟨AY, cy, rfl, _⟩ := hy
  generalize xs.length = nx at *
  generalize ys.length = ny at *
  clear ha hg
  have hB_r := four_new w (.int .i64 f1) (.bool n1) (.slice AX nx cx) (.slice AY ny cy) 26
  have HX := Aside.mk ((Ext.refl w).alloc (.cells #[.int .i64 f1, .bool n1, .slice AX nx cx, .slice AY ny cy] 26))
  have HE1 := Aside.mk (Ext.refl w)
  obtain ⟨s, hs⟩ : ∃ s : ByteArray, s0.extract 0 (min (s0.size : Int) 5000).toNat = s := ⟨_, rfl⟩
  have hsz : s.size ≤ 5000 := by
    rw [← hs, ext_take, mk_size, List.length_take]; omega
  have HS : Aside (s.size ≤ 1073741824) := ⟨by omega⟩
  obtain ⟨⟨q_y, e1⟩, hm1⟩ : ∃ m, fparse s.data.toList = m := ⟨_, rfl⟩
  obtain ⟨⟨q_z, e2⟩, hm2⟩ : ∃ m, fdec s.data.toList = m := ⟨_, rfl⟩
  have HM1 := Aside.mk hm1
  have HM2 := Aside.mk hm2
  have HE_y : Aside ((q_y.f == q_y.f && sameq q_y q_y) = true) := ⟨by simp [sameq]⟩
  have HE_z : Aside ((q_z.f == q_z.f && sameq q_z q_z) = true) := ⟨by simp [sameq]⟩
  clear hm1 hm2 hsz
  cases hka : okq q_a
  · have HKA := Aside.mk hka
    clear hka
    go_enter Tryz.func4, Tryz.ntmps4
    go_wp2_with (first | (go_at_call 25; with_reducible refine (rat_q (HX0.out.ext HX.out) (HY0.out.ext HX.out) HQ.out).mono ?_; rintro e w101 ⟨r, rfl, hr, he0⟩; obtain ⟨A_a, c_a, B_a, d_a, rfl⟩ := hr.form; have he := he0.alloc (.cells #[.int .i64 q_a.f, .bool q_a.neg, .slice A_a q_a.num.length c_a, .slice B_a q_a.den.length d_a] 26); clear hB_r; replace HX := Aside.mk (HX.out.trans he); have HR_a := Aside.mk (hr.rr.ext ((Ext.refl w101).alloc (.cells #[.int .i64 q_a.f, .bool q_a.neg, .slice A_a q_a.num.length c_a, .slice B_a q_a.den.length d_a] 26))); have hB_a := four_new w101 (.int .i64 q_a.f) (.bool q_a.neg) (.slice A_a q_a.num.length c_a) (.slice B_a q_a.den.length d_a) 26; clear hr he0 he) | (go_at_call 26; with_reducible refine (text_bad HR_a.out HKA.out).mono ?_; rintro e w102 ⟨rfl, he⟩; replace HX := Aside.mk (HX.out.trans he); replace hB_a := Four.ext he hB_a; replace HR_a := Aside.mk (HR_a.out.ext he); clear he) | (go_at_call 27; with_reducible refine (risrat_calls HR_a.out HKA.out).mono ?_; rintro e w103 ⟨rfl, he⟩; replace HX := Aside.mk (HX.out.trans he); replace hB_a := Four.ext he hB_a; replace HR_a := Aside.mk (HR_a.out.ext he); clear he) | (go_at_call 29; with_reducible refine (parse_to (HG.out.ext HX.out) HS.out HM1.out).mono ?_; rintro e w105 ⟨r, rfl, hr, he0⟩; obtain ⟨A_y, c_y, B_y, d_y, rfl⟩ := hr.form; have he := he0.alloc (.cells #[.int .i64 q_y.f, .bool q_y.neg, .slice A_y q_y.num.length c_y, .slice B_y q_y.den.length d_y] 26); replace HX := Aside.mk (HX.out.trans he); have HR_y := Aside.mk (hr.rr.ext ((Ext.refl w105).alloc (.cells #[.int .i64 q_y.f, .bool q_y.neg, .slice A_y q_y.num.length c_y, .slice B_y q_y.den.length d_y] 26))); have hB_y := four_new w105 (.int .i64 q_y.f) (.bool q_y.neg) (.slice A_y q_y.num.length c_y) (.slice B_y q_y.den.length d_y) 26; clear hr he0 he) | (go_at_call 30; with_reducible refine (decimal_to (HG.out.ext HX.out) HS.out HM2.out).mono ?_; rintro e w106 ⟨r, rfl, hr, he0⟩; obtain ⟨A_z, c_z, B_z, d_z, rfl⟩ := hr.form; have he := he0.alloc (.cells #[.int .i64 q_z.f, .bool q_z.neg, .slice A_z q_z.num.length c_z, .slice B_z q_z.den.length d_z] 26); replace HX := Aside.mk (HX.out.trans he); replace hB_y := Four.ext he hB_y; replace HR_y := Aside.mk (HR_y.out.ext he); have HR_z := Aside.mk (hr.rr.ext ((Ext.refl w106).alloc (.cells #[.int .i64 q_z.f, .bool q_z.neg, .slice A_z q_z.num.length c_z, .slice B_z q_z.den.length d_z] 26))); have hB_z := four_new w106 (.int .i64 q_z.f) (.bool q_z.neg) (.slice A_z q_z.num.length c_z) (.slice B_z q_z.den.length d_z) 26; clear hr he0 he) | (go_at_call 31; with_reducible refine (rparse_to HS.out HM1.out).mono ?_; rintro e w107 ⟨r, rfl, hr, he0⟩; obtain ⟨A_p, c_p, B_p, d_p, rfl⟩ := hr.form; have he := he0.alloc (.cells #[.int .i64 q_y.f, .bool q_y.neg, .slice A_p q_y.num.length c_p, .slice B_p q_y.den.length d_p] 26); replace HX := Aside.mk (HX.out.trans he); replace hB_y := Four.ext he hB_y; replace hB_z := Four.ext he hB_z; replace HR_y := Aside.mk (HR_y.out.ext he); replace HR_z := Aside.mk (HR_z.out.ext he); have HR_p := Aside.mk (hr.rr.ext ((Ext.refl w107).alloc (.cells #[.int .i64 q_y.f, .bool q_y.neg, .slice A_p q_y.num.length c_p, .slice B_p q_y.den.length d_p] 26))); have hB_p := four_new w107 (.int .i64 q_y.f) (.bool q_y.neg) (.slice A_p q_y.num.length c_p) (.slice B_p q_y.den.length d_p) 26; clear hr he0 he) | (go_at_call 32; with_reducible refine (rdecimal_to HS.out HM2.out).mono ?_; rintro e w108 ⟨r, rfl, hr, he0⟩; obtain ⟨A_d, c_d, B_d, d_d, rfl⟩ := hr.form; have he := he0.alloc (.cells #[.int .i64 q_z.f, .bool q_z.neg, .slice A_d q_z.num.length c_d, .slice B_d q_z.den.length d_d] 26); replace HX := Aside.mk (HX.out.trans he); replace hB_y := Four.ext he hB_y; replace hB_z := Four.ext he hB_z; replace hB_p := Four.ext he hB_p; replace HR_y := Aside.mk (HR_y.out.ext he); replace HR_z := Aside.mk (HR_z.out.ext he); replace HR_p := Aside.mk (HR_p.out.ext he); have HR_d := Aside.mk (hr.rr.ext ((Ext.refl w108).alloc (.cells #[.int .i64 q_z.f, .bool q_z.neg, .slice A_d q_z.num.length c_d, .slice B_d q_z.den.length d_d] 26))); have hB_d := four_new w108 (.int .i64 q_z.f) (.bool q_z.neg) (.slice A_d q_z.num.length c_d) (.slice B_d q_z.den.length d_d) 26; clear hr he0 he) | (go_at_call 33; with_reducible refine (requal_calls HR_y.out HR_p.out HE_y.out).mono ?_; rintro e w109 ⟨rfl, he⟩; clear hB_y hB_p HR_y HR_p; replace HX := Aside.mk (HX.out.trans he); replace hB_z := Four.ext he hB_z; replace hB_d := Four.ext he hB_d; replace HR_z := Aside.mk (HR_z.out.ext he); replace HR_d := Aside.mk (HR_d.out.ext he); clear he) | (go_at_call 33; with_reducible refine (requal_calls HR_z.out HR_d.out HE_z.out).mono ?_; rintro e w110 ⟨rfl, he⟩; clear hB_z hB_d HR_z HR_d; replace HX := Aside.mk (HX.out.trans he); clear he) | (go_at_call 23; with_reducible refine (alive_calls (HG.out.ext (HE1.out.trans HX.out))).mono ?_; rintro e w99 ⟨rfl, he⟩; have HEND := Aside.mk ((HE1.out.trans HX.out).trans he); clear he))
    go_ret
    exact ⟨rfl, HEND.out⟩
  · have HKA := Aside.mk hka
    obtain ⟨st, hst⟩ : ∃ st : ByteArray, (⟨(rtext q_a).toArray⟩ : ByteArray) = st := ⟨_, rfl⟩
    have HTX := Aside.mk hst
    clear hka hst
    go_enter Tryz.func4, Tryz.ntmps4
    go_wp2_with (first | (go_at_call 25; with_reducible refine (rat_q (HX0.out.ext HX.out) (HY0.out.ext HX.out) HQ.out).mono ?_; rintro e w101 ⟨r, rfl, hr, he0⟩; obtain ⟨A_a, c_a, B_a, d_a, rfl⟩ := hr.form; have he := he0.alloc (.cells #[.int .i64 q_a.f, .bool q_a.neg, .slice A_a q_a.num.length c_a, .slice B_a q_a.den.length d_a] 26); clear hB_r; replace HX := Aside.mk (HX.out.trans he); have HR_a := Aside.mk (hr.rr.ext ((Ext.refl w101).alloc (.cells #[.int .i64 q_a.f, .bool q_a.neg, .slice A_a q_a.num.length c_a, .slice B_a q_a.den.length d_a] 26))); have hB_a := four_new w101 (.int .i64 q_a.f) (.bool q_a.neg) (.slice A_a q_a.num.length c_a) (.slice B_a q_a.den.length d_a) 26; clear hr he0 he) | (go_at_call 26; with_reducible refine (text_good (HG.out.ext HX.out) HR_a.out HKA.out HTX.out).mono ?_; rintro e w102 ⟨rfl, he⟩; replace HX := Aside.mk (HX.out.trans he); replace hB_a := Four.ext he hB_a; replace HR_a := Aside.mk (HR_a.out.ext he); clear he) | (go_at_call 27; with_reducible refine (risrat_calls HR_a.out HKA.out).mono ?_; rintro e w103 ⟨rfl, he⟩; replace HX := Aside.mk (HX.out.trans he); replace hB_a := Four.ext he hB_a; replace HR_a := Aside.mk (HR_a.out.ext he); clear he) | (go_at_call 28; with_reducible refine (rtext_calls HR_a.out HKA.out HTX.out).mono ?_; rintro e w104 ⟨rfl, he⟩; clear hB_a HR_a; replace HX := Aside.mk (HX.out.trans he); clear he) | (go_at_call 29; with_reducible refine (parse_to (HG.out.ext HX.out) HS.out HM1.out).mono ?_; rintro e w105 ⟨r, rfl, hr, he0⟩; obtain ⟨A_y, c_y, B_y, d_y, rfl⟩ := hr.form; have he := he0.alloc (.cells #[.int .i64 q_y.f, .bool q_y.neg, .slice A_y q_y.num.length c_y, .slice B_y q_y.den.length d_y] 26); replace HX := Aside.mk (HX.out.trans he); have HR_y := Aside.mk (hr.rr.ext ((Ext.refl w105).alloc (.cells #[.int .i64 q_y.f, .bool q_y.neg, .slice A_y q_y.num.length c_y, .slice B_y q_y.den.length d_y] 26))); have hB_y := four_new w105 (.int .i64 q_y.f) (.bool q_y.neg) (.slice A_y q_y.num.length c_y) (.slice B_y q_y.den.length d_y) 26; clear hr he0 he) | (go_at_call 30; with_reducible refine (decimal_to (HG.out.ext HX.out) HS.out HM2.out).mono ?_; rintro e w106 ⟨r, rfl, hr, he0⟩; obtain ⟨A_z, c_z, B_z, d_z, rfl⟩ := hr.form; have he := he0.alloc (.cells #[.int .i64 q_z.f, .bool q_z.neg, .slice A_z q_z.num.length c_z, .slice B_z q_z.den.length d_z] 26); replace HX := Aside.mk (HX.out.trans he); replace hB_y := Four.ext he hB_y; replace HR_y := Aside.mk (HR_y.out.ext he); have HR_z := Aside.mk (hr.rr.ext ((Ext.refl w106).alloc (.cells #[.int .i64 q_z.f, .bool q_z.neg, .slice A_z q_z.num.length c_z, .slice B_z q_z.den.length d_z] 26))); have hB_z := four_new w106 (.int .i64 q_z.f) (.bool q_z.neg) (.slice A_z q_z.num.length c_z) (.slice B_z q_z.den.length d_z) 26; clear hr he0 he) | (go_at_call 31; with_reducible refine (rparse_to HS.out HM1.out).mono ?_; rintro e w107 ⟨r, rfl, hr, he0⟩; obtain ⟨A_p, c_p, B_p, d_p, rfl⟩ := hr.form; have he := he0.alloc (.cells #[.int .i64 q_y.f, .bool q_y.neg, .slice A_p q_y.num.length c_p, .slice B_p q_y.den.length d_p] 26); replace HX := Aside.mk (HX.out.trans he); replace hB_y := Four.ext he hB_y; replace hB_z := Four.ext he hB_z; replace HR_y := Aside.mk (HR_y.out.ext he); replace HR_z := Aside.mk (HR_z.out.ext he); have HR_p := Aside.mk (hr.rr.ext ((Ext.refl w107).alloc (.cells #[.int .i64 q_y.f, .bool q_y.neg, .slice A_p q_y.num.length c_p, .slice B_p q_y.den.length d_p] 26))); have hB_p := four_new w107 (.int .i64 q_y.f) (.bool q_y.neg) (.slice A_p q_y.num.length c_p) (.slice B_p q_y.den.length d_p) 26; clear hr he0 he) | (go_at_call 32; with_reducible refine (rdecimal_to HS.out HM2.out).mono ?_; rintro e w108 ⟨r, rfl, hr, he0⟩; obtain ⟨A_d, c_d, B_d, d_d, rfl⟩ := hr.form; have he := he0.alloc (.cells #[.int .i64 q_z.f, .bool q_z.neg, .slice A_d q_z.num.length c_d, .slice B_d q_z.den.length d_d] 26); replace HX := Aside.mk (HX.out.trans he); replace hB_y := Four.ext he hB_y; replace hB_z := Four.ext he hB_z; replace hB_p := Four.ext he hB_p; replace HR_y := Aside.mk (HR_y.out.ext he); replace HR_z := Aside.mk (HR_z.out.ext he); replace HR_p := Aside.mk (HR_p.out.ext he); have HR_d := Aside.mk (hr.rr.ext ((Ext.refl w108).alloc (.cells #[.int .i64 q_z.f, .bool q_z.neg, .slice A_d q_z.num.length c_d, .slice B_d q_z.den.length d_d] 26))); have hB_d := four_new w108 (.int .i64 q_z.f) (.bool q_z.neg) (.slice A_d q_z.num.length c_d) (.slice B_d q_z.den.length d_d) 26; clear hr he0 he) | (go_at_call 33; with_reducible refine (requal_calls HR_y.out HR_p.out HE_y.out).mono ?_; rintro e w109 ⟨rfl, he⟩; clear hB_y hB_p HR_y HR_p; replace HX := Aside.mk (HX.out.trans he); replace hB_z := Four.ext he hB_z; replace hB_d := Four.ext he hB_d; replace HR_z := Aside.mk (HR_z.out.ext he); replace HR_d := Aside.mk (HR_d.out.ext he); clear he) | (go_at_call 33; with_reducible refine (requal_calls HR_z.out HR_d.out HE_z.out).mono ?_; rintro e w110 ⟨rfl, he⟩; clear hB_z hB_d HR_z HR_d; replace HX := Aside.mk (HX.out.trans he); clear he) | (go_at_call 23; with_reducible refine (alive_calls (HG.out.ext (HE1.out.trans HX.out))).mono ?_; rintro e w99 ⟨rfl, he⟩; have HEND := Aside.mk ((HE1.out.trans HX.out).trans he); clear he))
    go_ret
    exact ⟨rfl, HEND.out⟩
end Go.Proofs.YtgfkachfbnbikaaGreatDoor

namespace Go.Proofs.YtgfkachfbnbikaaGreatDoor
open Go.RowKit Go.ChangeShapes Go.WideShapes Go.ChangeAt

set_option maxRecDepth 100000 in
theorem texts_lifted (os : Os) (started : os.Started) (H : Type) (enc : TypeId × Value → H) :
    ReturnsInHanded {} Tryz.checked os 4 .any (fun w args => (Rows.fracTextsSpec.pre enc Tryz.prog Tryz.f4 [] false w args ∧ laidMetH Tryz.prog Rows.fracTextsRow.laid w) ∧ sizedMet enc Tryz.prog Tryz.f4 (OpenSpec.ofChange Rows.fracTextsSpec) false w args)
      (Rows.fracTextsSpec.post enc Tryz.prog Tryz.f4 false true false false) := by
  refine returns_law (C := Tryz.checked) (X := fun w _ => laidMetH Tryz.prog Rows.fracTextsRow.laid w) (fun _ _ _ hh h => h.of_heap hh) Tryz.own started (by kernel_rfl) Tryz.func4
    (ChangeSpec.witness_shaped (enc := enc) (C := Tryz.checked) (os := os) (X := fun w _ => laidMetH Tryz.prog Rows.fracTextsRow.laid w) false (World.laidAll Tryz.prog os Rows.fracTextsRow.laid) #[.agg #[.int .i64 0, .bool false, .slice none 0 0, .slice none 0 0], .string ⟨#[]⟩] 8 (World.laidAll_os _ _ _)
      (World.shaped_of_ZipB (by kernel_rfl) (by kernel_rfl)) (by kernel_rfl) (by kernel_rfl) (by kernel_rfl)
      (by rw [MakeChecks.laidMetH_plain _ _ _ (by kernel_rfl)]; exact laidMet_laidAll _ (by kernel_rfl) (by kernel_rfl))) ?_
  intro W base args ds gs before hval0 hW hL hsh
  have hval : ∀ (j : Nat) t v, Tryz.f4.params[j]? = some t → args[j]? = some v → Value.okWide Tryz.prog W .any base t v := hval0
  have hW' := hW
  obtain ⟨p, q, hA0, hV, rfl, hfz, hnd⟩ := hW
  have hA : DataW.TrodAll enc Tryz.prog W 0 (fun _ => true) true Tryz.f4.params.toList args.toList ds p := hA0
  have hA' := hA
  rw [Tryz.params4] at hA hval
  obtain ⟨v0, v1, d0, d1, p0, p1, rfl, rfl, rfl, ⟨k0, h0⟩, h1⟩ := trodAll_two hA
  obtain ⟨rfl, rfl⟩ := trodVars_none hV
  have hG := glob_of (by kernel_rfl) rfl hL hsh
  obtain ⟨f1, n1, sx1, sy1, xs1, ys1, rfl, hx1, hy1⟩ := rat_of (hval 0 26 v0 rfl rfl) h0
  obtain ⟨s0, rfl, rfl, rfl, _⟩ := Go.ChangeMaps.open_string Tryz.underlying9 (hval 1 9 v1 rfl rfl) h1
  refine (texts_calls hG hx1 hy1).mono fun e W' ⟨he, hw⟩ => ?_
  subst he
  refine ⟨_, rfl, law_post (ts := Tryz.f4.params.toList) rfl rfl rfl ?_ ⟨rfl, rfl, rfl⟩ hW' (by simpa using hA') hw⟩
  rw [Tryz.params4]
  exact read_all (by kernel_rfl)

theorem fracTexts_holds : Rows.FracTextsSaid :=
  OpenClaim.holds_of_wide 4 Tryz.f4 rfl rfl rfl rfl rfl rfl rfl ⟨rfl, rfl, rfl, rfl, rfl⟩ rfl rfl rfl rfl rfl (by kernel_rfl) Tryz.func4 (by kernel_rfl)
    (of_decide_eq_true (by kernel_rfl)) (by unfold Func.isWrapper; first | (rw [if_neg (by decide +kernel)]; exact ⟨rfl, rfl⟩) | (rw [if_pos (by decide +kernel)]; kernel_rfl))
    (fun os started H enc _ => texts_lifted os started H enc)
end Go.Proofs.YtgfkachfbnbikaaGreatDoor

namespace Go.Proofs.YtgfkachfbnbikaaGreatDoor
open Go

set_option maxRecDepth 100000 in
theorem fracTexts_card : Rows.FracTextsCardSaid :=
  Claim7.holds_tied_plain_at .later [] [.data, .data, .pinned] true (true, "d85da3931ba373f0f2d5a7ce168e29c3a5db8cee51669ffe15e332533fbaa330") false
    fracTexts_holds (fun _ h => by cases h) (by kernel_rfl) (fun _ h => by cases h) fracTexts_row_tie rfl ⟨rfl, rfl⟩ (by kernel_rfl) rfl
    (fun f fn hf hfn => by
      obtain rfl : f = 4 := Option.some.inj ((show Tryz.prog.funcNamed "fluxion/fluxionlaw02.FracTexts" = some 4 by kernel_rfl).symm.trans hf) |>.symm
      obtain rfl : fn = Tryz.f4 := (Option.some.inj (Tryz.func4.symm.trans hfn)).symm
      exact ⟨by kernel_rfl, fun j t ht => by
        rw [Tryz.params4] at ht
        have hm : t ∈ Tryz.f4.params.toList := by rw [Tryz.params4]; exact Array.mem_toList_iff.2 (Array.mem_of_getElem? ht)
        have hall : (Tryz.f4.params.toList.all fun u => !Tryz.prog.wantsStandIn u) = true := by kernel_rfl
        exact (show Tryz.prog.wantsStandIn t = false by simpa using List.all_eq_true.1 hall t hm)⟩)
    (by kernel_rfl)
#print axioms fracTexts_card
end Go.Proofs.YtgfkachfbnbikaaGreatDoor
