/- Contracts about bits: joined, Not, And, Or of package frac; IsBit, Not, And, Or of package fluxionref02. Contracts about bits of package fluxionref02: Not, And, Or. Contracts: Floor of package frac and of package fluxionref02. -/
import Derived.Test.YtgfkachfbnbikaaGreatDoorMi
import Derived.Test.YtgfkachfbnbikaaGreatDoorMo
import Derived.Test.YtgfkachfbnbikaaGreatDoorMq
namespace Go.Proofs.YtgfkachfbnbikaaGreatDoor
open Go.RowKit

theorem leastq_self' (a : Int) : leastq a a = a := by unfold leastq; split <;> simp_all
/-- A bit, or a fault. -/
def rbit (l : Int) (is : Bool) : Int × Bool := if l = 0 then (0, is) else (l, false)
/-- The result of a function of two bits that asks for valid ones. -/
def bitq (fa fb : Int) (oa ob is : Bool) : (Int × Bool) × Int := if okb fa oa && okb fb ob then (rbit (leastq fa fb) is, 0) else ((0, false), 5)
theorem isbit_b {w : World} {f : Int} {on b : Bool} (hb : okb f on = b) :
    Calls Tryz.prog 50 #[.agg #[.int .i64 f, .bool on]] w fun e w' => e = .returned (.bool b) ∧ Ext w w' := by subst hb; exact isbit_calls

set_option maxRecDepth 10000 in
set_option maxHeartbeats 1000000 in
theorem joined_calls {w : World} {fa fb : Int} {oa ob is : Bool} {x : Int × Bool} {y : Int} (hm : bitq fa fb oa ob is = (x, y)) :
    Calls Tryz.prog 111 #[.agg #[.int .i64 fa, .bool oa], .agg #[.int .i64 fb, .bool ob], .bool is] w fun e w' => e = .returned (.tuple #[.agg #[.int .i64 x.1, .bool x.2], .int .i64 y]) ∧ Ext w w' := by
  have hk0 := Keep22.init w (.int .i64 fa) (.bool oa) (.int .i64 fb) (.bool ob) (.int .i64 0) (.bool false) 55 55 55
  cases hoa : okb fa oa
  · have HOA := Aside.mk hoa
    have h : (((0, false), 5) : (Int × Bool) × Int) = (x, y) := by rw [← hm]; simp [bitq, hoa]
    injection h with h1 h2
    subst h1 h2
    clear hm hoa
    go_enter Tryz.func111, Tryz.ntmps111
    go_wp2_with (go_at_call 50; with_reducible refine (isbit_b HOA.out).mono ?_; rintro e w1 ⟨rfl, he⟩; have hk1 := Keep22.ext he hk0; clear hk0 he)
    have HK := Aside.mk hk1
    refine bodyPost_ret (v := .tuple #[.agg #[.int .i64 0, .bool false], .int .i64 5]) (by simp [results, Tryz.results111, go_sem, hk1]) rfl ⟨rfl, (HK.out.1.out.set (by show w.heap.size ≤ w.heap.size + 2; omega) _).set (by show w.heap.size ≤ w.heap.size + 2; omega) _⟩
  · cases hob : okb fb ob
    · have HOA := Aside.mk hoa
      have HOB := Aside.mk hob
      have h : (((0, false), 5) : (Int × Bool) × Int) = (x, y) := by rw [← hm]; simp [bitq, hob]
      injection h with h1 h2
      subst h1 h2
      clear hm hoa hob
      go_enter Tryz.func111, Tryz.ntmps111
      go_wp2_with (first | (go_at_call 50; with_reducible refine (isbit_b HOA.out).mono ?_; rintro e w1 ⟨rfl, he⟩; have hk1 := Keep22.ext he hk0; clear hk0 he) | (go_at_call 50; with_reducible refine (isbit_b HOB.out).mono ?_; rintro e w2 ⟨rfl, he⟩; have hk2 := Keep22.ext he hk1; clear hk1 he))
      have HK := Aside.mk hk2
      refine bodyPost_ret (v := .tuple #[.agg #[.int .i64 0, .bool false], .int .i64 5]) (by simp [results, Tryz.results111, go_sem, hk2]) rfl ⟨rfl, (HK.out.1.out.set (by show w.heap.size ≤ w.heap.size + 2; omega) _).set (by show w.heap.size ≤ w.heap.size + 2; omega) _⟩
    · have HOA := Aside.mk hoa
      have HOB := Aside.mk hob
      obtain ⟨l, hl⟩ : ∃ l, leastq fa fb = l := ⟨_, rfl⟩
      have HL := Aside.mk hl
      by_cases hz : l = 0
      · subst hz
        have h : (((0, is), 0) : (Int × Bool) × Int) = (x, y) := by rw [← hm]; simp [bitq, hoa, hob, hl, rbit]
        injection h with h1 h2
        subst h1 h2
        clear hm hoa hob hl
        go_enter Tryz.func111, Tryz.ntmps111
        go_wp2_with (first | (go_at_call 50; with_reducible refine (isbit_b HOA.out).mono ?_; rintro e w1 ⟨rfl, he⟩; have hk1 := Keep22.ext he hk0; clear hk0 he) | (go_at_call 50; with_reducible refine (isbit_b HOB.out).mono ?_; rintro e w2 ⟨rfl, he⟩; have hk2 := Keep22.ext he hk1; clear hk1 he) | (go_at_call 146; refine (least_calls (w := w2)).mono ?_; rw [HL.out]; rintro e w3 ⟨rfl, he⟩; have hk3 := Keep22.ext he hk2; clear hk2 he))
        have HK := Aside.mk hk3
        refine bodyPost_ret (v := .tuple #[.agg #[.int .i64 0, .bool is], .int .i64 0]) (by simp [results, Tryz.results111, go_sem, hk3]) rfl ⟨rfl, (HK.out.1.out.set (by show w.heap.size ≤ w.heap.size + 2; omega) _).set (by show w.heap.size ≤ w.heap.size + 2; omega) _⟩
      · have h : (((l, false), 0) : (Int × Bool) × Int) = (x, y) := by rw [← hm]; simp [bitq, hoa, hob, hl, rbit, hz]
        injection h with h1 h2
        subst h1 h2
        have hl0 : (l == 0) = false := by simp [hz]
        have hl1 : (l != 0) = true := by simp [hz]
        clear hm hoa hob hl hz
        go_enter Tryz.func111, Tryz.ntmps111
        go_wp2_with (first | (go_at_call 50; with_reducible refine (isbit_b HOA.out).mono ?_; rintro e w1 ⟨rfl, he⟩; have hk1 := Keep22.ext he hk0; clear hk0 he) | (go_at_call 50; with_reducible refine (isbit_b HOB.out).mono ?_; rintro e w2 ⟨rfl, he⟩; have hk2 := Keep22.ext he hk1; clear hk1 he) | (go_at_call 146; refine (least_calls (w := w2)).mono ?_; rw [HL.out]; rintro e w3 ⟨rfl, he⟩; have hk3 := Keep22.ext he hk2; clear hk2 he))
        have HK := Aside.mk hk3
        refine bodyPost_ret (v := .tuple #[.agg #[.int .i64 l, .bool false], .int .i64 0]) (by simp [results, Tryz.results111, go_sem, hk3]) rfl ⟨rfl, (HK.out.1.out.set (by show w.heap.size ≤ w.heap.size + 2; omega) _).set (by show w.heap.size ≤ w.heap.size + 2; omega) _⟩

set_option maxRecDepth 10000 in
set_option maxHeartbeats 1000000 in
theorem and2_calls {w : World} {fa fb : Int} {oa ob : Bool} {x : Int × Bool} {y : Int} (hm : bitq fa fb oa ob (oa && ob) = (x, y)) :
    Calls Tryz.prog 60 #[.agg #[.int .i64 fa, .bool oa], .agg #[.int .i64 fb, .bool ob]] w fun e w' => e = .returned (.tuple #[.agg #[.int .i64 x.1, .bool x.2], .int .i64 y]) ∧ Ext w w' := by
  have hk0 := Keep22.init w (.int .i64 fa) (.bool oa) (.int .i64 fb) (.bool ob) (.int .i64 0) (.bool false) 55 55 55
  cases oa
  · have HM := Aside.mk hm
    rw [Bool.false_and] at HM
    clear hm
    go_enter Tryz.func60, Tryz.ntmps60
    go_wp2_with (go_at_call 111; with_reducible refine (joined_calls HM.out).mono ?_; rintro e w1 ⟨rfl, he⟩; have hk1 := Keep22.ext he hk0; clear hk0 he)
    have HK := Aside.mk hk1
    refine bodyPost_ret (v := .tuple #[.agg #[.int .i64 x.1, .bool x.2], .int .i64 y]) (by simp [results, Tryz.results60, go_sem, hk1]) rfl ⟨rfl, (HK.out.1.out.set (by show w.heap.size ≤ w.heap.size + 2; omega) _).set (by show w.heap.size ≤ w.heap.size + 2; omega) _⟩
  · have HM := Aside.mk hm
    rw [Bool.true_and] at HM
    clear hm
    go_enter Tryz.func60, Tryz.ntmps60
    go_wp2_with (go_at_call 111; with_reducible refine (joined_calls HM.out).mono ?_; rintro e w1 ⟨rfl, he⟩; have hk1 := Keep22.ext he hk0; clear hk0 he)
    have HK := Aside.mk hk1
    refine bodyPost_ret (v := .tuple #[.agg #[.int .i64 x.1, .bool x.2], .int .i64 y]) (by simp [results, Tryz.results60, go_sem, hk1]) rfl ⟨rfl, (HK.out.1.out.set (by show w.heap.size ≤ w.heap.size + 2; omega) _).set (by show w.heap.size ≤ w.heap.size + 2; omega) _⟩
set_option maxRecDepth 10000 in
set_option maxHeartbeats 1000000 in
theorem or2_calls {w : World} {fa fb : Int} {oa ob : Bool} {x : Int × Bool} {y : Int} (hm : bitq fa fb oa ob (oa || ob) = (x, y)) :
    Calls Tryz.prog 61 #[.agg #[.int .i64 fa, .bool oa], .agg #[.int .i64 fb, .bool ob]] w fun e w' => e = .returned (.tuple #[.agg #[.int .i64 x.1, .bool x.2], .int .i64 y]) ∧ Ext w w' := by
  have hk0 := Keep22.init w (.int .i64 fa) (.bool oa) (.int .i64 fb) (.bool ob) (.int .i64 0) (.bool false) 55 55 55
  cases oa
  · have HM := Aside.mk hm
    rw [Bool.false_or] at HM
    clear hm
    go_enter Tryz.func61, Tryz.ntmps61
    go_wp2_with (go_at_call 111; with_reducible refine (joined_calls HM.out).mono ?_; rintro e w1 ⟨rfl, he⟩; have hk1 := Keep22.ext he hk0; clear hk0 he)
    have HK := Aside.mk hk1
    refine bodyPost_ret (v := .tuple #[.agg #[.int .i64 x.1, .bool x.2], .int .i64 y]) (by simp [results, Tryz.results61, go_sem, hk1]) rfl ⟨rfl, (HK.out.1.out.set (by show w.heap.size ≤ w.heap.size + 2; omega) _).set (by show w.heap.size ≤ w.heap.size + 2; omega) _⟩
  · have HM := Aside.mk hm
    rw [Bool.true_or] at HM
    clear hm
    go_enter Tryz.func61, Tryz.ntmps61
    go_wp2_with (go_at_call 111; with_reducible refine (joined_calls HM.out).mono ?_; rintro e w1 ⟨rfl, he⟩; have hk1 := Keep22.ext he hk0; clear hk0 he)
    have HK := Aside.mk hk1
    refine bodyPost_ret (v := .tuple #[.agg #[.int .i64 x.1, .bool x.2], .int .i64 y]) (by simp [results, Tryz.results61, go_sem, hk1]) rfl ⟨rfl, (HK.out.1.out.set (by show w.heap.size ≤ w.heap.size + 2; omega) _).set (by show w.heap.size ≤ w.heap.size + 2; omega) _⟩

/-- A box of two cells, and a result of two. -/
abbrev Keep2R (w : World) (x0 x1 : Value) (w' : World) : Prop :=
  Aside (Ext w w') ∧ (w'.cell? ⟨w.heap.size, 0, none⟩ = some x0 ∧ w'.cell? ⟨w.heap.size, 1, none⟩ = some x1) ∧ (Fits w' ⟨w.heap.size + 1, 0, none⟩ ∧ Fits w' ⟨w.heap.size + 1, 1, none⟩)
theorem Keep2R.ext {w w1 w2 : World} {x0 x1 : Value} (e : Ext w1 w2) (h : Keep2R w x0 x1 w1) : Keep2R w x0 x1 w2 :=
  ⟨⟨h.1.out.trans e⟩, ⟨e.cell h.2.1.1, e.cell h.2.1.2⟩, ⟨h.2.2.1.ext e, h.2.2.2.ext e⟩⟩
theorem Keep2R.init (w : World) (x0 x1 z0 z1 : Value) (t t' : TypeId) : Keep2R w x0 x1 ((w.alloc (.cells #[x0, x1] t)).alloc (.cells #[z0, z1] t')) :=
  ⟨⟨((Ext.refl w).alloc _).alloc _⟩, ⟨cell_old (cell_new rfl rfl), cell_old (cell_new rfl rfl)⟩, ⟨fits_new (v := z0) (by simp) rfl, fits_new (v := z1) (by simp) rfl⟩⟩
set_option maxRecDepth 10000 in
theorem not2_calls {w : World} {f : Int} {on : Bool} {x : Int × Bool} {y : Int} (hm : bitq f f on on (!on) = (x, y)) :
    Calls Tryz.prog 51 #[.agg #[.int .i64 f, .bool on]] w fun e w' => e = .returned (.tuple #[.agg #[.int .i64 x.1, .bool x.2], .int .i64 y]) ∧ Ext w w' := by
  have hk0 := Keep2R.init w (.int .i64 f) (.bool on) (.int .i64 0) (.bool false) 55 55
  have HM := Aside.mk hm
  clear hm
  go_enter Tryz.func51, Tryz.ntmps51
  go_wp2_with (go_at_call 111; with_reducible refine (joined_calls HM.out).mono ?_; rintro e w1 ⟨rfl, he⟩; have hk1 := Keep2R.ext he hk0; clear hk0 he)
  have HK := Aside.mk hk1
  refine bodyPost_ret (v := .tuple #[.agg #[.int .i64 x.1, .bool x.2], .int .i64 y]) (by simp [results, Tryz.results51, go_sem, hk1]) rfl ⟨rfl, (HK.out.1.out.set (by show w.heap.size ≤ w.heap.size + 1; omega) _).set (by show w.heap.size ≤ w.heap.size + 1; omega) _⟩

theorem risbit_calls {w : World} {f : Int} {on b : Bool} (hb : okb f on = b) :
    Calls Tryz.prog 48 #[.agg #[.int .i64 f, .bool on]] w fun e w' => e = .returned (.bool b) ∧ Ext w w' := by
  subst hb
  unfold okb
  cases h0 : (f == 0)
  · cases h4 : (f == 4)
    · cases h11 : (f == 11)
      · go_enter Tryz.func48, Tryz.ntmps48
        go_wp2
        go_ret
        exact ⟨by simp, (Ext.refl w).alloc _⟩
      · go_enter Tryz.func48, Tryz.ntmps48
        go_wp2
        go_ret
        exact ⟨by simp, (Ext.refl w).alloc _⟩
    · go_enter Tryz.func48, Tryz.ntmps48
      go_wp2
      go_ret
      exact ⟨by simp, (Ext.refl w).alloc _⟩
  · go_enter Tryz.func48, Tryz.ntmps48
    go_wp2
    go_ret
    exact ⟨by simp, (Ext.refl w).alloc _⟩
end Go.Proofs.YtgfkachfbnbikaaGreatDoor

namespace Go.Proofs.YtgfkachfbnbikaaGreatDoor
open Go.RowKit

set_option maxRecDepth 10000 in
theorem rnot_calls {w : World} {f : Int} {on : Bool} {x : Int × Bool} (hx : rbit f (!on) = x) :
    Calls Tryz.prog 54 #[.agg #[.int .i64 f, .bool on]] w fun e w' => e = .returned (.agg #[.int .i64 x.1, .bool x.2]) ∧ Ext w w' := by
  subst hx
  by_cases hf : f = 0
  · subst hf
    have HX : Aside (rbit 0 (!on) = (0, !on)) := ⟨rfl⟩
    rw [HX.out]
    go_enter Tryz.func54, Tryz.ntmps54
    go_wp2
    refine bodyPost_ret (v := .agg #[.int .i64 0, .bool (!on)]) (by simp [results, Tryz.results54, go_sem]) rfl ⟨rfl, ((Ext.refl w).alloc _).alloc _⟩
  · have HX : Aside (rbit f (!on) = (f, false)) := ⟨by simp [rbit, hf]⟩
    have hf0 : (f == 0) = false := beq_eq_false_iff_ne.2 hf
    have hf1 : (f != 0) = true := by simp [bne, hf0]
    rw [HX.out]
    clear hf
    go_enter Tryz.func54, Tryz.ntmps54
    go_wp2
    refine bodyPost_ret (v := .agg #[.int .i64 f, .bool false]) (by simp [results, Tryz.results54, go_sem]) rfl ⟨rfl, ((Ext.refl w).alloc _).alloc _⟩

set_option maxRecDepth 10000 in
set_option maxHeartbeats 1000000 in
theorem rand2_calls {w : World} {fa fb : Int} {oa ob : Bool} {x : Int × Bool} (hx : rbit (leastq fa fb) (oa && ob) = x) :
    Calls Tryz.prog 62 #[.agg #[.int .i64 fa, .bool oa], .agg #[.int .i64 fb, .bool ob]] w fun e w' => e = .returned (.agg #[.int .i64 x.1, .bool x.2]) ∧ Ext w w' := by
  subst hx
  obtain ⟨l, hl⟩ : ∃ l, leastq fa fb = l := ⟨_, rfl⟩
  have HL := Aside.mk hl
  rw [hl]
  by_cases hz : l = 0
  · subst hz
    have HX : Aside (rbit 0 (oa && ob) = (0, oa && ob)) := ⟨rfl⟩
    rw [HX.out]
    clear hl HX
    cases oa
    · go_enter Tryz.func62, Tryz.ntmps62
      go_wp2_with (go_at_call 65; with_reducible refine (rleast_calls HL.out).mono ?_; rintro e w' ⟨rfl, rfl⟩)
      refine bodyPost_ret (v := .agg #[.int .i64 0, .bool false]) (by simp [results, Tryz.results62, go_sem]) rfl ⟨by simp, (((Ext.refl w).alloc _).alloc _).alloc _⟩
    · go_enter Tryz.func62, Tryz.ntmps62
      go_wp2_with (go_at_call 65; with_reducible refine (rleast_calls HL.out).mono ?_; rintro e w' ⟨rfl, rfl⟩)
      refine bodyPost_ret (v := .agg #[.int .i64 0, .bool ob]) (by simp [results, Tryz.results62, go_sem]) rfl ⟨by simp, (((Ext.refl w).alloc _).alloc _).alloc _⟩
  · have HX : Aside (rbit l (oa && ob) = (l, false)) := ⟨by simp [rbit, hz]⟩
    have hl0 : (l == 0) = false := beq_eq_false_iff_ne.2 hz
    have hl1 : (l != 0) = true := by simp [bne, hl0]
    rw [HX.out]
    clear hl hz HX
    go_enter Tryz.func62, Tryz.ntmps62
    go_wp2_with (go_at_call 65; with_reducible refine (rleast_calls HL.out).mono ?_; rintro e w' ⟨rfl, rfl⟩)
    refine bodyPost_ret (v := .agg #[.int .i64 l, .bool false]) (by simp [results, Tryz.results62, go_sem]) rfl ⟨rfl, (((Ext.refl w).alloc _).alloc _).alloc _⟩
set_option maxRecDepth 10000 in
set_option maxHeartbeats 1000000 in
theorem ror2_calls {w : World} {fa fb : Int} {oa ob : Bool} {x : Int × Bool} (hx : rbit (leastq fa fb) (oa || ob) = x) :
    Calls Tryz.prog 63 #[.agg #[.int .i64 fa, .bool oa], .agg #[.int .i64 fb, .bool ob]] w fun e w' => e = .returned (.agg #[.int .i64 x.1, .bool x.2]) ∧ Ext w w' := by
  subst hx
  obtain ⟨l, hl⟩ : ∃ l, leastq fa fb = l := ⟨_, rfl⟩
  have HL := Aside.mk hl
  rw [hl]
  by_cases hz : l = 0
  · subst hz
    have HX : Aside (rbit 0 (oa || ob) = (0, oa || ob)) := ⟨rfl⟩
    rw [HX.out]
    clear hl HX
    cases oa
    · go_enter Tryz.func63, Tryz.ntmps63
      go_wp2_with (go_at_call 65; with_reducible refine (rleast_calls HL.out).mono ?_; rintro e w' ⟨rfl, rfl⟩)
      refine bodyPost_ret (v := .agg #[.int .i64 0, .bool ob]) (by simp [results, Tryz.results63, go_sem]) rfl ⟨by simp, (((Ext.refl w).alloc _).alloc _).alloc _⟩
    · go_enter Tryz.func63, Tryz.ntmps63
      go_wp2_with (go_at_call 65; with_reducible refine (rleast_calls HL.out).mono ?_; rintro e w' ⟨rfl, rfl⟩)
      refine bodyPost_ret (v := .agg #[.int .i64 0, .bool true]) (by simp [results, Tryz.results63, go_sem]) rfl ⟨by simp, (((Ext.refl w).alloc _).alloc _).alloc _⟩
  · have HX : Aside (rbit l (oa || ob) = (l, false)) := ⟨by simp [rbit, hz]⟩
    have hl0 : (l == 0) = false := beq_eq_false_iff_ne.2 hz
    have hl1 : (l != 0) = true := by simp [bne, hl0]
    rw [HX.out]
    clear hl hz HX
    go_enter Tryz.func63, Tryz.ntmps63
    go_wp2_with (go_at_call 65; with_reducible refine (rleast_calls HL.out).mono ?_; rintro e w' ⟨rfl, rfl⟩)
    refine bodyPost_ret (v := .agg #[.int .i64 l, .bool false]) (by simp [results, Tryz.results63, go_sem]) rfl ⟨rfl, (((Ext.refl w).alloc _).alloc _).alloc _⟩
end Go.Proofs.YtgfkachfbnbikaaGreatDoor

namespace Go.Proofs.YtgfkachfbnbikaaGreatDoor
open Go.RowKit

/-- The greatest whole number that is not greater. -/
def floorq (n : Bool) (x y : Nat) : Rq := ratio n (if n = true ∧ 0 < x % y then x / y + 1 else x / y) 1
theorem lit1n {w : World} {n : Nat} (hs : w.heap.size = n) : NV (w.alloc (.cells #[.int .u32 1] 46)) (.slice (some ⟨n, 0, none⟩) 1 1) 1 := by
  subst hs
  have h := OV.lit w [1] (by simp) (Ds.cons (by decide) Ds.nil)
  simp only [u32s, List.map_cons, List.map_nil, List.length_cons, List.length_nil] at h
  exact ⟨by rw [dig_one]; exact h.rv, by rw [dig_one]; simp⟩
theorem KeepM.far {w w1 : World} {x0 x1 x2 x3 y0 y1 y2 y3 : Value} (h : KeepM w x0 x1 x2 x3 y0 y1 y2 y3 w1) {g : Nat} (hg : w.heap.size + 2 < g) (j : Nat) (v : Value) : KeepM w x0 x1 x2 x3 y0 y1 y2 y3 (w1.setCell ⟨g, j, none⟩ v) :=
  ⟨⟨h.1.out.set (show w.heap.size ≤ g by omega) v⟩, ⟨cell_other h.2.1.1 (by omega), cell_other h.2.1.2.1 (by omega), cell_other h.2.1.2.2.1 (by omega), cell_other h.2.1.2.2.2 (by omega)⟩, ⟨cell_other h.2.2.1.1 (by omega), cell_other h.2.2.1.2.1 (by omega), cell_other h.2.2.1.2.2.1 (by omega), cell_other h.2.2.1.2.2.2 (by omega)⟩,
    ⟨h.2.2.2.1.set _ _, h.2.2.2.2.1.set _ _, h.2.2.2.2.2.1.set _ _, h.2.2.2.2.2.2.set _ _⟩⟩
theorem plus_tt {w : World} {x y : Value} {a b m : Nat} (hx : NV w x a) (hy : NV w y b) (hm : a + b = m) :
    Calls Tryz.prog 105 #[.agg #[.bool true, x], .agg #[.bool true, y]] w fun e w' => ∃ r, e = .returned (.agg #[.bool true, r]) ∧ OV w.heap.size w' r (dig m) ∧ Ext w w' := by
  have h := whole_plus (n1 := true) (n2 := true) hx hy
  have e : ssum true a true b = (true, m) := by simp [ssum, hm]
  rw [e] at h
  exact h
theorem dig_div {x y : Nat} (h : (dig x).length ≤ 128) : (dig (x / y)).length ≤ 128 := Nat.le_trans (dig_len_mono (Nat.div_le_self _ _)) h
theorem dig_div1 {x y : Nat} (h : (dig x).length ≤ 128) : (dig (x / y + 1)).length ≤ 129 := len_add (dig_div h) (by rw [dig_one]; simp)
theorem dig_mod {x y : Nat} : (0 < x % y → 0 < (dig (x % y)).length) ∧ (x % y = 0 → (dig (x % y)).length = 0) :=
  ⟨fun h => dig_length_pos h, fun h => by rw [h, dig_zero]; rfl⟩

set_option maxRecDepth 10000 in
set_option maxHeartbeats 1000000 in
theorem floor1_calls {w : World} {u v : Value} {a b : Rq} {x y : Nat} (hu : RR w u a) (hv : RR w v b) (ka : IsNum a x y) :
    Calls Tryz.prog 103 #[u, v] w fun e w' => ∃ r, e = .returned r ∧ RO w.heap.size w' r (floorq a.neg x y) ∧ Ext w w' := by
  obtain ⟨q, hq⟩ : ∃ q, floorq a.neg x y = q := ⟨_, rfl⟩
  rw [hq]
  obtain ⟨sx, sy, rfl, hx, hy⟩ := hu.num ka
  obtain ⟨C, cc, D, cd, rfl⟩ := hv.form
  dsimp only at *
  have HX := Aside.mk (NV.of hx (by have := ka.la; omega))
  have HY := Aside.mk (NV.of hy (by have := ka.lb; omega))
  have HY0 := Aside.mk ka.pos
  have HL1 : Aside ((dig (x / y)).length ≤ 512) := ⟨Nat.le_trans (dig_div ka.la) (by decide)⟩
  have HL2 : Aside ((dig (x / y + 1)).length ≤ 512) := ⟨Nat.le_trans (dig_div1 ka.la) (by decide)⟩
  have hmod := @dig_mod x y
  obtain ⟨A, ca, rfl, _⟩ := hx
  obtain ⟨B, cb, rfl, _⟩ := hy
  clear hu hv ka
  generalize (dig x).length = lxa at *
  generalize (dig y).length = lya at *
  generalize b.num.length = lxb at *
  generalize b.den.length = lyb at *
  generalize a.f = f1 at *
  generalize a.neg = n1 at *
  generalize b.f = f2 at *
  generalize b.neg = n2 at *
  have hk0 := KeepM.init w (.int .i64 f1) (.bool n1) (.slice A lxa ca) (.slice B lya cb) (.int .i64 f2) (.bool n2) (.slice C lxb cc) (.slice D lyb cd) (.int .i64 0) (.bool false) (.slice none 0 0) (.slice none 0 0) 26 26 26
  obtain ⟨m1, hm1⟩ : ∃ n, (dig (x / y)).length = n := ⟨_, rfl⟩
  obtain ⟨m2, hm2⟩ : ∃ n, (dig (x % y)).length = n := ⟨_, rfl⟩
  rw [hm2] at hmod
  have HM1 := Aside.mk hm1
  have HM2 := Aside.mk hm2
  cases n1
  · have HQ : Aside (ratio false (x / y) 1 = q) := ⟨by rw [← hq]; rfl⟩
    clear hq hmod hm1 hm2
    go_enter Tryz.func103, Tryz.ntmps103
    go_wp2_with (first | (go_at_call 104; with_reducible refine (Div_calls (HX.out.ext hk0.1.out) (HY.out.ext hk0.1.out) HY0.out).mono ?_; rintro e w1 ⟨s, r, rfl, hs, hr, he⟩; have hk1 := KeepM.ext he hk0; have hz : w.heap.size + 2 < w1.heap.size := World.block_lt_of_cell? _ _ hk1.2.2.2.1.1; have HZ := Aside.mk hz; have HS1 := Aside.mk hs.rv; obtain ⟨A1, c1, rfl, _⟩ := hs.form; obtain ⟨A2, c2, rfl, _⟩ := hr.form; clear hk0 hs hr he; (rw [HM1.out] at HS1 ⊢); rw [HM2.out]; have hka := KeepM.ext ((Ext.refl _).alloc (.cells #[.bool false, .slice A1 m1 c1] 76)) hk1) | (go_at_call 67; with_reducible refine (quotient_q (NV.of (HS1.out.ext (((Ext.refl _).alloc _).alloc _)) HL1.out) ?hl HQ.out).mono ?_; (case hl => exact lit1n (by simp)); rintro e w3 ⟨r, rfl, hr, he⟩; have hk3 := KeepM.ext ((((Ext.refl _).alloc _).alloc _).trans he) hk1; have HR3 := Aside.mk hr; obtain ⟨A3, c3, B3, d3, rfl⟩ := hr.form; clear hk1 hka hr he))
    have HK := Aside.mk hk3
    refine bodyPost_ret (v := .agg #[.int .i64 q.f, .bool q.neg, .slice A3 q.num.length c3, .slice B3 q.den.length d3]) (by simp [results, Tryz.results103, go_sem, hk3]) rfl ⟨_, rfl, (HR3.out.set4 (by have := HZ.out; simp; omega) _ _ _ _).mono (by have := HZ.out; simp; omega), ext_set4 HK.out.1.out (by omega) _ _ _ _⟩
  · rcases Nat.eq_zero_or_pos (x % y) with h0 | h0
    · have HQ : Aside (ratio true (x / y) 1 = q) := ⟨by rw [← hq]; unfold floorq; rw [if_neg (by omega)]⟩
      have hm20 := hmod.2 h0
      have HM2' : Aside ((dig (x % y)).length = 0) := ⟨by rw [HM2.out]; exact hm20⟩
      clear hq hmod hm1 hm2 h0 hm20
      go_enter Tryz.func103, Tryz.ntmps103
      go_wp2_with (first | (go_at_call 104; with_reducible refine (Div_calls (HX.out.ext hk0.1.out) (HY.out.ext hk0.1.out) HY0.out).mono ?_; rintro e w1 ⟨s, r, rfl, hs, hr, he⟩; have hk1 := KeepM.ext he hk0; have hz : w.heap.size + 2 < w1.heap.size := World.block_lt_of_cell? _ _ hk1.2.2.2.1.1; have HZ := Aside.mk hz; have HS1 := Aside.mk hs.rv; obtain ⟨A1, c1, rfl, _⟩ := hs.form; obtain ⟨A2, c2, rfl, _⟩ := hr.form; clear hk0 hs hr he; (rw [HM1.out] at HS1 ⊢); rw [HM2'.out]; have hka := KeepM.ext ((Ext.refl _).alloc (.cells #[.bool true, .slice A1 m1 c1] 76)) hk1) | (go_at_call 67; with_reducible refine (quotient_q (NV.of (HS1.out.ext (((Ext.refl _).alloc _).alloc _)) HL1.out) ?hl HQ.out).mono ?_; (case hl => exact lit1n (by simp)); rintro e w3 ⟨r, rfl, hr, he⟩; have hk3 := KeepM.ext ((((Ext.refl _).alloc _).alloc _).trans he) hk1; have HR3 := Aside.mk hr; obtain ⟨A3, c3, B3, d3, rfl⟩ := hr.form; clear hk1 hka hr he))
      have HK := Aside.mk hk3
      refine bodyPost_ret (v := .agg #[.int .i64 q.f, .bool q.neg, .slice A3 q.num.length c3, .slice B3 q.den.length d3]) (by simp [results, Tryz.results103, go_sem, hk3]) rfl ⟨_, rfl, (HR3.out.set4 (by have := HZ.out; simp; omega) _ _ _ _).mono (by have := HZ.out; simp; omega), ext_set4 HK.out.1.out (by omega) _ _ _ _⟩
    · obtain ⟨m, hm⟩ : ∃ m, x / y + 1 = m := ⟨_, rfl⟩
      have HM := Aside.mk hm
      rw [hm] at HL2
      have HQ : Aside (ratio true m 1 = q) := ⟨by rw [← hq]; unfold floorq; rw [if_pos ⟨rfl, h0⟩, hm]⟩
      have hm20 : (0 : Int) < (m2 : Int) := by have := hmod.1 h0; omega
      clear hq hmod hm1 hm2 h0 hm
      go_enter Tryz.func103, Tryz.ntmps103
      go_wp2_with (first | (go_at_call 104; with_reducible refine (Div_calls (HX.out.ext hk0.1.out) (HY.out.ext hk0.1.out) HY0.out).mono ?_; rintro e w1 ⟨s, r, rfl, hs, hr, he⟩; have hk1 := KeepM.ext he hk0; have hz : w.heap.size + 2 < w1.heap.size := World.block_lt_of_cell? _ _ hk1.2.2.2.1.1; have HZ := Aside.mk hz; have HS1 := Aside.mk hs.rv; obtain ⟨A1, c1, rfl, _⟩ := hs.form; obtain ⟨A2, c2, rfl, _⟩ := hr.form; clear hk0 hs hr he; (rw [HM1.out] at HS1 ⊢); rw [HM2.out]; have hka := KeepM.ext ((Ext.refl _).alloc (.cells #[.bool true, .slice A1 m1 c1] 76)) hk1) | (go_at_call 105; with_reducible refine (plus_tt (NV.of (HS1.out.ext (((Ext.refl _).alloc _).alloc _)) HL1.out) ?hl HM.out).mono ?_; (case hl => exact lit1n (by simp)); rintro e w2 ⟨r, rfl, hr, he⟩; have hk2 := KeepM.ext ((((Ext.refl _).alloc _).alloc _).trans he) hk1; have hb0 : Fits w2 ⟨w1.heap.size, 0, none⟩ := ((fits_new (v := .bool true) rfl rfl).ext ((Ext.refl _).alloc _)).ext he; have hb1 : Fits w2 ⟨w1.heap.size, 1, none⟩ := ((fits_new (v := .slice A1 m1 c1) rfl rfl).ext ((Ext.refl _).alloc _)).ext he; have HR2 := Aside.mk hr; obtain ⟨A4, c4, rfl, _⟩ := hr.form; clear hk1 hka hr he) | (go_at_call 67; with_reducible refine (quotient_q (NV.of ((((HR2.out.set ?p0 _).set ?p1 _).rv).ext ((Ext.refl _).alloc _)) HL2.out) ?hl HQ.out).mono ?_; (case p0 => simp; omega); (case p1 => simp; omega); (case hl => exact lit1n (by simp)); rintro e w3 ⟨r, rfl, hr, he⟩; have hk3 := KeepM.ext (((Ext.refl _).alloc _).trans he) ((hk2.far HZ.out _ _).far HZ.out _ _); have HSZ := Aside.mk (World.block_lt_of_cell? _ _ hk2.2.2.2.1.1); have HR3 := Aside.mk hr; obtain ⟨A3, c3, B3, d3, rfl⟩ := hr.form; clear hk2 hr he))
      have HK := Aside.mk hk3
      have hsz : w.heap.size + 2 < w2.heap.size := HSZ.out
      refine bodyPost_ret (v := .agg #[.int .i64 q.f, .bool q.neg, .slice A3 q.num.length c3, .slice B3 q.den.length d3]) (by simp [results, Tryz.results103, go_sem, hk3]) rfl ⟨_, rfl, (HR3.out.set4 (by simp; omega) _ _ _ _).mono (by simp; omega), ext_set4 HK.out.1.out (by omega) _ _ _ _⟩

theorem floor_by (a : Rq) : MadeBy 103 a a (floorq a.neg (val a.num) (val a.den)) where
  runs := by intro args w; simp [go_sem]
  calls := by
    intro w u v ha hb h1 _ h3
    exact floor1_calls ha hb (okq_ds h1 (leastq_zero h3).1 ha.ds)
set_option maxRecDepth 10000 in
set_option maxHeartbeats 1000000 in
/-- Floor: the greatest whole number that is not greater, or the fault, or the error. -/
theorem Floor2_calls {w : World} {u : Value} {a : Rq} (ha : RR w u a) {m : Rq × Int} (hm : madeq a a (floorq a.neg (val a.num) (val a.den)) = m) :
    Calls Tryz.prog 45 #[u] w fun e w' => ∃ r, e = .returned (.tuple #[r, .int .i64 m.2]) ∧ RO w.heap.size w' r m.1 ∧ Ext w w' := by
  have HA := Aside.mk ha
  have HM := Aside.mk hm
  obtain ⟨A, ca, B, cb, rfl⟩ := ha.form
  have hk0 := KeepBR.init w (.int .i64 a.f) (.bool a.neg) (.slice A a.num.length ca) (.slice B a.den.length cb) (.int .i64 0) (.bool false) (.slice none 0 0) (.slice none 0 0) 26 26
  clear ha hm
  go_enter Tryz.func45, Tryz.ntmps45
  go_wp2_with (go_at_call 94; refine ((floor_by a).mk_ (HA.out.ext hk0.1.out) (HA.out.ext hk0.1.out) hk0.1.out HM.out).mono ?_; rintro e w3 ⟨r, rfl, hr, he⟩; have hz : w.heap.size + 1 < _ := World.block_lt_of_cell? _ _ hk0.2.2.1.1; have hk3 := KeepBR.ext he hk0; have HR3 := Aside.mk hr; have HZ := Aside.mk hz; obtain ⟨A3, c3, B3, d3, rfl⟩ := hr.form; clear hk0 hr he hz)
  have HK := Aside.mk hk3
  refine bodyPost_ret (v := .tuple #[.agg #[.int .i64 m.1.f, .bool m.1.neg, .slice A3 m.1.num.length c3, .slice B3 m.1.den.length d3], .int .i64 m.2]) (by simp [results, Tryz.results45, go_sem, hk3]) rfl ⟨_, rfl, (HR3.out.set4 HZ.out _ _ _ _).mono (by have := HZ.out; omega), ext_set4 HK.out.1.out (by omega) _ _ _ _⟩

theorem rdiv_q {w : World} {u v : Value} {a b x y : Nat} (hu : RV w u (dig a)) (hv : RV w v (dig b)) (hb : 0 < b) (hbl : (dig b).length < 1073741824) (hx : a / b = x) (hy : a % b = y) :
    Calls Tryz.prog 112 #[u, v] w fun e w' => ∃ q r, e = .returned (.tuple #[q, r]) ∧ OV w.heap.size w' q (dig x) ∧ OV w.heap.size w' r (dig y) ∧ Ext w w' := by
  subst hx hy; exact rdiv_calls hu hv hb hbl
set_option maxRecDepth 10000 in
set_option maxHeartbeats 1000000 in
theorem rFloor_calls {w : World} {u : Value} {a q : Rq} (hu : RR w u a) (ka : okq a = true) (hq : (madeq a a (floorq a.neg (val a.num) (val a.den))).1 = q) :
    Calls Tryz.prog 53 #[u] w fun e w' => ∃ r, e = .returned r ∧ RO w.heap.size w' r q ∧ Ext w w' := by
  rw [madeq_self ka] at hq
  have hds := hu.ds
  obtain ⟨x, y, rfl, hx, hy⟩ := hu
  obtain ⟨f, n, xs, ys⟩ := a
  dsimp only at *
  have HX := Aside.mk hx
  have HY := Aside.mk hy
  obtain ⟨A, ca, rfl, _⟩ := hx
  obtain ⟨B, cb, rfl, _⟩ := hy
  obtain ⟨lx, e1⟩ : ∃ n, xs.length = n := ⟨_, rfl⟩
  obtain ⟨ly, e2⟩ : ∃ n, ys.length = n := ⟨_, rfl⟩
  rw [e1] at HX
  rw [e2] at HY
  rw [e1, e2]
  have hk0 := KeepBR.init w (.int .i64 f) (.bool n) (.slice A lx ca) (.slice B ly cb) (.int .i64 0) (.bool false) (.slice none 0 0) (.slice none 0 0) 26 26
  by_cases hf : f = 0
  · have k := okq_ds ka hf hds
    subst hf
    rw [if_pos rfl] at hq
    dsimp only at k
    have HX' : Aside (RV w (.slice A lx ca) (dig (val xs))) := ⟨HX.out.eq' k.num⟩
    have HY' : Aside (RV w (.slice B ly cb) (dig (val ys))) := ⟨HY.out.eq' k.den⟩
    have HP := Aside.mk k.pos
    have HLY : Aside ((dig (val ys)).length < 1073741824) := ⟨Nat.lt_of_le_of_lt k.lb (by decide)⟩
    have hmod := @dig_mod (val xs) (val ys)
    obtain ⟨d, hd⟩ : ∃ d, val xs / val ys = d := ⟨_, rfl⟩
    obtain ⟨m, hm⟩ : ∃ m, val xs % val ys = m := ⟨_, rfl⟩
    have HD := Aside.mk hd
    have HM := Aside.mk hm
    have hld : (dig d).length ≤ 128 := hd ▸ dig_div k.la
    have HLD : Aside ((dig d).length < 1073741824) := ⟨Nat.lt_of_le_of_lt hld (by decide)⟩
    have HLA : Aside ((dig (d + 1)).length < 1073741824) := ⟨Nat.lt_of_le_of_lt (hd ▸ dig_div1 k.la) (by decide)⟩
    have HL1 : Aside ((dig 1).length < 1073741824) := ⟨by rw [dig_one]; decide⟩
    unfold floorq at hq
    rw [hd, hm] at hq
    rw [hm] at hmod
    obtain ⟨md, hmd⟩ : ∃ l, (dig d).length = l := ⟨_, rfl⟩
    obtain ⟨mm, hmm⟩ : ∃ l, (dig m).length = l := ⟨_, rfl⟩
    rw [hmm] at hmod
    have HMD := Aside.mk hmd
    have HMM := Aside.mk hmm
    cases n
    · have HQ : Aside (ratio false d 1 = q) := ⟨by rw [← hq, if_neg (by simp)]⟩
      clear hq k ka hds e1 e2 hmod hd hm hld hmd hmm
      go_enter Tryz.func53, Tryz.ntmps53
      go_wp2_with (go_at_call 112; with_reducible refine (rdiv_q (HX'.out.ext hk0.1.out) (HY'.out.ext hk0.1.out) HP.out HLY.out HD.out HM.out).mono ?_; rintro e w1 ⟨s, r, rfl, hs, hr, he⟩; have hk1 := KeepBR.ext he hk0; have HR1 := Aside.mk hs.rv; obtain ⟨A1, c1, rfl, _⟩ := hs.form; obtain ⟨A2, c2, rfl, _⟩ := hr.form; clear hk0 hs hr he; (rw [HMD.out] at HR1 ⊢); rw [HMM.out])
      have hkd := KeepBR.ext ((Ext.refl _).drew) hk1
      go_region_held (fun w' => KeepBR w (.int .i64 0) (.bool false) (.slice A lx ca) (.slice B ly cb) w') (first | assumption | exact KeepBR.ext (by assumption) (by assumption) | exact (((KeepBR.set (by assumption) _ _).set _ _).set _ _).set _ _) (first | (go_at_call 90; with_reducible refine rone_calls.mono ?_; rintro e w5 ⟨r, rfl, hr, he5⟩; have HR5 := Aside.mk hr.rv; have HE5 := Aside.mk he5; obtain ⟨A5, c5, rfl, _⟩ := hr.form; clear hr) | (go_at_call 24; with_reducible refine (rratio_calls ((HR1.out.ext (Ext.refl _).drew).ext HE5.out) HR5.out HLD.out HL1.out HQ.out).mono ?_; rintro e w6 ⟨r, rfl, hr, he6⟩; have HR6 := Aside.mk hr; obtain ⟨A6, c6, B6, d6, rfl⟩ := hr.form; clear hr))
      have hk5 := KeepBR.ext he5 hkd
      have hk6 := KeepBR.ext he6 hk5
      have hz : w.heap.size + 1 < w5.heap.size := World.block_lt_of_cell? _ _ hk5.2.2.1.1
      have HK := Aside.mk hk6
      have HZ := Aside.mk hz
      clear hk5 hkd hz
      go_wp2
      refine bodyPost_ret (v := .agg #[.int .i64 q.f, .bool q.neg, .slice A6 q.num.length c6, .slice B6 q.den.length d6]) (by simp [results, Tryz.results53, go_sem, hk6]) rfl ⟨_, rfl, (HR6.out.set4 HZ.out _ _ _ _).mono (by have := HZ.out; omega), ext_set4 HK.out.1.out (by omega) _ _ _ _⟩
    · rcases Nat.eq_zero_or_pos m with h0 | h0
      · have HQ : Aside (ratio true d 1 = q) := ⟨by rw [← hq, if_neg (by omega)]⟩
        have h20 := hmod.2 h0
        subst h20
        clear hq k ka hds e1 e2 hmod hd hm hld hmd hmm h0
        go_enter Tryz.func53, Tryz.ntmps53
        go_wp2_with (go_at_call 112; with_reducible refine (rdiv_q (HX'.out.ext hk0.1.out) (HY'.out.ext hk0.1.out) HP.out HLY.out HD.out HM.out).mono ?_; rintro e w1 ⟨s, r, rfl, hs, hr, he⟩; have hk1 := KeepBR.ext he hk0; have HR1 := Aside.mk hs.rv; obtain ⟨A1, c1, rfl, _⟩ := hs.form; obtain ⟨A2, c2, rfl, _⟩ := hr.form; clear hk0 hs hr he; (rw [HMD.out] at HR1 ⊢); rw [HMM.out])
        have hkd := KeepBR.ext ((Ext.refl _).drew) hk1
        go_region_held (fun w' => KeepBR w (.int .i64 0) (.bool true) (.slice A lx ca) (.slice B ly cb) w') (first | assumption | exact KeepBR.ext (by assumption) (by assumption) | exact (((KeepBR.set (by assumption) _ _).set _ _).set _ _).set _ _) (first | (go_at_call 90; with_reducible refine rone_calls.mono ?_; rintro e w5 ⟨r, rfl, hr, he5⟩; have HR5 := Aside.mk hr.rv; have HE5 := Aside.mk he5; obtain ⟨A5, c5, rfl, _⟩ := hr.form; clear hr) | (go_at_call 24; with_reducible refine (rratio_calls ((HR1.out.ext (Ext.refl _).drew).ext HE5.out) HR5.out HLD.out HL1.out HQ.out).mono ?_; rintro e w6 ⟨r, rfl, hr, he6⟩; have HR6 := Aside.mk hr; obtain ⟨A6, c6, B6, d6, rfl⟩ := hr.form; clear hr))
        have hk5 := KeepBR.ext he5 hkd
        have hk6 := KeepBR.ext he6 hk5
        have hz : w.heap.size + 1 < w5.heap.size := World.block_lt_of_cell? _ _ hk5.2.2.1.1
        have HK := Aside.mk hk6
        have HZ := Aside.mk hz
        clear hk5 hkd hz
        go_wp2
        refine bodyPost_ret (v := .agg #[.int .i64 q.f, .bool q.neg, .slice A6 q.num.length c6, .slice B6 q.den.length d6]) (by simp [results, Tryz.results53, go_sem, hk6]) rfl ⟨_, rfl, (HR6.out.set4 HZ.out _ _ _ _).mono (by have := HZ.out; omega), ext_set4 HK.out.1.out (by omega) _ _ _ _⟩
      · have HQ : Aside (ratio true (d + 1) 1 = q) := ⟨by rw [← hq, if_pos ⟨rfl, h0⟩]⟩
        have h20 : (0 : Int) < (mm : Int) := by have := hmod.1 h0; omega
        clear hq k ka hds e1 e2 hmod hd hm hld hmd hmm h0
        go_enter Tryz.func53, Tryz.ntmps53
        go_wp2_with (first | (go_at_call 112; with_reducible refine (rdiv_q (HX'.out.ext hk0.1.out) (HY'.out.ext hk0.1.out) HP.out HLY.out HD.out HM.out).mono ?_; rintro e w1 ⟨s, r, rfl, hs, hr, he⟩; have hk1 := KeepBR.ext he hk0; have HR1 := Aside.mk hs.rv; obtain ⟨A1, c1, rfl, _⟩ := hs.form; obtain ⟨A2, c2, rfl, _⟩ := hr.form; clear hk0 hs hr he; (rw [HMD.out] at HR1 ⊢); rw [HMM.out]) | (go_at_call 90; with_reducible refine rone_calls.mono ?_; rintro e w2 ⟨r, rfl, hr, he⟩; have hk2 := KeepBR.ext he hk1; have HR2 := Aside.mk hr.rv; have HR1' := Aside.mk (HR1.out.ext he); obtain ⟨A4, c4, rfl, _⟩ := hr.form; clear hk1 hr he) | (go_at_call 113; with_reducible refine (radd_n HR1'.out HR2.out HLD.out HL1.out rfl).mono ?_; rintro e w3 ⟨r, rfl, hr, he⟩; have hk3 := KeepBR.ext he hk2; have HR3 := Aside.mk hr.rv; obtain ⟨A3, c3, rfl, _⟩ := hr.form; clear hk2 hr he))
        have hkd := KeepBR.ext ((Ext.refl _).drew) hk3
        go_region_held (fun w' => KeepBR w (.int .i64 0) (.bool true) (.slice A lx ca) (.slice B ly cb) w') (first | assumption | exact KeepBR.ext (by assumption) (by assumption) | exact (((KeepBR.set (by assumption) _ _).set _ _).set _ _).set _ _) (first | (go_at_call 90; with_reducible refine rone_calls.mono ?_; rintro e w5 ⟨r, rfl, hr, he5⟩; have HR5 := Aside.mk hr.rv; have HE5 := Aside.mk he5; obtain ⟨A5, c5, rfl, _⟩ := hr.form; clear hr) | (go_at_call 24; with_reducible refine (rratio_calls ((HR3.out.ext (Ext.refl _).drew).ext HE5.out) HR5.out HLA.out HL1.out HQ.out).mono ?_; rintro e w6 ⟨r, rfl, hr, he6⟩; have HR6 := Aside.mk hr; obtain ⟨A6, c6, B6, d6, rfl⟩ := hr.form; clear hr))
        have hk5 := KeepBR.ext he5 hkd
        have hk6 := KeepBR.ext he6 hk5
        have hz : w.heap.size + 1 < w5.heap.size := World.block_lt_of_cell? _ _ hk5.2.2.1.1
        have HK := Aside.mk hk6
        have HZ := Aside.mk hz
        clear hk5 hkd hz
        go_wp2
        refine bodyPost_ret (v := .agg #[.int .i64 q.f, .bool q.neg, .slice A6 q.num.length c6, .slice B6 q.den.length d6]) (by simp [results, Tryz.results53, go_sem, hk6]) rfl ⟨_, rfl, (HR6.out.set4 HZ.out _ _ _ _).mono (by have := HZ.out; omega), ext_set4 HK.out.1.out (by omega) _ _ _ _⟩
  · rw [if_neg hf] at hq
    subst hq
    have hf0 : (f == 0) = false := beq_eq_false_iff_ne.2 hf
    have hf1 : (f != 0) = true := by simp [bne, hf0]
    clear ka hds e1 e2 hf
    go_enter Tryz.func53, Tryz.ntmps53
    go_wp2_with (go_at_call 64; with_reducible refine rfault_calls.mono ?_; rintro e w1 ⟨rfl, he⟩; have hk1 := KeepBR.ext he hk0; clear hk0 he)
    have HK := Aside.mk hk1
    refine bodyPost_ret (v := .agg #[.int .i64 f, .bool false, .slice none 0 0, .slice none 0 0]) (by simp [results, Tryz.results53, go_sem, hk1]) rfl ⟨_, rfl, RO.fq _ _ _, ext_set4 HK.out.1.out (by omega) _ _ _ _⟩
end Go.Proofs.YtgfkachfbnbikaaGreatDoor
