/- Contracts of fluxionref03: IsValue. Contracts of fluxionref03: Show. -/
import Derived.Test.YtcbaipnphepbeaaGreatDoorNr
import Derived.Test.YtcbaipnphepbeaaGreatDoorNq
import Derived.Test.YtcbaipnphepbeaaGreatDoorNj
namespace Go.Proofs.YtcbaipnphepbeaaGreatDoor
open Go.RowKit
attribute [local go_sem ↓] Go.wp_at_zero Go.wp_at_succ

def anyNum (l : List Rq) : Bool := l.any fun q => !okq q
def anyBit (l : List Bq) : Bool := l.any fun b => !okb b.f b.on
theorem anyNum_snoc {l : List Rq} {j : Nat} {q : Rq} {b : Bool} (h : anyNum (l.take j) = false) (hq : l[j]? = some q) (hb : okq q = b) : anyNum (l.take (j + 1)) = !b := by
  unfold anyNum at *
  rw [List.take_add_one, hq, List.any_append, h]; simp [hb]
theorem anyBit_snoc {l : List Bq} {j : Nat} {q : Bq} {b : Bool} (h : anyBit (l.take j) = false) (hq : l[j]? = some q) (hb : okb q.f q.on = b) : anyBit (l.take (j + 1)) = !b := by
  unfold anyBit at *
  rw [List.take_add_one, hq, List.any_append, h]; simp [hb]
theorem any_take {α : Type} {l : List α} {p : α → Bool} {j : Nat} (h : (l.take j).any p = true) : l.any p = true := by
  obtain ⟨x, hx, hp⟩ := List.any_eq_true.1 h
  exact List.any_eq_true.2 ⟨x, List.mem_of_mem_take hx, hp⟩
theorem valOk_not {v : Vq} (h : (tyOk v.k v.ds && (v.k != 3)) = false) : valOk v = false := by
  unfold valOk
  by_cases ht : tyOk v.k v.ds = true
  · rw [ht] at h
    have h3 : v.k = 3 := by simpa using h
    rw [h3]; simp
  · rw [Bool.not_eq_true] at ht
    rw [ht]; rfl
theorem valOk_num {ds : List Int} {nums : List Rq} {bits : List Bq} (h : tyOk 1 ds = true) : valOk ⟨1, ds, nums, bits⟩ = (((nums.length : Int) == prodI ds) && ((bits.length : Int) == 0) && !(anyNum nums)) := by
  unfold valOk anyNum
  dsimp only
  rw [h, if_pos rfl, Bool.true_and]
theorem valOk_bit {ds : List Int} {nums : List Rq} {bits : List Bq} (h : tyOk 2 ds = true) : valOk ⟨2, ds, nums, bits⟩ = (((bits.length : Int) == prodI ds) && ((nums.length : Int) == 0) && !(anyBit bits)) := by
  unfold valOk anyBit
  dsimp only
  rw [h, if_neg (by decide), if_pos rfl, Bool.true_and]
set_option maxRecDepth 10000 in
set_option maxHeartbeats 4000000 in
theorem rIsValue_calls {w : World} {x : Value} {v : Vq} {t : Bool} (h : VV w x v) (ht : valOk v = t) :
    Calls Tryz.prog 14 #[x] w fun e w' => e = .returned (.bool t) ∧ Ext w w' := by
  obtain ⟨d, n, b, rfl, hd, hn, hb⟩ := h
  obtain ⟨k, ds, nums, bits⟩ := v
  dsimp only at hd hn hb ⊢
  have HTV : Aside (TV w (.agg #[.int .i64 k, d]) k ds) := ⟨_, rfl, hd⟩
  have HN := Aside.mk hn
  have HB := Aside.mk hb
  obtain ⟨D, cd, rfl, _⟩ := hd.form
  obtain ⟨A, ca, rfl, hc, hl⟩ := hn.form
  obtain ⟨B, cb, rfl, hc2, hl2⟩ := hb.form
  obtain ⟨nd, hnd⟩ : ∃ n, ds.length = n := ⟨_, rfl⟩
  rw [hnd] at HTV ⊢
  have hk0 := KeepB.init w (.int .i64 k) (.slice D nd cd) (.slice A nums.length ca) (.slice B bits.length cb) 29
  obtain ⟨t0, ht0⟩ : ∃ t, tyOk k ds = t := ⟨_, rfl⟩
  obtain ⟨h0, hh0⟩ : ∃ b, (t0 && (k != 3)) = b := ⟨_, rfl⟩
  have HT := Aside.mk ht0
  have HH := Aside.mk hh0
  clear hd hn hb hnd
  cases h0
  · have HV : Aside (t = false) := ⟨by rw [← ht]; exact valOk_not (by dsimp only; rw [ht0]; exact hh0)⟩
    clear ht ht0 hh0
    generalize nums.length = ln at *
    generalize bits.length = lb at *
    go_enter Tryz.func14, Tryz.ntmps14
    go_wp2_with (first | (go_at_call 56; (with_reducible refine (rHeld_calls (HTV.out.ext hk0.1.out) HT.out HH.out).mono ?_); rintro e w1 ⟨rfl, he⟩; replace hk0 := KeepB.ext he hk0; clear he) | (go_at_call 40; (with_reducible refine (rSize_calls (HTV.out.ext hk0.1.out) HD.out).mono ?_); rw [HP.out]; rintro e w1 ⟨rfl, he⟩; replace hk0 := KeepB.ext he hk0; clear he))
    go_ret
    exact ⟨by rw [HV.out]; rfl, hk0.1.out⟩
  · have ht1 : t0 = true := by
      cases t0
      · cases hh0
      · rfl
    subst ht1
    have HD := Aside.mk (tyOk_dims ht0)
    obtain ⟨p, hp⟩ : ∃ p, prodI ds = p := ⟨_, rfl⟩
    have HP := Aside.mk hp
    have hk12 : k = 1 ∨ k = 2 := by
      have h3 : k ≠ 3 := by simpa using hh0
      have := ht0
      unfold tyOk at this
      by_cases h12 : k = 1 ∨ k = 2
      · exact h12
      · rw [if_neg h12, if_neg h3] at this; simp at this
    clear hh0
    rcases hk12 with rfl | rfl
    · rw [valOk_num ht0, hp] at ht
      obtain ⟨b1, hb1⟩ : ∃ b, ((nums.length : Int) == p) = b := ⟨_, rfl⟩
      obtain ⟨b2, hb2⟩ : ∃ b, ((bits.length : Int) == 0) = b := ⟨_, rfl⟩
      rw [hb1, hb2] at ht
      have HT1 := Aside.mk ht
      obtain ⟨ln, hln⟩ : ∃ n, nums.length = n := ⟨_, rfl⟩
      have HLN := Aside.mk hln
      rw [hln] at hb1 hk0 hc hl ⊢
      clear ht ht0 hp hln
      generalize bits.length = lb at *
      cases b1
      · have HV : Aside (t = false) := ⟨by rw [← HT1.out]; rfl⟩
        have hb1' : ((ln : Int) != p) = true := by simp [bne, hb1]
        go_enter Tryz.func14, Tryz.ntmps14
        go_wp2_with (first | (go_at_call 56; (with_reducible refine (rHeld_calls (HTV.out.ext hk0.1.out) HT.out HH.out).mono ?_); rintro e w1 ⟨rfl, he⟩; replace hk0 := KeepB.ext he hk0; clear he) | (go_at_call 40; (with_reducible refine (rSize_calls (HTV.out.ext hk0.1.out) HD.out).mono ?_); rw [HP.out]; rintro e w1 ⟨rfl, he⟩; replace hk0 := KeepB.ext he hk0; clear he))
        go_ret
        exact ⟨by rw [HV.out]; rfl, hk0.1.out⟩
      · have hb1' : ((ln : Int) != p) = false := by simp [bne, hb1]
        cases b2
        · have HV : Aside (t = false) := ⟨by rw [← HT1.out]; rfl⟩
          have hb2' : ((lb : Int) != 0) = true := by simp [bne, hb2]
          go_enter Tryz.func14, Tryz.ntmps14
          go_wp2_with (first | (go_at_call 56; (with_reducible refine (rHeld_calls (HTV.out.ext hk0.1.out) HT.out HH.out).mono ?_); rintro e w1 ⟨rfl, he⟩; replace hk0 := KeepB.ext he hk0; clear he) | (go_at_call 40; (with_reducible refine (rSize_calls (HTV.out.ext hk0.1.out) HD.out).mono ?_); rw [HP.out]; rintro e w1 ⟨rfl, he⟩; replace hk0 := KeepB.ext he hk0; clear he))
          go_ret
          exact ⟨by rw [HV.out]; rfl, hk0.1.out⟩
        · have HV : Aside (t = !(anyNum nums)) := ⟨by rw [← HT1.out]; rfl⟩
          have hb2' : ((lb : Int) != 0) = false := by simp [bne, hb2]
          have hpl : (ln : Int) = p := by simpa using hb1
          have HPL := Aside.mk hpl
          clear hpl
          go_enter Tryz.func14, Tryz.ntmps14
          go_wp2_with (first | (go_at_call 56; (with_reducible refine (rHeld_calls (HTV.out.ext hk0.1.out) HT.out HH.out).mono ?_); rintro e w1 ⟨rfl, he⟩; replace hk0 := KeepB.ext he hk0; clear he) | (go_at_call 40; (with_reducible refine (rSize_calls (HTV.out.ext hk0.1.out) HD.out).mono ?_); rw [HP.out]; rintro e w1 ⟨rfl, he⟩; replace hk0 := KeepB.ext he hk0; clear he))
          go_loopw [5] (fun i wr => ∃ j : Nat, j ≤ ln ∧ i = .int .i64 (j : Int) ∧ KeepB w (.int .i64 1) (.slice D nd cd) (.slice A ln ca) (.slice B lb cb) wr ∧ Aside (anyNum (nums.take j) = false)) (fun i _ => ln - (intOf i).toNat)
          case atStart => exact ⟨0, by omega, rfl, hk0, ⟨rfl⟩⟩
          case round =>
            clear hk0
            obtain ⟨j, hj, rfl, hk0, HA⟩ := hrel
            by_cases hlt : j < ln
            · obtain ⟨q, hq⟩ : ∃ q, nums[j]? = some q := ⟨nums[j]'(by rw [HLN.out]; exact hlt), List.getElem?_eq_getElem _⟩
              have HN2 := HN.out
              obtain ⟨b0, o0, x0, y0, hA, ha0, ha1, ha2, ha3, hr1⟩ := QV.at' (SV.ext RatC.ext HN2 hk0.1.out) j hq
              subst hA
              have HRR := Aside.mk hr1
              obtain ⟨t2, ht2⟩ : ∃ b, okq q = b := ⟨_, rfl⟩
              have HOK := Aside.mk ht2
              have HA2 := Aside.mk (anyNum_snoc HA.out hq ht2)
              have hpj : (j : Int) < p := by have := HPL.out; omega
              have hp0 : (0 : Int) ≤ (j : Int) := Int.natCast_nonneg _
              have hp1 : (j : Int) < (ln : Int) := by omega
              clear hq ht2 hr1 HN2
              cases t2
              · have HV2 : Aside (t = false) := ⟨by rw [HV.out, show anyNum nums = true from any_take HA2.out]; rfl⟩
                go_wp2_with (go_at_call 51; (with_reducible refine (risrat_calls HRR.out HOK.out).mono ?_); rintro e w1 ⟨rfl, he⟩; have HK1 := Aside.mk (KeepB.ext he hk0); clear he)
                go_ret
                exact ⟨by rw [HV2.out]; rfl, HK1.out.1.out⟩
              · go_wp2_with (go_at_call 51; (with_reducible refine (risrat_calls HRR.out HOK.out).mono ?_); rintro e w1 ⟨rfl, he⟩; have HK1 := Aside.mk (KeepB.ext he hk0); clear he)
                go_roundw
                case rel => exact ⟨j + 1, by omega, by go_num, HK1.out, HA2⟩
                case measure => simp [intOf]; omega
            · have hjn : ¬ (j : Int) < p := by have := HPL.out; omega
              have HV2 : Aside (t = true) := ⟨by rw [HV.out]; have := HA.out; rw [show j = nums.length from by rw [HLN.out]; omega, List.take_length] at this; rw [this]; rfl⟩
              go_wp2_with fail
              go_loopw [6] (fun i wr => i = .int .i64 0 ∧ KeepB w (.int .i64 1) (.slice D nd cd) (.slice A ln ca) (.slice B lb cb) wr) (fun _ _ => 0)
              case atStart => exact ⟨rfl, hk0⟩
              case round =>
              clear hk0
              obtain ⟨rfl, hk0⟩ := hrel
              go_wp2_with fail
              go_ret
              exact ⟨by rw [HV2.out]; rfl, hk0.1.out⟩
    · rw [valOk_bit ht0, hp] at ht
      obtain ⟨b1, hb1⟩ : ∃ b, ((nums.length : Int) == 0) = b := ⟨_, rfl⟩
      obtain ⟨b2, hb2⟩ : ∃ b, ((bits.length : Int) == p) = b := ⟨_, rfl⟩
      rw [hb1, hb2] at ht
      have HT1 := Aside.mk ht
      obtain ⟨lb, hlb⟩ : ∃ n, bits.length = n := ⟨_, rfl⟩
      have HLB := Aside.mk hlb
      rw [hlb] at hb2 hk0 hc2 hl2 ⊢
      clear ht ht0 hp hlb
      generalize nums.length = ln at *
      cases b1
      · have HV : Aside (t = false) := ⟨by rw [← HT1.out]; simp⟩
        have hb1' : ((ln : Int) != 0) = true := by simp [bne, hb1]
        go_enter Tryz.func14, Tryz.ntmps14
        go_wp2_with (first | (go_at_call 56; (with_reducible refine (rHeld_calls (HTV.out.ext hk0.1.out) HT.out HH.out).mono ?_); rintro e w1 ⟨rfl, he⟩; replace hk0 := KeepB.ext he hk0; clear he) | (go_at_call 40; (with_reducible refine (rSize_calls (HTV.out.ext hk0.1.out) HD.out).mono ?_); rw [HP.out]; rintro e w1 ⟨rfl, he⟩; replace hk0 := KeepB.ext he hk0; clear he))
        go_ret
        exact ⟨by rw [HV.out]; rfl, hk0.1.out⟩
      · have hb1' : ((ln : Int) != 0) = false := by simp [bne, hb1]
        cases b2
        · have HV : Aside (t = false) := ⟨by rw [← HT1.out]; rfl⟩
          have hb2' : ((lb : Int) != p) = true := by simp [bne, hb2]
          go_enter Tryz.func14, Tryz.ntmps14
          go_wp2_with (first | (go_at_call 56; (with_reducible refine (rHeld_calls (HTV.out.ext hk0.1.out) HT.out HH.out).mono ?_); rintro e w1 ⟨rfl, he⟩; replace hk0 := KeepB.ext he hk0; clear he) | (go_at_call 40; (with_reducible refine (rSize_calls (HTV.out.ext hk0.1.out) HD.out).mono ?_); rw [HP.out]; rintro e w1 ⟨rfl, he⟩; replace hk0 := KeepB.ext he hk0; clear he))
          go_ret
          exact ⟨by rw [HV.out]; rfl, hk0.1.out⟩
        · have HV : Aside (t = !(anyBit bits)) := ⟨by rw [← HT1.out]; rfl⟩
          have hb2' : ((lb : Int) != p) = false := by simp [bne, hb2]
          have hpl : (lb : Int) = p := by simpa using hb2
          have HPL := Aside.mk hpl
          clear hpl
          go_enter Tryz.func14, Tryz.ntmps14
          go_wp2_with (first | (go_at_call 56; (with_reducible refine (rHeld_calls (HTV.out.ext hk0.1.out) HT.out HH.out).mono ?_); rintro e w1 ⟨rfl, he⟩; replace hk0 := KeepB.ext he hk0; clear he) | (go_at_call 40; (with_reducible refine (rSize_calls (HTV.out.ext hk0.1.out) HD.out).mono ?_); rw [HP.out]; rintro e w1 ⟨rfl, he⟩; replace hk0 := KeepB.ext he hk0; clear he))
          go_loopw [5] (fun i wr => i = .int .i64 0 ∧ KeepB w (.int .i64 2) (.slice D nd cd) (.slice A ln ca) (.slice B lb cb) wr) (fun _ _ => 0)
          case atStart => exact ⟨rfl, hk0⟩
          case round =>
          clear hk0
          obtain ⟨rfl, hk0⟩ := hrel
          go_wp2_with fail
          go_loopw [6] (fun i wr => ∃ j : Nat, j ≤ lb ∧ i = .int .i64 (j : Int) ∧ KeepB w (.int .i64 2) (.slice D nd cd) (.slice A ln ca) (.slice B lb cb) wr ∧ Aside (anyBit (bits.take j) = false)) (fun i _ => lb - (intOf i).toNat)
          case atStart => exact ⟨0, by omega, rfl, hk0, ⟨rfl⟩⟩
          case round =>
            clear hk0
            obtain ⟨j, hj, rfl, hk0, HA⟩ := hrel
            by_cases hlt : j < lb
            · obtain ⟨q, hq⟩ : ∃ q, bits[j]? = some q := ⟨bits[j]'(by rw [HLB.out]; exact hlt), List.getElem?_eq_getElem _⟩
              have HB2 := HB.out
              obtain ⟨b0, o0, hA, ha0, ha1⟩ := BV.at' (SV.ext BitC.ext HB2 hk0.1.out) j hq
              subst hA
              obtain ⟨t2, ht2⟩ : ∃ b, okb q.f q.on = b := ⟨_, rfl⟩
              have HOK := Aside.mk ht2
              have HA2 := Aside.mk (anyBit_snoc HA.out hq ht2)
              have hpj : (j : Int) < p := by have := HPL.out; omega
              have hp0 : (0 : Int) ≤ (j : Int) := Int.natCast_nonneg _
              have hp1 : (j : Int) < (lb : Int) := by omega
              clear hq ht2 HB2
              cases t2
              · have HV2 : Aside (t = false) := ⟨by rw [HV.out, show anyBit bits = true from any_take HA2.out]; rfl⟩
                go_wp2_with (go_at_call 57; (with_reducible refine (risbit_calls HOK.out).mono ?_); rintro e w1 ⟨rfl, he⟩; have HK1 := Aside.mk (KeepB.ext he hk0); clear he)
                go_ret
                exact ⟨by rw [HV2.out]; rfl, HK1.out.1.out⟩
              · go_wp2_with (go_at_call 57; (with_reducible refine (risbit_calls HOK.out).mono ?_); rintro e w1 ⟨rfl, he⟩; have HK1 := Aside.mk (KeepB.ext he hk0); clear he)
                go_roundw
                case rel => exact ⟨j + 1, by omega, by go_num, HK1.out, HA2⟩
                case measure => simp [intOf]; omega
            · have hjn : ¬ (j : Int) < p := by have := HPL.out; omega
              have HV2 : Aside (t = true) := ⟨by rw [HV.out]; have := HA.out; rw [show j = bits.length from by rw [HLB.out]; omega, List.take_length] at this; rw [this]; rfl⟩
              go_wp2_with fail
              go_ret
              exact ⟨by rw [HV2.out]; rfl, hk0.1.out⟩
end Go.Proofs.YtcbaipnphepbeaaGreatDoor

namespace Go.Proofs.YtcbaipnphepbeaaGreatDoor
open Go.RowKit
attribute [local go_sem ↓] Go.wp_at_zero Go.wp_at_succ

theorem join_snoc (ls : List (List UInt8)) (x sep : List UInt8) (h : ls ≠ []) : Lib.join (ls ++ [x]) sep = Lib.join ls sep ++ (sep ++ x) := by
  induction ls with
  | nil => exact absurd rfl h
  | cons a t ih =>
    cases t with
    | nil => simp [Lib.join, List.intercalate]
    | cons b t =>
      have ih := ih (by simp)
      have e : ∀ (u : List (List UInt8)) (b : List UInt8), Lib.join (a :: b :: u) sep = a ++ (sep ++ Lib.join (b :: u) sep) := fun u b => by simp [Lib.join, List.intercalate]
      rw [List.cons_append, List.cons_append, e, e, ← List.cons_append, ih]
      simp
/-- What Show has written before an element. -/
def accB (n : Nat) (v : Vq) (j : Nat) : ByteArray := ⟨(123 :: Lib.join ((List.range j).map fun i => showN n (elemV v i)) [44, 32]).toArray⟩
theorem acc_zero (n : Nat) (v : Vq) : accB n v 0 = ⟨#[123]⟩ := rfl
theorem acc_one {n : Nat} {v : Vq} {j : Nat} {se : ByteArray} (hj : j = 0) (hs : (⟨(showN n (elemV v j)).toArray⟩ : ByteArray) = se) : accB n v j ++ se = accB n v (j + 1) := by
  subst hj hs
  rw [acc_zero, show (⟨#[123]⟩ : ByteArray) = ⟨[123].toArray⟩ from rfl, bcat]
  simp [accB, Lib.join, List.intercalate, List.range_succ]
theorem acc_more {n : Nat} {v : Vq} {j : Nat} {se : ByteArray} (hj : 0 < j) (hs : (⟨(showN n (elemV v j)).toArray⟩ : ByteArray) = se) : accB n v j ++ ⟨#[44, 32]⟩ ++ se = accB n v (j + 1) := by
  subst hs
  unfold accB
  rw [show (⟨#[44, 32]⟩ : ByteArray) = ⟨[44, 32].toArray⟩ from rfl, bcat, bcat, List.range_succ, List.map_append, List.map_cons, List.map_nil, join_snoc _ _ _ (by intro h; have := congrArg List.length h; simp at this; omega)]
  simp
theorem acc_end {n : Nat} {v : Vq} {dn : Nat} {ds : List Int} (hds : v.ds = (dn : Int) :: ds) : accB n v dn ++ ⟨#[125]⟩ = ⟨(showN (n + 1) v).toArray⟩ := by
  unfold accB
  rw [show (⟨#[125]⟩ : ByteArray) = ⟨[125].toArray⟩ from rfl, bcat, showN_succ hds]
  simp
theorem acc_size {n : Nat} {v : Vq} {dn : Nat} {ds : List Int} (ho : valOk v = true) (hg : Good v) (hds : v.ds = (dn : Int) :: ds) (hn : ds.length = n) {j : Nat} (hj : j ≤ dn) : (accB n v j).size ≤ 2187000 ∧ (j < dn → (⟨(showN n (elemV v j)).toArray⟩ : ByteArray).size ≤ 2187000) := by
  have hD := valOk_dims ho
  have h3 : n ≤ 2 := by have := hD.1; rw [hds, List.length_cons] at this; omega
  have h8 : dn ≤ 8 := by have := (hD.2 (dn : Int) (by rw [hds]; simp)).2; omega
  have hB : 3000 * 9 ^ n ≤ 3000 * 9 ^ 2 := Nat.mul_le_mul_left _ (Nat.pow_le_pow_right (by decide) h3)
  have hel : ∀ i, i < dn → (showN n (elemV v i)).length ≤ 3000 * 9 ^ n := fun i hi => showN_len n _ (elem_ok ho hds (by omega)) (hg.elem i) (by show v.ds.tail.length = n; rw [hds]; exact hn)
  refine ⟨?_, fun hlt => ?_⟩
  · have hl := join_len ((List.range j).map fun i => showN n (elemV v i)) [44, 32] (3000 * 9 ^ n) (by
      intro l hl
      obtain ⟨i, hi, rfl⟩ := List.mem_map.1 hl
      exact hel i (by have := List.mem_range.1 hi; omega))
    rw [List.length_map, List.length_range] at hl
    have h10 : j * (3000 * 9 ^ n + [(44 : UInt8), 32].length) ≤ 8 * (3000 * 9 ^ 2 + 2) := Nat.mul_le_mul (by omega) (by simp only [List.length_cons, List.length_nil]; omega)
    have h11 := Nat.le_trans hl h10
    unfold accB
    show (List.toArray _).size ≤ _
    rw [List.size_toArray, List.length_cons]
    omega
  · have := hel j hlt
    show (List.toArray _).size ≤ _
    rw [List.size_toArray]
    omega
set_option maxRecDepth 10000 in
set_option maxHeartbeats 2000000 in
theorem rshow_scalar {w : World} {x : Value} {v : Vq} {s : ByteArray} (h : VV w x v) (ho : valOk v = true) (hd : v.ds = []) (hs : (⟨(scalT v).toArray⟩ : ByteArray) = s) :
    Calls Tryz.prog 20 #[x] w fun e w' => e = .returned (.string s) ∧ Ext w w' := by
  rcases scal_parts ho hd with ⟨hk, q, hn, hq, hb⟩ | ⟨hk, b, hb, hok, hn⟩
  · obtain ⟨k, ds, nums, bits⟩ := v
    obtain rfl : k = 1 := hk
    obtain rfl : ds = [] := hd
    obtain rfl : nums = [q] := hn
    obtain rfl : bits = [] := hb
    have HS : Aside ((⟨(rtext q).toArray⟩ : ByteArray) = s) := ⟨hs⟩
    obtain ⟨d, n, b, rfl, hd', hn', hb'⟩ := h
    obtain ⟨D, cd, rfl, _⟩ := hd'.form
    obtain ⟨A, ca, rfl, hca, _⟩ := hn'.form
    obtain ⟨B, cb, rfl, _⟩ := hb'.form
    obtain ⟨b0, o0, x0, y0, rfl, hc0, hc1, hc2, hc3, hrr⟩ := QV.at' hn' 0 rfl
    have HR0 := Aside.mk hrr
    have HOK := Aside.mk hq
    simp only [Nat.zero_mul, Nat.add_zero] at hc0 hc1 hc2 hc3
    have hk0 := KeepB.init w (.int .i64 1) (.slice D 0 cd) (.slice (some ⟨b0, o0, none⟩) 1 ca) (.slice B 0 cb) 29
    have HRR := Aside.mk (HR0.out.ext hk0.1.out)
    have g0 := hk0.1.out.cell hc0
    have g1 := hk0.1.out.cell hc1
    have g2 := hk0.1.out.cell hc2
    have g3 := hk0.1.out.cell hc3
    clear ho hd' hn' hb' hrr hq hs hc0 hc1 hc2 hc3
    go_enter Tryz.func20, Tryz.ntmps20
    go_wp2_with (go_at_call 70; with_reducible refine (rtext_calls HRR.out HOK.out HS.out).mono ?_; rintro e w1 ⟨rfl, he⟩; replace hk0 := KeepB.ext he hk0; clear he)
    go_ret
    exact ⟨rfl, hk0.1.out⟩
  · obtain ⟨k, ds, nums, bits⟩ := v
    obtain rfl : k = 2 := hk
    obtain rfl : ds = [] := hd
    obtain rfl : bits = [b] := hb
    obtain rfl : nums = [] := hn
    have HS0 : Aside (bitB b = s) := ⟨hs⟩
    obtain ⟨d, n, bb, rfl, hd', hn', hb'⟩ := h
    obtain ⟨D, cd, rfl, _⟩ := hd'.form
    obtain ⟨A, ca, rfl, hca, _⟩ := hn'.form
    obtain ⟨B, cb, rfl, _⟩ := hb'.form
    obtain ⟨b0, o0, rfl, hc0, hc1⟩ := BV.at' hb' 0 rfl
    simp only [Nat.zero_mul, Nat.add_zero] at hc0 hc1
    have hk0 := KeepB.init w (.int .i64 2) (.slice D 0 cd) (.slice A 0 ca) (.slice (some ⟨b0, o0, none⟩) 1 cb) 29
    have g0 := hk0.1.out.cell hc0
    have g1 := hk0.1.out.cell hc1
    obtain ⟨f, on⟩ := b
    dsimp only at hok g0 g1
    by_cases hf : f = 0
    · have hf1 : (f == 0) = true := by simp [hf]
      have hf2 : (f != 0) = false := by simp [hf]
      have HS : Aside ((if on then yesB else noB) = s) := ⟨by rw [← HS0.out]; unfold bitB; dsimp only; rw [if_neg (show ¬ f ≠ 0 from fun h => h hf)]⟩
      clear ho hd' hn' hb' hs hc0 hc1 hok hf HS0
      cases on
      · go_enter Tryz.func20, Tryz.ntmps20
        go_wp2
        go_ret
        exact ⟨by rw [← HS.out]; rfl, hk0.1.out⟩
      · go_enter Tryz.func20, Tryz.ntmps20
        go_wp2
        go_ret
        exact ⟨by rw [← HS.out]; rfl, hk0.1.out⟩
    · have hf1 : (f == 0) = false := beq_eq_false_iff_ne.2 hf
      have hf2 : (f != 0) = true := by simp [bne, hf1]
      have HS : Aside (faultB f = s) := ⟨by rw [← HS0.out]; unfold bitB; dsimp only; rw [if_pos hf]⟩
      clear ho hd' hn' hb' hs hc0 hc1 hok hf HS0
      go_enter Tryz.func20, Tryz.ntmps20
      go_wp2_with (go_at_call 71; with_reducible refine faultText_calls.mono ?_; rw [HS.out]; rintro e w1 ⟨rfl, rfl⟩)
      go_ret
      exact ⟨rfl, hk0.1.out⟩
set_option maxRecDepth 10000 in
set_option maxHeartbeats 4000000 in
theorem rShowN_calls : ∀ (n : Nat) (w : World) (x : Value) (v : Vq) (s : ByteArray), VV w x v → valOk v = true → v.ds.length = n → (⟨(showN n v).toArray⟩ : ByteArray) = s →
    Calls Tryz.prog 20 #[x] w fun e w' => e = .returned (.string s) ∧ Ext w w'
  | 0, w, x, v, s, h, ho, hd, hs => rshow_scalar h ho (List.eq_nil_of_length_eq_zero hd) hs
  | n + 1, w, x, v, s, h, ho, hd, hs => by
    have HIH := Aside.mk (rShowN_calls n)
    have hgood := h.good
    obtain ⟨d, ds, hds⟩ : ∃ d ds, v.ds = d :: ds := by
      cases hv : v.ds with
      | nil => rw [hv] at hd; cases hd
      | cons d ds => exact ⟨d, ds, rfl⟩
    have hD := (valOk_dims ho).2 d (by rw [hds]; simp)
    obtain ⟨dn, rfl⟩ : ∃ m : Nat, d = (m : Int) := ⟨d.toNat, by omega⟩
    have HV := Aside.mk h
    have HOK := Aside.mk ho
    have HDS := Aside.mk hds
    have hdl : ds.length = n := by rw [hds] at hd; simpa using hd
    have HLE : Aside (∀ i, (elemV v i).ds.length = n) := ⟨fun i => by show v.ds.tail.length = n; rw [hds]; exact hdl⟩
    have HEO' : Aside (∀ i : Nat, i < dn → valOk (elemV v i) = true) := ⟨fun i hi => elem_ok ho hds (by omega)⟩
    have HZ : Aside (∀ j : Nat, j ≤ dn → (accB n v j).size ≤ 2187000 ∧ (j < dn → (⟨(showN n (elemV v j)).toArray⟩ : ByteArray).size ≤ 2187000)) := ⟨fun j hj => acc_size ho hgood hds hdl hj⟩
    have HS : Aside (accB n v dn ++ ⟨#[125]⟩ = s) := ⟨by rw [← hs]; exact acc_end hds⟩
    have HA0 : Aside (accB n v 0 = ⟨#[123]⟩) := ⟨acc_zero n v⟩
    obtain ⟨b0, o0, cd, A, ca, B, cb, rfl, hcell, hlc⟩ := h.first hds
    have hd1 : 1 ≤ dn ∧ dn ≤ 8 := by omega
    have hk0 := KeepB.init w (.int .i64 v.k) (.slice (some ⟨b0, o0, none⟩) (ds.length + 1) cd) (.slice A v.nums.length ca) (.slice B v.bits.length cb) 29
    have HC := Aside.mk hcell
    clear h ho hds hD hcell hs hd hgood hdl
    go_enter Tryz.func20, Tryz.ntmps20
    go_wp2_with fail
    go_loopw [3, 4] (fun t i wr => ∃ j : Nat, j ≤ dn ∧ i = .int .i64 (j : Int) ∧ t = .string (accB n v j) ∧ KeepB w (.int .i64 v.k) (.slice (some ⟨b0, o0, none⟩) (ds.length + 1) cd) (.slice A v.nums.length ca) (.slice B v.bits.length cb) wr) (fun _ i _ => dn - (intOf i).toNat)
    case atStart => exact ⟨0, by omega, rfl, by rw [HA0.out], hk0⟩
    case round =>
      clear hk0
      obtain ⟨j, hj, rfl, rfl, hk0⟩ := hrel
      have g0 := hk0.1.out.cell HC.out
      obtain ⟨hz1, hz2⟩ := HZ.out j hj
      by_cases hlt : j < dn
      · have HLT : Aside ((j : Int) < (dn : Int)) := ⟨by omega⟩
        have hlt' : (j : Int) < (dn : Int) := by omega
        have HEO : Aside (valOk (elemV v j) = true) := ⟨HEO'.out j hlt⟩
        have HEL : Aside ((elemV v j).ds.length = n) := ⟨HLE.out j⟩
        have hz3 := hz2 hlt
        obtain ⟨se, hse⟩ : ∃ b, (⟨(showN n (elemV v j)).toArray⟩ : ByteArray) = b := ⟨_, rfl⟩
        rw [hse] at hz3
        have HSE := Aside.mk hse
        obtain ⟨sj, hsj⟩ : ∃ b, accB n v j = b := ⟨_, rfl⟩
        rw [hsj] at hz1 ⊢
        by_cases h0 : j = 0
        · have HCAT : Aside (sj ++ se = accB n v (j + 1)) := ⟨by rw [← hsj]; exact acc_one h0 hse⟩
          have h00 : ¬ ((0 : Int) < (j : Int)) := by omega
          clear hse hsj h0 hz2
          go_wp2_with (go_at_call 22; with_reducible refine (rElement_calls (HV.out.ext hk0.1.out) HOK.out HDS.out HLT.out).mono ?_; rintro e w1 ⟨r, rfl, hr, he⟩; have HR := Aside.mk hr.vv; have hk1 := KeepB.ext he hk0; clear hr he)
          have hz := HIH.out _ _ _ _ HR.out HEO.out HEL.out HSE.out
          with_reducible refine hz.mono ?_
          clear hz
          rintro e w2 ⟨rfl, he⟩
          have hk2 := KeepB.ext he hk1
          have HK2 := Aside.mk hk2
          clear he hk0 hk1 hk2
          go_wp2_with fail
          go_roundw
          case rel => exact ⟨j + 1, by omega, by go_num, by rw [HCAT.out], HK2.out⟩
          case measure => simp [intOf]; omega
        · have HCAT : Aside (sj ++ ⟨#[44, 32]⟩ ++ se = accB n v (j + 1)) := ⟨by rw [← hsj]; exact acc_more (by omega) hse⟩
          have h00 : ((0 : Int) < (j : Int)) := by omega
          clear hse hsj h0 hz2
          go_wp2_with (go_at_call 22; with_reducible refine (rElement_calls (HV.out.ext hk0.1.out) HOK.out HDS.out HLT.out).mono ?_; rintro e w1 ⟨r, rfl, hr, he⟩; have HR := Aside.mk hr.vv; have hk1 := KeepB.ext he hk0; clear hr he)
          have hz := HIH.out _ _ _ _ HR.out HEO.out HEL.out HSE.out
          with_reducible refine hz.mono ?_
          clear hz
          rintro e w2 ⟨rfl, he⟩
          have hk2 := KeepB.ext he hk1
          have HK2 := Aside.mk hk2
          clear he hk0 hk1 hk2
          go_wp2_with fail
          go_roundw
          case rel => exact ⟨j + 1, by omega, by go_num, by rw [HCAT.out], HK2.out⟩
          case measure => simp [intOf]; omega
      · have hjn : j = dn := by omega
        have hlt' : ¬ (j : Int) < (dn : Int) := by omega
        obtain ⟨sj, hsj⟩ : ∃ b, accB n v j = b := ⟨_, rfl⟩
        have HS2 : Aside (sj ++ ⟨#[125]⟩ = s) := ⟨by rw [← HS.out, ← hsj, hjn]⟩
        rw [hsj] at hz1 ⊢
        clear hsj hjn hz2
        go_wp2_with fail
        go_ret
        exact ⟨by rw [HS2.out]; rfl, hk0.1.out⟩
/-- ref03.Show. -/
theorem rShow_calls {w : World} {x : Value} {v : Vq} {s : ByteArray} (h : VV w x v) (ho : valOk v = true) (hs : (⟨(showV v).toArray⟩ : ByteArray) = s) :
    Calls Tryz.prog 20 #[x] w fun e w' => e = .returned (.string s) ∧ Ext w w' := rShowN_calls _ _ _ _ _ h ho rfl hs
end Go.Proofs.YtcbaipnphepbeaaGreatDoor
