/- Contracts of the leaves of package nat: trim, compare, at, add, sub, mul. -/
import Derived.Test.YtgfkachfbnbikaaGreatDoorProg
import Derived.Test.YtgfkachfbnbikaaGreatDoorBase
import Derived.Test.YtgfkachfbnbikaaGreatDoorMath
import Derived.Test.YtgfkachfbnbikaaGreatDoorLaw
namespace Go.Proofs.YtgfkachfbnbikaaGreatDoor
open Go.RowKit

/-- trim leaves zeros at the end out. -/
theorem trim_calls {w : World} {b : Nat} {v : Value} {xs : List Nat} (h : OV b w v xs) :
    Calls Tryz.prog 156 #[v] w fun e w' => ∃ u, e = .returned u ∧ OV b w' u (dig (val xs)) ∧ w = w' := by
  obtain ⟨A, c, rfl, hc⟩ := h.form
  have hl : xs.length ≤ 1073741824 := h.1.1
  have H := Aside.mk h
  have hd : Ds xs := h.1.2
  have E : Aside (trimTo xs xs.length = dig (val xs)) := ⟨by rw [trimTo_dig hd _ (Nat.le_refl _), val_take_all]⟩
  have HD := Aside.mk hd
  clear h hd
  go_enter Tryz.func156, Tryz.ntmps156
  go_wp2
  go_loop [0] (fun v => ∃ k : Nat, k ≤ xs.length ∧ v = .slice A k c ∧ Aside (trimTo xs xs.length = trimTo xs k)) (fun v => match v with | .slice _ k _ => k | _ => 0)
  case atStart => exact ⟨_, Nat.le_refl _, rfl, ⟨rfl⟩⟩
  case round =>
    obtain ⟨k, hk, rfl, HK⟩ := hrel
    cases k with
    | zero =>
      go_wp2
      go_ret
      exact ⟨.slice A 0 c, rfl, by rw [← E.out, HK.out]; exact H.out.take 0 (by omega), rfl⟩
    | succ k =>
      obtain ⟨ad, rfl, hx⟩ := (H.out.rv).at' k (by omega)
      have hkc : k ≤ c := by omega
      by_cases h0 : xs.getD k 0 = 0
      · have h00 : (((xs[k]?.getD 0 : Nat) : Int) == 0) = true := by rw [List.getD_eq_getElem?_getD] at h0; simp [h0]
        have HK' : Aside (trimTo xs xs.length = trimTo xs k) := ⟨by rw [HK.out, trimTo, if_pos h0]⟩
        clear h0 HK
        go_wp2
        go_round
        case rel => exact ⟨k, by omega, rfl, HK'⟩
        case measure => simp
      · have h00 : (((xs[k]?.getD 0 : Nat) : Int) == 0) = false := by rw [List.getD_eq_getElem?_getD] at h0; simp; omega
        have HK' : Aside (dig (val xs) = xs.take (k + 1)) := ⟨by rw [← E.out, HK.out, trimTo, if_neg h0]⟩
        clear h0 HK
        go_wp2
        go_ret
        exact ⟨.slice (some ad) (k + 1) c, rfl, by rw [HK'.out]; exact H.out.take (k + 1) hk, rfl⟩

/-- at is a digit, or 0. -/
theorem at_calls {w : World} {v : Value} {xs : List Nat} {i : Int} {k x : Nat} (h : RV w v xs) (hi : i = (k : Int)) (hx : xs.getD k 0 = x) :
    Calls Tryz.prog 186 #[v, .int .i64 i] w fun e w' => e = .returned (.int .u64 (x : Int)) ∧ w = w' := by
  subst hi
  obtain ⟨A, c, rfl, hc, hd, hr⟩ := h
  have hl : xs.length ≤ 1073741824 := hd.1
  rcases Nat.lt_or_ge k xs.length with hk | hk
  · obtain ⟨ad, rfl, hcell⟩ := hr.at32 k hk
    rw [hx] at hcell
    have hx4 : x < 4294967296 := hx ▸ Ds.get hd.2 k
    clear hr hx hd
    go_enter Tryz.func186, Tryz.ntmps186
    go_wp2
    go_ret
    exact ⟨rfl, rfl⟩
  · obtain rfl : x = 0 := by rw [← hx, getD_ge hk]
    clear hr hx hd
    go_enter Tryz.func186, Tryz.ntmps186
    go_wp2
    go_ret
    exact ⟨rfl, rfl⟩

set_option maxHeartbeats 400000 in
/-- add is a sum. -/
theorem add_calls {w : World} {u v : Value} {xs ys : List Nat} (hu : RV w u xs) (hv : RV w v ys) (hm : max xs.length ys.length < 1073741824) :
    Calls Tryz.prog 173 #[u, v] w fun e w' => ∃ r, e = .returned r ∧ OV w.heap.size w' r (dig (val xs + val ys)) ∧ Ext w w' := by
  obtain ⟨A, c, rfl, hc, hd, hr⟩ := id hu
  obtain ⟨B, d, rfl, hc', hd', hr'⟩ := id hv
  have HU := Aside.mk hu
  have HV := Aside.mk hv
  have hl : xs.length ≤ 1073741824 := hd.1
  have hl' : ys.length ≤ 1073741824 := hd'.1
  obtain ⟨m, hmm⟩ : ∃ m, max xs.length ys.length = m := ⟨_, rfl⟩
  have hmm' : max (xs.length : Int) (ys.length : Int) = (m : Int) := by omega
  have hm1 : m < 1073741824 := by omega
  have hxm : xs.length ≤ m := by omega
  have hym : ys.length ≤ m := by omega
  clear hu hv hd hd' hr hr' hmm hm
  go_enter Tryz.func173, Tryz.ntmps173
  go_wp2_with (refine make0_u32 _ rfl _ _ rfl (m + 1) _ rfl rfl (by simp) (by omega) ?_; intro w1 z hz0 hb1 hz1; have HZ0 := Aside.mk hz0; have HB0 := Aside.mk hb1; clear hz0 hb1; subst hz1)
  go_loopw [5, 6, 20] (fun z cr i wr => ∃ (k c : Nat) (zs : List Nat), k ≤ m ∧ i = .int .i64 (k : Int) ∧ cr = .int .u64 (c : Int) ∧ c ≤ 1 ∧ Aside (OV w.heap.size wr z zs) ∧ Aside (Ext w wr) ∧ Aside (zs.length = k) ∧
    Aside (val (xs.take k) + val (ys.take k) = val zs + 4294967296 ^ k * c)) (fun _ _ i _ => m - (intOf i).toNat)
  case atStart => exact ⟨0, 0, [], Nat.zero_le _, rfl, rfl, by omega, HZ0, HB0, ⟨rfl⟩, ⟨by simp [val]⟩⟩
  case round =>
    obtain ⟨k, cr, zs, hk, rfl, rfl, hcr, HZ, HB, HL, HS⟩ := hrel
    by_cases hlt : k < m
    · obtain ⟨x, hx⟩ : ∃ x, xs.getD k 0 = x := ⟨_, rfl⟩
      obtain ⟨y, hy⟩ : ∃ y, ys.getD k 0 = y := ⟨_, rfl⟩
      have hx4 : x < 4294967296 := hx ▸ HU.out.dg.get k
      have hy4 : y < 4294967296 := hy ▸ HV.out.dg.get k
      have HX := Aside.mk hx
      have HY := Aside.mk hy
      clear hx hy
      go_wp2_with (first | (go_at_call 186; with_reducible refine (at_calls (v := .slice A xs.length c) (HU.out.ext HB.out) rfl HX.out).mono ?_; rintro e w' ⟨rfl, rfl⟩) | (go_at_call 186; with_reducible refine (at_calls (v := .slice B ys.length d) (HV.out.ext HB.out) rfl HY.out).mono ?_; rintro e w' ⟨rfl, rfl⟩) | (at_builtin; (refine append_u32 w.heap.size rfl _ _ rfl _ zs ((cr + (x + y)) % 4294967296) _ ?hz HZ.out rfl rfl (by omega) HB.out.size ?hl ?_; (case hz => omega); (case hl => rw [HL.out]; omega); intro z1 w1 hz1 hg1; have HB1 := Aside.mk (HZ.out.ext_grown HB.out (Nat.le_refl _) hg1); have HZ1 := Aside.mk hz1; clear hz1 hg1)))
      go_roundw
      case rel =>
        refine ⟨k + 1, (cr + (x + y)) / 4294967296, _, by omega, by go_num, by congr 1, by omega, HZ1, HB1, ⟨by simp [HL.out]⟩, ⟨?_⟩⟩
        rw [val_take_step xs, val_take_step ys, HX.out, HY.out, val_concat, HL.out, Nat.pow_succ]
        exact sum_step HS.out (by omega) rfl rfl
      case measure => simp [intOf]; omega
    · have hkm : k = m := by omega
      subst hkm
      have HE : Aside (val xs + val ys = val (zs ++ [cr])) := ⟨by
        rw [val_concat, HL.out, ← HS.out, val_take_ge hxm, val_take_ge hym]⟩
      go_wp2_with (first | (at_builtin; (refine append_u32 w.heap.size rfl _ _ rfl _ zs cr _ ?hz HZ.out rfl rfl (by omega) HB.out.size ?hl ?_; (case hz => omega); (case hl => rw [HL.out]; omega); intro z1 w1 hz1 hg1; have HB1 := Aside.mk (HZ.out.ext_grown HB.out (Nat.le_refl _) hg1); have HZ1 := Aside.mk hz1; clear hz1 hg1)) | (go_at_call 156; with_reducible refine (trim_calls HZ1.out).mono ?_; rintro e w' ⟨r, rfl, hr, rfl⟩; have HR := Aside.mk hr; clear hr))
      go_ret
      exact ⟨r, rfl, by rw [HE.out]; exact HR.out, HB1.out⟩
end Go.Proofs.YtgfkachfbnbikaaGreatDoor
