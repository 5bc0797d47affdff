/- Contracts of package nat: sub, compare. -/
import Derived.Test.YtgfkachfbnbikaaGreatDoorNatA
namespace Go.Proofs.YtgfkachfbnbikaaGreatDoor
open Go.RowKit

set_option maxHeartbeats 400000 in
/-- sub is a difference. -/
theorem sub_calls {w : World} {u v : Value} {xs ys : List Nat} (hu : RV w u xs) (hv : RV w v ys) (hlen : ys.length ≤ xs.length) (hle : val ys ≤ val xs) :
    Calls Tryz.prog 174 #[u, v] w fun e w' => ∃ r, e = .returned r ∧ OV w.heap.size w' r (dig (val xs - val ys)) ∧ Ext w w' := by
  obtain ⟨A, c, rfl, hc, hd, hr⟩ := id hu
  obtain ⟨B, d, rfl, hc', hd', hr'⟩ := id hv
  have HU := Aside.mk hu
  have HV := Aside.mk hv
  have hl : xs.length ≤ 1073741824 := hd.1
  have HLE := Aside.mk hle
  clear hu hv hd hd' hr hr' hle
  go_enter Tryz.func174, Tryz.ntmps174
  go_wp2_with (refine make0_u32 _ rfl _ _ rfl xs.length _ rfl rfl rfl hl ?_; intro w1 z hz0 hb1 hz1; have HZ0 := Aside.mk hz0; have HB0 := Aside.mk hb1; clear hz0 hb1; subst hz1)
  go_loopw [5, 6, 14] (fun z cr i wr => ∃ (k c : Nat) (zs : List Nat), k ≤ xs.length ∧ i = .int .i64 (k : Int) ∧ cr = .int .u64 (c : Int) ∧ c ≤ 1 ∧ Aside (OV w.heap.size wr z zs) ∧ Aside (Ext w wr) ∧ Aside (zs.length = k) ∧
    Aside (val (xs.take k) + 4294967296 ^ k * c = val zs + val (ys.take k))) (fun _ _ i _ => xs.length - (intOf i).toNat)
  case atStart => exact ⟨0, 0, [], Nat.zero_le _, rfl, rfl, by omega, HZ0, HB0, ⟨rfl⟩, ⟨by simp [val]⟩⟩
  case round =>
    obtain ⟨k, cr, zs, hk, rfl, rfl, hcr, HZ, HB, HL, HS⟩ := hrel
    by_cases hlt : k < xs.length
    · obtain ⟨x, hx⟩ : ∃ x, xs.getD k 0 = x := ⟨_, rfl⟩
      obtain ⟨y, hy⟩ : ∃ y, ys.getD k 0 = y := ⟨_, rfl⟩
      have hx4 : x < 4294967296 := hx ▸ HU.out.dg.get k
      have hy4 : y < 4294967296 := hy ▸ HV.out.dg.get k
      have HX := Aside.mk hx
      have HY := Aside.mk hy
      clear hx hy
      rcases Nat.lt_or_ge x (y + cr) with hb | hb
      · have e1 : IntKind.u64.wrap (IntKind.u64.wrap ((x : Int) - (y : Int)) - (cr : Int)) = (x : Int) + 18446744073709551616 - y - cr := by rw [wrap_u64, wrap_u64]; omega
        go_wp2_with (first | (go_at_call 186; with_reducible refine (at_calls (v := .slice A xs.length c) (HU.out.ext HB.out) rfl HX.out).mono ?_; rintro e w' ⟨rfl, rfl⟩) | (go_at_call 186; with_reducible refine (at_calls (v := .slice B ys.length d) (HV.out.ext HB.out) rfl HY.out).mono ?_; rintro e w' ⟨rfl, rfl⟩) | (at_builtin; (refine append_u32 w.heap.size rfl _ _ rfl _ zs (x + 4294967296 - y - cr) _ ?hz HZ.out rfl rfl (by omega) HB.out.size ?hl ?_; (case hz => omega); (case hl => rw [HL.out]; omega); intro z1 w1 hz1 hg1; have HB1 := Aside.mk (HZ.out.ext_grown HB.out (Nat.le_refl _) hg1); have HZ1 := Aside.mk hz1; clear hz1 hg1)))
        go_roundw
        case rel =>
          refine ⟨k + 1, 1, _, by omega, by go_num, by congr 1; omega, by omega, HZ1, HB1, ⟨by simp [HL.out]⟩, ⟨?_⟩⟩
          rw [val_take_step xs, val_take_step ys, HX.out, HY.out, val_concat, HL.out, Nat.pow_succ]
          exact dif_step HS.out (by omega)
        case measure => simp [intOf]; omega
      · go_wp2_with (first | (go_at_call 186; with_reducible refine (at_calls (v := .slice A xs.length c) (HU.out.ext HB.out) rfl HX.out).mono ?_; rintro e w' ⟨rfl, rfl⟩) | (go_at_call 186; with_reducible refine (at_calls (v := .slice B ys.length d) (HV.out.ext HB.out) rfl HY.out).mono ?_; rintro e w' ⟨rfl, rfl⟩) | (at_builtin; (refine append_u32 w.heap.size rfl _ _ rfl _ zs (x - y - cr) _ ?hz HZ.out rfl rfl (by omega) HB.out.size ?hl ?_; (case hz => omega); (case hl => rw [HL.out]; omega); intro z1 w1 hz1 hg1; have HB1 := Aside.mk (HZ.out.ext_grown HB.out (Nat.le_refl _) hg1); have HZ1 := Aside.mk hz1; clear hz1 hg1)))
        go_roundw
        case rel =>
          refine ⟨k + 1, 0, _, by omega, by go_num, by congr 1; omega, by omega, HZ1, HB1, ⟨by simp [HL.out]⟩, ⟨?_⟩⟩
          rw [val_take_step xs, val_take_step ys, HX.out, HY.out, val_concat, HL.out, Nat.pow_succ]
          exact dif_step HS.out (by omega)
        case measure => simp [intOf]; omega
    · have hkm : k = xs.length := by omega
      subst hkm
      have HE : Aside (val zs = val xs - val ys) := ⟨by
        have h1 := HS.out
        rw [val_take_all, val_take_ge hlen] at h1
        have h2 := val_lt HZ.out.1.2
        rw [HL.out] at h2
        have h3 := HLE.out
        rcases Nat.lt_or_ge 0 cr with h4 | h4
        · have : cr = 1 := by omega
          subst this
          omega
        · have : cr = 0 := by omega
          subst this
          omega⟩
      go_wp2_with (go_at_call 156; with_reducible refine (trim_calls HZ.out).mono ?_; rintro e w' ⟨r, rfl, hr, rfl⟩; have HR := Aside.mk hr; clear hr)
      go_ret
      exact ⟨r, rfl, by rw [← HE.out]; exact HR.out, HB.out⟩

/-- How two lists of one length compare, looked at from digit n - 1 down. -/
def cmpTo (xs ys : List Nat) : Nat → Int
  | 0 => 0
  | i + 1 => if xs.getD i 0 = ys.getD i 0 then cmpTo xs ys i else if xs.getD i 0 < ys.getD i 0 then -1 else 1
def cmpN (a b : Nat) : Int := if a < b then -1 else if a = b then 0 else 1
theorem cmpTo_val {xs ys : List Nat} (hx : Ds xs) (hy : Ds ys) : ∀ n, n ≤ xs.length → n ≤ ys.length → cmpTo xs ys n = cmpN (val (xs.take n)) (val (ys.take n))
  | 0, _, _ => by simp [cmpTo, val, cmpN]
  | n + 1, h, h' => by
    have ih := cmpTo_val hx hy n (by omega) (by omega)
    have h1 := val_take_succ xs n (by omega)
    have h2 := val_take_succ ys n (by omega)
    have l1 := val_lt (hx.take n)
    have l2 := val_lt (hy.take n)
    rw [List.length_take, Nat.min_eq_left (by omega)] at l1 l2
    simp only [cmpTo]
    rw [h1, h2]
    generalize hX : val (xs.take n) = X at *
    generalize hY : val (ys.take n) = Y at *
    generalize hP : 4294967296 ^ n = P at *
    generalize xs.getD n 0 = a
    generalize ys.getD n 0 = b
    split
    · rename_i e
      subst e
      rw [ih]; unfold cmpN
      generalize P * a = z
      congr 1
      · simp
      · congr 1
        simp
    · rename_i e
      unfold cmpN
      split
      · rename_i e2
        have : P * (a + 1) ≤ P * b := Nat.mul_le_mul_left _ e2
        rw [Nat.mul_add] at this
        rw [if_pos (by omega)]
      · have : P * (b + 1) ≤ P * a := Nat.mul_le_mul_left _ (by omega)
        rw [Nat.mul_add] at this
        rw [if_neg (by omega), if_neg (by omega)]

/-- A number's digits: as a list that is read. -/
theorem cmp_len {a b : Nat} (h : (dig a).length < (dig b).length) : a < b := by
  rcases Nat.lt_or_ge a b with h' | h'
  · exact h'
  · exfalso
    have h1 := lt_of_dig_length (n := a) (Nat.le_refl _)
    have h2 : (dig b).length ≤ (dig a).length := dig_length_le (by omega)
    omega

set_option maxHeartbeats 400000 in
/-- compare compares numbers. -/
theorem compare_calls {w : World} {u v : Value} {a b : Nat} (hu : RV w u (dig a)) (hv : RV w v (dig b)) :
    Calls Tryz.prog 167 #[u, v] w fun e w' => e = .returned (.int .i64 (cmpN a b)) ∧ ∃ n, w' = w.drewN n := by
  have HC : (dig a).length = (dig b).length → Aside (cmpTo (dig a) (dig b) (dig a).length = cmpN a b) := fun e => ⟨by
    rw [cmpTo_val (ds_dig a) (ds_dig b) _ (Nat.le_refl _) (by omega), val_take_all, e, val_take_all, val_dig, val_dig]⟩
  have HL1 : (dig a).length < (dig b).length → Aside (cmpN a b = -1) := fun h => ⟨by have := cmp_len h; simp [cmpN, this]⟩
  have HL2 : (dig b).length < (dig a).length → Aside (cmpN a b = 1) := fun h => ⟨by have := cmp_len h; simp only [cmpN]; rw [if_neg (by omega), if_neg (by omega)]⟩
  generalize dig a = xs at *
  generalize dig b = ys at *
  generalize cmpN a b = cc at *
  obtain ⟨A, c, rfl, hc, hd, hr⟩ := id hu
  obtain ⟨B, d, rfl, hc', hd', hr'⟩ := id hv
  have HU := Aside.mk hu
  have HV := Aside.mk hv
  have hl : xs.length ≤ 1073741824 := hd.1
  have hl' : ys.length ≤ 1073741824 := hd'.1
  clear hu hv hd hd' hr hr'
  rcases Nat.lt_or_ge xs.length ys.length with h1 | h1
  · have HC := HL1 h1
    clear HL1 HL2
    go_enter Tryz.func167, Tryz.ntmps167
    go_wp2
    go_ret
    exact ⟨by rw [HC.out]; rfl, 0, rfl⟩
  rcases Nat.lt_or_ge ys.length xs.length with h2 | h2
  · have HC := HL2 h2
    clear HL1 HL2
    go_enter Tryz.func167, Tryz.ntmps167
    go_wp2
    go_ret
    exact ⟨by rw [HC.out]; rfl, 0, rfl⟩
  have HC := HC (by omega)
  clear HL1 HL2
  go_enter Tryz.func167, Tryz.ntmps167
  go_wp2
  go_loopw [5] (fun i wr => ∃ k : Nat, k ≤ xs.length ∧ i = .int .i64 ((k : Int) - 1) ∧ Aside (cc = cmpTo xs ys k) ∧ Aside (∃ n, wr = w.drewN n)) (fun i _ => (intOf i + 1).toNat)
  case atStart => exact ⟨xs.length, Nat.le_refl _, rfl, ⟨HC.out.symm⟩, ⟨0, rfl⟩⟩
  case round =>
    obtain ⟨k, hk, rfl, HK, HW⟩ := hrel
    cases k with
    | zero =>
      go_wp2
      go_ret
      exact ⟨by rw [HK.out]; rfl, HW.out⟩
    | succ k =>
      obtain ⟨ad, rfl, hx⟩ := HU.out.at' k (by omega)
      obtain ⟨bd, rfl, hy⟩ := HV.out.at' k (by omega)
      obtain ⟨n, rfl⟩ := HW.out
      have hK := HK.out
      simp only [cmpTo] at hK
      clear HK
      generalize xs.getD k 0 = x at hx hK
      generalize ys.getD k 0 = y at hy hK
      by_cases hxy : x = y
      · rw [if_pos hxy] at hK
        subst hxy
        have HK := Aside.mk hK
        clear hK
        go_wp2
        go_quiet (fail)
        go_wp2
        go_roundw
        case rel => exact ⟨k, by omega, rfl, HK, ⟨_, rfl⟩⟩
        case measure => simp [intOf]
      · rw [if_neg hxy] at hK
        have HK := Aside.mk hK
        have hne : ((x : Int) == (y : Int)) = false := by simp; omega
        have hne' : ((x : Int) != (y : Int)) = true := by simp; omega
        clear hK hxy
        go_wp2
        go_quiet (fail)
        go_wp2
        go_quiet (fail)
        go_wp2
        · have hxy : x < y := by assumption
          go_ret
          exact ⟨by rw [HK.out, if_pos hxy]; rfl, drewN3 _ _ _ _⟩
        · have hxy : ¬x < y := by assumption
          go_ret
          exact ⟨by rw [HK.out, if_neg hxy]; rfl, drewN3 _ _ _ _⟩
end Go.Proofs.YtgfkachfbnbikaaGreatDoor
