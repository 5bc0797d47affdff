/- Contracts of the leaves of package nat: trim, compare, at, add, sub, mul. Contracts of package nat: mul, short. Contracts of package nat: sub, compare. Contracts of package nat: short, left, right. Contracts of package nat: take, give. Plain arithmetic of one round of a long division: a digit of the quotient is guessed of the first digits, is at most one too great, and one too great is mended. Plain arithmetic of the rows of a long division. -/
import Derived.Test.YtcbaipnphepbeaaGreatDoorProg
import Derived.Test.YtcbaipnphepbeaaGreatDoorNa
import Derived.StillTailTactics
namespace Go.Proofs.YtcbaipnphepbeaaGreatDoor
open Go.RowKit

/-- trim leaves zeros at the end out. -/
theorem trim_calls {w : World} {b : Nat} {v : Value} {xs : List Nat} (h : OV b w v xs) :
    Calls Tryz.prog 174 #[v] w fun e w' => ∃ u, e = .returned u ∧ OV b w' u (dig (val xs)) ∧ w = w' := by
  obtain ⟨A, c, rfl, hc⟩ := h.form
  have hl : xs.length ≤ 1073741824 := h.1.1
  have H := Aside.mk h
  have hd : Ds xs := h.1.2
  have E : Aside (trimTo xs xs.length = dig (val xs)) := ⟨by rw [trimTo_dig hd _ (Nat.le_refl _), val_take_all]⟩
  have HD := Aside.mk hd
  clear h hd
  go_enter Tryz.func174, Tryz.ntmps174
  go_wp2
  go_loop [0] (fun v => ∃ k : Nat, k ≤ xs.length ∧ v = .slice A k c ∧ Aside (trimTo xs xs.length = trimTo xs k)) (fun v => match v with | .slice _ k _ => k | _ => 0)
  case atStart => exact ⟨_, Nat.le_refl _, rfl, ⟨rfl⟩⟩
  case round =>
    obtain ⟨k, hk, rfl, HK⟩ := hrel
    cases k with
    | zero =>
      go_wp2
      go_ret
      exact ⟨.slice A 0 c, rfl, by rw [← E.out, HK.out]; exact H.out.take 0 (by omega), rfl⟩
    | succ k =>
      obtain ⟨ad, rfl, hx⟩ := (H.out.rv).at' k (by omega)
      have hkc : k ≤ c := by omega
      by_cases h0 : xs.getD k 0 = 0
      · have h00 : (((xs[k]?.getD 0 : Nat) : Int) == 0) = true := by rw [List.getD_eq_getElem?_getD] at h0; simp [h0]
        have HK' : Aside (trimTo xs xs.length = trimTo xs k) := ⟨by rw [HK.out, trimTo, if_pos h0]⟩
        clear h0 HK
        go_wp2
        go_round
        case rel => exact ⟨k, by omega, rfl, HK'⟩
        case measure => simp
      · have h00 : (((xs[k]?.getD 0 : Nat) : Int) == 0) = false := by rw [List.getD_eq_getElem?_getD] at h0; simp; omega
        have HK' : Aside (dig (val xs) = xs.take (k + 1)) := ⟨by rw [← E.out, HK.out, trimTo, if_neg h0]⟩
        clear h0 HK
        go_wp2
        go_ret
        exact ⟨.slice (some ad) (k + 1) c, rfl, by rw [HK'.out]; exact H.out.take (k + 1) hk, rfl⟩

/-- at is a digit, or 0. -/
theorem at_calls {w : World} {v : Value} {xs : List Nat} {i : Int} {k x : Nat} (h : RV w v xs) (hi : i = (k : Int)) (hx : xs.getD k 0 = x) :
    Calls Tryz.prog 189 #[v, .int .i64 i] w fun e w' => e = .returned (.int .u64 (x : Int)) ∧ w = w' := by
  subst hi
  obtain ⟨A, c, rfl, hc, hd, hr⟩ := h
  have hl : xs.length ≤ 1073741824 := hd.1
  rcases Nat.lt_or_ge k xs.length with hk | hk
  · obtain ⟨ad, rfl, hcell⟩ := hr.at32 k hk
    rw [hx] at hcell
    have hx4 : x < 4294967296 := hx ▸ Ds.get hd.2 k
    clear hr hx hd
    go_enter Tryz.func189, Tryz.ntmps189
    go_wp2
    go_ret
    exact ⟨rfl, rfl⟩
  · obtain rfl : x = 0 := by rw [← hx, getD_ge hk]
    clear hr hx hd
    go_enter Tryz.func189, Tryz.ntmps189
    go_wp2
    go_ret
    exact ⟨rfl, rfl⟩


end Go.Proofs.YtcbaipnphepbeaaGreatDoor

namespace Go.Proofs.YtcbaipnphepbeaaGreatDoor
open Go.RowKit


end Go.Proofs.YtcbaipnphepbeaaGreatDoor

namespace Go.Proofs.YtcbaipnphepbeaaGreatDoor
open Go.RowKit


/-- How two lists of one length compare, looked at from digit n - 1 down. -/
def cmpTo (xs ys : List Nat) : Nat → Int
  | 0 => 0
  | i + 1 => if xs.getD i 0 = ys.getD i 0 then cmpTo xs ys i else if xs.getD i 0 < ys.getD i 0 then -1 else 1
def cmpN (a b : Nat) : Int := if a < b then -1 else if a = b then 0 else 1
theorem cmpTo_val {xs ys : List Nat} (hx : Ds xs) (hy : Ds ys) : ∀ n, n ≤ xs.length → n ≤ ys.length → cmpTo xs ys n = cmpN (val (xs.take n)) (val (ys.take n))
  | 0, _, _ => by simp [cmpTo, val, cmpN]
  | n + 1, h, h' => by
    have ih := cmpTo_val hx hy n (by omega) (by omega)
    have h1 := val_take_succ xs n (by omega)
    have h2 := val_take_succ ys n (by omega)
    have l1 := val_lt (hx.take n)
    have l2 := val_lt (hy.take n)
    rw [List.length_take, Nat.min_eq_left (by omega)] at l1 l2
    simp only [cmpTo]
    rw [h1, h2]
    generalize hX : val (xs.take n) = X at *
    generalize hY : val (ys.take n) = Y at *
    generalize hP : 4294967296 ^ n = P at *
    generalize xs.getD n 0 = a
    generalize ys.getD n 0 = b
    split
    · rename_i e
      subst e
      rw [ih]; unfold cmpN
      generalize P * a = z
      congr 1
      · simp
      · congr 1
        simp
    · rename_i e
      unfold cmpN
      split
      · rename_i e2
        have : P * (a + 1) ≤ P * b := Nat.mul_le_mul_left _ e2
        rw [Nat.mul_add] at this
        rw [if_pos (by omega)]
      · have : P * (b + 1) ≤ P * a := Nat.mul_le_mul_left _ (by omega)
        rw [Nat.mul_add] at this
        rw [if_neg (by omega), if_neg (by omega)]

/-- A number's digits: as a list that is read. -/
theorem cmp_len {a b : Nat} (h : (dig a).length < (dig b).length) : a < b := by
  rcases Nat.lt_or_ge a b with h' | h'
  · exact h'
  · exfalso
    have h1 := lt_of_dig_length (n := a) (Nat.le_refl _)
    have h2 : (dig b).length ≤ (dig a).length := dig_length_le (by omega)
    omega

set_option maxHeartbeats 400000 in
/-- compare compares numbers. -/
theorem compare_calls {w : World} {u v : Value} {a b : Nat} (hu : RV w u (dig a)) (hv : RV w v (dig b)) :
    Calls Tryz.prog 173 #[u, v] w fun e w' => e = .returned (.int .i64 (cmpN a b)) ∧ ∃ n, w' = w.drewN n := by
  have HC : (dig a).length = (dig b).length → Aside (cmpTo (dig a) (dig b) (dig a).length = cmpN a b) := fun e => ⟨by
    rw [cmpTo_val (ds_dig a) (ds_dig b) _ (Nat.le_refl _) (by omega), val_take_all, e, val_take_all, val_dig, val_dig]⟩
  have HL1 : (dig a).length < (dig b).length → Aside (cmpN a b = -1) := fun h => ⟨by have := cmp_len h; simp [cmpN, this]⟩
  have HL2 : (dig b).length < (dig a).length → Aside (cmpN a b = 1) := fun h => ⟨by have := cmp_len h; simp only [cmpN]; rw [if_neg (by omega), if_neg (by omega)]⟩
  generalize dig a = xs at *
  generalize dig b = ys at *
  generalize cmpN a b = cc at *
  obtain ⟨A, c, rfl, hc, hd, hr⟩ := id hu
  obtain ⟨B, d, rfl, hc', hd', hr'⟩ := id hv
  have HU := Aside.mk hu
  have HV := Aside.mk hv
  have hl : xs.length ≤ 1073741824 := hd.1
  have hl' : ys.length ≤ 1073741824 := hd'.1
  clear hu hv hd hd' hr hr'
  rcases Nat.lt_or_ge xs.length ys.length with h1 | h1
  · have HC := HL1 h1
    clear HL1 HL2
    go_enter Tryz.func173, Tryz.ntmps173
    go_wp2
    go_ret
    exact ⟨by rw [HC.out]; rfl, 0, rfl⟩
  rcases Nat.lt_or_ge ys.length xs.length with h2 | h2
  · have HC := HL2 h2
    clear HL1 HL2
    go_enter Tryz.func173, Tryz.ntmps173
    go_wp2
    go_ret
    exact ⟨by rw [HC.out]; rfl, 0, rfl⟩
  have HC := HC (by omega)
  clear HL1 HL2
  go_enter Tryz.func173, Tryz.ntmps173
  go_wp2
  go_loopw [5] (fun i wr => ∃ k : Nat, k ≤ xs.length ∧ i = .int .i64 ((k : Int) - 1) ∧ Aside (cc = cmpTo xs ys k) ∧ Aside (∃ n, wr = w.drewN n)) (fun i _ => (intOf i + 1).toNat)
  case atStart => exact ⟨xs.length, Nat.le_refl _, rfl, ⟨HC.out.symm⟩, ⟨0, rfl⟩⟩
  case round =>
    obtain ⟨k, hk, rfl, HK, HW⟩ := hrel
    cases k with
    | zero =>
      go_wp2
      go_ret
      exact ⟨by rw [HK.out]; rfl, HW.out⟩
    | succ k =>
      obtain ⟨ad, rfl, hx⟩ := HU.out.at' k (by omega)
      obtain ⟨bd, rfl, hy⟩ := HV.out.at' k (by omega)
      obtain ⟨n, rfl⟩ := HW.out
      have hK := HK.out
      simp only [cmpTo] at hK
      clear HK
      generalize xs.getD k 0 = x at hx hK
      generalize ys.getD k 0 = y at hy hK
      by_cases hxy : x = y
      · rw [if_pos hxy] at hK
        subst hxy
        have HK := Aside.mk hK
        clear hK
        go_wp2
        go_quiet (fail)
        go_wp2
        go_roundw
        case rel => exact ⟨k, by omega, rfl, HK, ⟨_, rfl⟩⟩
        case measure => simp [intOf]
      · rw [if_neg hxy] at hK
        have HK := Aside.mk hK
        have hne : ((x : Int) == (y : Int)) = false := by simp; omega
        have hne' : ((x : Int) != (y : Int)) = true := by simp; omega
        clear hK hxy
        go_wp2
        go_quiet (fail)
        go_wp2
        go_quiet (fail)
        go_wp2
        · have hxy : x < y := by assumption
          go_ret
          exact ⟨by rw [HK.out, if_pos hxy]; rfl, drewN3 _ _ _ _⟩
        · have hxy : ¬x < y := by assumption
          go_ret
          exact ⟨by rw [HK.out, if_neg hxy]; rfl, drewN3 _ _ _ _⟩
end Go.Proofs.YtcbaipnphepbeaaGreatDoor

namespace Go.Proofs.YtcbaipnphepbeaaGreatDoor
open Go.RowKit

theorem val_drop (xs : List Nat) (k : Nat) (h : k < xs.length) : val (xs.drop k) = xs.getD k 0 + 4294967296 * val (xs.drop (k + 1)) := by
  rw [List.drop_eq_getElem_cons h, val, List.getD_eq_getElem?_getD, List.getElem?_eq_getElem h]; rfl
theorem drop_set_self (xs : List Nat) (k d : Nat) : (xs.set k d).drop (k + 1) = xs.drop (k + 1) := by
  rw [List.drop_set]; simp

set_option maxHeartbeats 400000 in
/-- short divides by one digit. -/
theorem short_calls {w : World} {u : Value} {xs : List Nat} {y : Nat} (hu : RV w u xs) (hy : y < 4294967296) (hy0 : 0 < y) :
    Calls Tryz.prog 157 #[u, .int .u32 (y : Int)] w fun e w' => ∃ r, e = .returned (.tuple #[r, .int .u32 ((val xs % y : Nat) : Int)]) ∧ OV w.heap.size w' r (dig (val xs / y)) ∧ Ext w w' := by
  obtain ⟨A, c, rfl, hc, hd, hr⟩ := id hu
  have HU := Aside.mk hu
  have hl : xs.length ≤ 1073741824 := hd.1
  clear hu hd hr
  have hyz : ((y : Int) == 0) = false := by simp; omega
  go_enter Tryz.func157, Tryz.ntmps157
  go_wp2_with (refine make_u32 _ rfl _ _ rfl xs.length _ _ rfl rfl rfl rfl hl ?_; intro w1 z hz0 hb1 hz1; subst hz1; have HZ0 := Aside.mk hz0; have HB0 := Aside.mk hb1; clear hz0 hb1)
  go_loopw [7, 8] (fun r i wr => ∃ (k c : Nat) (zs : List Nat), k ≤ xs.length ∧ i = .int .i64 ((k : Int) - 1) ∧ r = .int .u64 (c : Int) ∧ c < y ∧ Aside (OV w.heap.size wr (.slice (some ⟨w.heap.size, 0, none⟩) xs.length xs.length) zs) ∧ Aside (Ext w wr) ∧ Aside (zs.length = xs.length) ∧
    Aside (val (xs.drop k) = val (zs.drop k) * y + c)) (fun _ i _ => (intOf i + 1).toNat)
  case atStart => exact ⟨xs.length, 0, _, Nat.le_refl _, rfl, rfl, hy0, HZ0, HB0, ⟨by simp⟩, ⟨by rw [List.drop_length]; simp [val]⟩⟩
  case round =>
    obtain ⟨k, cr, zs, hk, rfl, rfl, hcr, HZ, HB, HL, HS⟩ := hrel
    cases k with
    | succ k =>
      obtain ⟨x, hx⟩ : ∃ x, xs.getD k 0 = x := ⟨_, rfl⟩
      have hx4 : x < 4294967296 := hx ▸ HU.out.dg.get k
      obtain ⟨ad, rfl, hcell⟩ := (HU.out.ext HB.out).at' k (by omega)
      rw [hx] at hcell
      have HX := Aside.mk hx
      clear hx
      have hzc := HZ.out.cell k (by rw [HL.out]; omega)
      have hzf := HZ.out.free k
      have hor := or_shift32 cr x (by omega) hx4
      obtain ⟨s, hs⟩ : ∃ s, cr * 4294967296 + x = s := ⟨_, rfl⟩
      rw [hs] at hor
      have hs64 : s < 18446744073709551616 := by omega
      obtain ⟨q, hq⟩ : ∃ q, s / y = q := ⟨_, rfl⟩
      obtain ⟨t, ht⟩ : ∃ t, s % y = t := ⟨_, rfl⟩
      have hdiv : ((s : Int) / (y : Int)) = (q : Int) := by rw [← hq]; simp
      have hmod : ((s : Int) % (y : Int)) = (t : Int) := by rw [← ht]; simp
      have hqm : s = q * y + t := by rw [← hq, ← ht, Nat.mul_comm]; exact (Nat.div_add_mod s y).symm
      have hty : t < y := by rw [← ht]; exact Nat.mod_lt _ hy0
      have hqb : q < 4294967296 := by
        rw [← hq]; apply Nat.div_lt_of_lt_mul
        have : (cr + 1) * 4294967296 ≤ y * 4294967296 := Nat.mul_le_mul_right _ hcr
        omega
      have HQ := Aside.mk hqm
      have HSS := Aside.mk hs
      clear hq ht hqm hs
      go_wp2
      go_roundw
      case rel =>
        refine ⟨k, t, zs.set k q, by omega, by go_num, by rw [hmod], hty, ⟨HZ.out.store k hqb⟩, ⟨HB.out.set (Nat.le_refl _) _⟩, ⟨by simp [HL.out]⟩, ⟨?_⟩⟩
        rw [val_drop xs k (by omega), val_drop (zs.set k q) k (by simp [HL.out]; omega), HX.out, HS.out, drop_set_self, getD_set_self (by rw [HL.out]; omega)]
        have h1 := HQ.out
        have h2 := HSS.out
        rw [Nat.add_mul, Nat.mul_add, ← Nat.mul_assoc]
        omega
      case measure => simp [intOf]
    | zero =>
      have HE : Aside (val xs = val zs * y + cr) := ⟨by have := HS.out; simpa using this⟩
      have HQ : Aside (val zs = val xs / y ∧ val xs % y = cr) := ⟨by
        have h := HE.out
        rw [h, Nat.mul_comm]
        exact ⟨by rw [Nat.mul_add_div hy0, Nat.div_eq_of_lt hcr]; rfl, by rw [Nat.mul_add_mod]; exact Nat.mod_eq_of_lt hcr⟩⟩
      go_wp2_with (go_at_call 174; with_reducible refine (trim_calls HZ.out).mono ?_; rintro e w' ⟨r, rfl, hr, rfl⟩; have HR := Aside.mk hr; clear hr)
      go_ret2
      exact ⟨r, by rw [HQ.out.2]; rfl, by rw [← HQ.out.1]; exact HR.out, HB.out⟩

set_option maxHeartbeats 400000 in
/-- left is a product by a power of two, with one digit more. -/
theorem left_calls {w : World} {u : Value} {xs : List Nat} {n : Nat} (hu : RV w u xs) (hn : n < 32) (hl : xs.length < 1073741824) :
    Calls Tryz.prog 176 #[u, .int .i64 (n : Int)] w fun e w' => ∃ r zs, e = .returned r ∧ zs.length = xs.length + 1 ∧ val zs = val xs * 2 ^ n ∧ OV w.heap.size w' r zs ∧ Ext w w' := by
  obtain ⟨A, c, rfl, hc, hd, hr⟩ := id hu
  have HU := Aside.mk hu
  clear hu hd hr
  go_enter Tryz.func176, Tryz.ntmps176
  go_wp2_with (refine make_u32 _ rfl _ _ rfl (xs.length + 1) _ _ rfl rfl (by omega) (by omega) (by omega) ?_; intro w1 z hz0 hb1 hz1; subst hz1; have HZ0 := Aside.mk hz0; have HB0 := Aside.mk hb1; clear hz0 hb1)
  go_loopw [15] (fun i wr => ∃ (k : Nat) (zs : List Nat), k ≤ xs.length ∧ i = .int .i64 (k : Int) ∧ Aside (OV w.heap.size wr (.slice (some ⟨w.heap.size, 0, none⟩) (xs.length + 1) (xs.length + 1)) zs) ∧ Aside (Ext w wr) ∧ Aside (zs.length = xs.length + 1) ∧
    Aside (val zs = val (xs.take k) * 2 ^ n)) (fun i _ => xs.length - (intOf i).toNat)
  case atStart => exact ⟨0, _, Nat.zero_le _, rfl, HZ0, HB0, ⟨by simp⟩, ⟨by simp [val, val_zeros]⟩⟩
  case round =>
    obtain ⟨k, zs, hk, rfl, HZ, HB, HL, HS⟩ := hrel
    by_cases hlt : k < xs.length
    · obtain ⟨x, hx⟩ : ∃ x, xs.getD k 0 = x := ⟨_, rfl⟩
      have hx4 : x < 4294967296 := hx ▸ HU.out.dg.get k
      obtain ⟨ad, rfl, hcell⟩ := (HU.out.ext HB.out).at' k (by omega)
      rw [hx] at hcell
      have HX := Aside.mk hx
      clear hx
      have hzc := HZ.out.cell k (by rw [HL.out]; omega)
      have hzf := HZ.out.free k
      have hzc' := HZ.out.cell (k + 1) (by rw [HL.out]; omega)
      have hzf' := HZ.out.free (k + 1)
      have hz0 : zs.getD k 0 < 2 ^ n := getD_le_of_val (by
        rw [HS.out]
        have h1 := val_lt (HU.out.dg.ds.take k)
        rw [List.length_take, Nat.min_eq_left hk] at h1
        exact Nat.mul_lt_mul_of_pos_right h1 (Nat.two_pow_pos n))
      have hz1 : zs.getD (k + 1) 0 = 0 := getD_zero_of_val (by
        rw [HS.out, Nat.pow_succ]
        have h1 := val_lt (HU.out.dg.ds.take k)
        rw [List.length_take, Nat.min_eq_left hk] at h1
        have h2 : 2 ^ n ≤ 2 ^ 32 := Nat.pow_le_pow_right (by omega) (by omega)
        have h3 : val (xs.take k) * 2 ^ n ≤ val (xs.take k) * 4294967296 := Nat.mul_le_mul_left _ h2
        omega)
      rw [hz1] at hzc'
      generalize hz : zs.getD k 0 = z at hzc hz0
      obtain ⟨m, hm⟩ : ∃ m, x % 2 ^ (32 - n) = m := ⟨_, rfl⟩
      have hps := pow_split n (by omega)
      have hxm : x * 2 ^ n % 4294967296 = m * 2 ^ n := by rw [← hm, ← hps, Nat.mul_mod_mul_right]
      have hmb : m * 2 ^ n + 2 ^ n ≤ 4294967296 := by
        have : m < 2 ^ (32 - n) := by rw [← hm]; exact Nat.mod_lt _ (Nat.two_pow_pos _)
        have h2 : (m + 1) * 2 ^ n ≤ 2 ^ (32 - n) * 2 ^ n := Nat.mul_le_mul_right _ this
        rw [hps, Nat.add_mul] at h2; omega
      have hor := or_high z m n hz0 (by omega)
      have hpb : 2 ^ n ≤ 2147483648 := by
        have : 2 ^ n ≤ 2 ^ 31 := Nat.pow_le_pow_right (by omega) (by omega)
        omega
      have hxb : x * 2 ^ n ≤ 4294967295 * 2147483648 := Nat.mul_le_mul (by omega) hpb
      obtain ⟨W, hW⟩ : ∃ W, x * 2 ^ n = W := ⟨_, rfl⟩
      have hsh : IntKind.u64.wrap ((x : Int) * 2 ^ n) = (W : Int) := by
        rw [wrap_u64, ← hW]
        have : ((x : Int) * 2 ^ n) = ((x * 2 ^ n : Nat) : Int) := by simp
        rw [this]; omega
      obtain ⟨hi, hhi⟩ : ∃ hi, W / 4294967296 = hi := ⟨_, rfl⟩
      have hlo : (W : Int) % 4294967296 = ((m * 2 ^ n : Nat) : Int) := by rw [← hxm, hW]; omega
      have hhi4 : hi < 4294967296 := by omega
      have hhi' : (W : Int) / 4294967296 = (hi : Int) := by omega
      obtain ⟨L, hL⟩ : ∃ L, m * 2 ^ n = L := ⟨_, rfl⟩
      rw [hL] at hlo hor hxm
      obtain ⟨S, hSS⟩ : ∃ S, L + z = S := ⟨_, rfl⟩
      rw [hSS] at hor
      have hS4 : S < 4294967296 := by omega
      have HW := Aside.mk (show W = (S - z) + 4294967296 * hi by omega)
      have HSz := Aside.mk (show z ≤ S by omega)
      have HWx := Aside.mk hW
      have HZk := Aside.mk hz
      have HZk1 := Aside.mk hz1
      clear hz hz1 hz0 hm hps hxm hmb hpb hxb hW hhi hL hSS
      go_wp2
      go_roundw
      case rel =>
        refine ⟨k + 1, (zs.set k S).set (k + 1) hi, by omega, by go_num, ⟨?_⟩, ⟨?_⟩, ⟨by simp [HL.out]⟩, ⟨?_⟩⟩
        · exact (HZ.out.store k hS4).store (k + 1) hhi4
        · exact (HB.out.set (Nat.le_refl _) _).set (Nat.le_refl _) _
        · have v1 := val_set S (show k < zs.length by rw [HL.out]; omega)
          have v2 := val_set hi (show k + 1 < (zs.set k S).length by simp [HL.out]; omega)
          rw [getD_set_ne (by omega), HZk1.out, Nat.mul_zero, Nat.add_zero, Nat.pow_succ] at v2
          rw [HZk.out] at v1
          have e : 4294967296 ^ k * W = 4294967296 ^ k * (S - z) + 4294967296 ^ k * 4294967296 * hi := by
            conv => lhs; rw [HW.out, Nat.mul_add, ← Nat.mul_assoc]
          have e2 : 4294967296 ^ k * S = 4294967296 ^ k * (S - z) + 4294967296 ^ k * z := by
            rw [← Nat.mul_add]; congr 1; have := HSz.out; omega
          rw [val_take_step, HX.out, Nat.add_mul, ← HS.out, Nat.mul_assoc, HWx.out]
          omega
      case measure => simp [intOf]; omega
    · have hkm : k = xs.length := by omega
      subst hkm
      go_wp2
      go_ret
      exact ⟨_, zs, rfl, HL.out, by rw [HS.out, val_take_all], HZ.out, HB.out⟩

set_option maxRecDepth 10000 in
set_option maxHeartbeats 400000 in
/-- right is a quotient by a power of two. -/
theorem right_calls {w : World} {u : Value} {xs : List Nat} {n : Nat} (hu : RV w u xs) (hn : n < 32) :
    Calls Tryz.prog 179 #[u, .int .i64 (n : Int)] w fun e w' => ∃ r, e = .returned r ∧ OV w.heap.size w' r (dig (val xs / 2 ^ n)) ∧ Ext w w' := by
  obtain ⟨A, c, rfl, hc, hd, hr⟩ := id hu
  have HU := Aside.mk hu
  have hl : xs.length ≤ 1073741824 := hd.1
  clear hu hd hr
  go_enter Tryz.func179, Tryz.ntmps179
  go_wp2_with (refine make_u32 _ rfl _ _ rfl xs.length _ _ rfl rfl rfl rfl hl ?_; intro w1 z hz0 hb1 hz1; subst hz1; have HZ0 := Aside.mk hz0; have HB0 := Aside.mk hb1; clear hz0 hb1)
  go_loopw [13] (fun i wr => ∃ (k : Nat) (zs : List Nat), k ≤ xs.length ∧ i = .int .i64 (k : Int) ∧ Aside (OV w.heap.size wr (.slice (some ⟨w.heap.size, 0, none⟩) xs.length xs.length) zs) ∧ Aside (Ext w wr) ∧ Aside (zs.length = xs.length) ∧
    Aside (val zs = val (xs.take k) / 2 ^ n)) (fun i _ => xs.length - (intOf i).toNat)
  case atStart => exact ⟨0, _, Nat.zero_le _, rfl, HZ0, HB0, ⟨by simp⟩, ⟨by simp [val, val_zeros]⟩⟩
  case round =>
    obtain ⟨k, zs, hk, rfl, HZ, HB, HL, HS⟩ := hrel
    by_cases hlt : k < xs.length
    · obtain ⟨x, hx⟩ : ∃ x, xs.getD k 0 = x := ⟨_, rfl⟩
      have hx4 : x < 4294967296 := hx ▸ HU.out.dg.get k
      obtain ⟨ad, rfl, hcell⟩ := (HU.out.ext HB.out).at' k (by omega)
      rw [hx] at hcell
      have HX := Aside.mk hx
      clear hx
      have hzc := HZ.out.cell k (by rw [HL.out]; omega)
      have hzf := HZ.out.free k
      have hvk := val_lt (HU.out.dg.ds.take k)
      rw [List.length_take, Nat.min_eq_left hk] at hvk
      have hz0 : zs.getD k 0 = 0 := getD_zero_of_val (by rw [HS.out]; exact Nat.lt_of_le_of_lt (Nat.div_le_self _ _) hvk)
      rw [hz0] at hzc
      have hd4 : x / 2 ^ n < 4294967296 := Nat.lt_of_le_of_lt (Nat.div_le_self _ _) hx4
      obtain ⟨D, hD⟩ : ∃ D, x / 2 ^ n = D := ⟨_, rfl⟩
      rw [hD] at hd4
      have hdx : (x : Int) / 2 ^ n = (D : Int) := by rw [← hD]; simp
      have hor : bits .or .u32 0 (D : Int) = (D : Int) := by have := or_high 0 D 0 (by decide) (by omega); simpa using this
      by_cases hk0 : k = 0
      · have hdec : decide (0 < k) = false := by simp; omega
        have HK0 := Aside.mk hk0
        have HDD := Aside.mk hD
        clear hk0 hD hz0 hvk
        go_wp2
        go_still_tail 9, (by kernel_rfl)
        change wpList _ _ _ _ _ wr.drew
        go_wp2
        go_roundw
        case rel =>
          refine ⟨k + 1, zs.set k D, by omega, by go_num, ⟨HZ.out.store k hd4⟩, ⟨(HB.out.drew).set (Nat.le_refl _) _⟩, ⟨by simp [HL.out]⟩, ⟨?_⟩⟩
          have v1 := val_set D (show k < zs.length by rw [HL.out]; omega)
          have hk0 := HK0.out
          subst hk0
          rw [HS.out] at v1
          rw [val_take_step, HX.out]
          simp only [List.take_zero, val, Nat.zero_div, Nat.pow_zero, Nat.one_mul, Nat.zero_add] at v1 ⊢
          rw [HDD.out]
          have : val zs = 0 := by rw [HS.out]; simp [val]
          have h2 : zs.getD 0 0 = 0 := getD_zero_of_val (by rw [this]; decide)
          omega
        case measure => simp [intOf]; omega
      · obtain ⟨j, hj⟩ : ∃ j, k = j + 1 := ⟨k - 1, by omega⟩
        have hdec : decide (0 < k) = true := by simp; omega
        have hkj : (k : Int) - 1 = (j : Int) := by omega
        have hwj : IntKind.i64.wrap (j : Int) = (j : Int) := wrap_i64 _ (by omega) (by omega)
        have HJ := Aside.mk hj
        have hzc' := HZ.out.cell j (by rw [HL.out]; omega)
        have hzf' := HZ.out.free j
        have hjk : j < k := by omega
        have hjl : j < xs.length := by omega
        have hps := pow_split n (by omega)
        have hzb : zs.getD j 0 < 2 ^ (32 - n) := getD_le_of_val (by
          rw [HS.out]
          apply Nat.div_lt_of_lt_mul
          rw [Nat.mul_comm, Nat.mul_assoc, hps]
          have e : 4294967296 ^ k = 4294967296 ^ j * 4294967296 := by rw [hj, Nat.pow_succ]
          rw [← e]; exact hvk)
        generalize hz : zs.getD j 0 = z at hzc' hzb
        have hE1 : x * 4294967296 / 2 ^ n % 4294967296 = (x % 2 ^ n) * 2 ^ (32 - n) := by
          have h1 : x * 4294967296 / 2 ^ n = x * 2 ^ (32 - n) := by
            rw [← hps, ← Nat.mul_assoc, Nat.mul_div_cancel _ (Nat.two_pow_pos n)]
          rw [h1, ← hps, Nat.mul_comm (2 ^ (32 - n)) (2 ^ n), Nat.mul_mod_mul_right]
        have hEb : (x % 2 ^ n) * 2 ^ (32 - n) + 2 ^ (32 - n) ≤ 4294967296 := by
          have h1 : x % 2 ^ n < 2 ^ n := Nat.mod_lt _ (Nat.two_pow_pos n)
          have h2 : (x % 2 ^ n + 1) * 2 ^ (32 - n) ≤ 2 ^ n * 2 ^ (32 - n) := Nat.mul_le_mul_right _ h1
          rw [Nat.mul_comm (2 ^ n), hps, Nat.add_mul] at h2; omega
        have hor1 := or_high z (x % 2 ^ n) (32 - n) hzb (by omega)
        have hxe : x = 2 ^ n * D + x % 2 ^ n := by rw [← hD]; exact (Nat.div_add_mod x (2 ^ n)).symm
        have hBk : 4294967296 ^ k = 4294967296 ^ j * 2 ^ (32 - n) * 2 ^ n := by rw [hj, Nat.pow_succ, Nat.mul_assoc, hps]
        have HV : Aside (val (xs.take (k + 1)) / 2 ^ n = val zs + 4294967296 ^ k * D + 4294967296 ^ j * ((x % 2 ^ n) * 2 ^ (32 - n))) := ⟨by
          rw [val_take_step, HX.out, hBk, Nat.mul_assoc (4294967296 ^ j * 2 ^ (32 - n)), Nat.mul_comm (2 ^ n) x, ← Nat.mul_assoc, Nat.add_mul_div_right _ _ (Nat.two_pow_pos n), ← HS.out]
          conv => lhs; rw [hxe]
          rw [Nat.mul_add]
          generalize 4294967296 ^ j = P
          generalize 2 ^ (32 - n) = R
          generalize 2 ^ n = M
          generalize x % M = E
          rw [Nat.mul_assoc P R (M * D), Nat.mul_assoc P R E, Nat.mul_comm R E, ← Nat.mul_assoc R M D, ← Nat.mul_assoc P, ← Nat.mul_assoc P R M, Nat.add_assoc]⟩
        obtain ⟨L, hL⟩ : ∃ L, (x % 2 ^ n) * 2 ^ (32 - n) = L := ⟨_, rfl⟩
        rw [hL] at hor1 hE1 hEb HV
        have hE : (x : Int) * 4294967296 / 2 ^ n % 4294967296 = (L : Int) := by rw [← hE1]; simp
        obtain ⟨S, hSS⟩ : ∃ S, L + z = S := ⟨_, rfl⟩
        rw [hSS] at hor1
        have hS4 : S < 4294967296 := by omega
        have HLz := Aside.mk hSS
        have HZj := Aside.mk hz
        have HZk := Aside.mk hz0
        clear hj hk0 hps hzb hz hE1 hEb hxe hBk hL hSS hz0 hvk hD
        go_wp2
        go_still_tail 9, (by kernel_rfl)
        change wpList _ _ _ _ _ wr.drew
        go_wp2
        have H2 := Aside.mk ((show OV w.heap.size wr.drew _ zs from HZ.out).store k hd4)
        have HB2 : Aside (Ext w (wr.drew.setCell ⟨w.heap.size, k, none⟩ (.int .u32 (D : Int)))) := ⟨HB.out.drew.set (Nat.le_refl _) _⟩
        rw [World.setCell_drew] at H2 HB2
        generalize hw2 : (wr.setCell ⟨w.heap.size, k, none⟩ (.int .u32 (D : Int))).drew = w2 at *
        clear hw2 hzc hzf hzc' hzf' hcell
        have hzc' := H2.out.cell j (by simp [HL.out]; omega)
        have hzf' := H2.out.free j
        rw [getD_set_ne (by omega), HZj.out] at hzc'
        go_still_tail 13, (by kernel_rfl)
        change wpList _ _ _ _ _ w2.drew
        go_wp2
        go_roundw
        case rel =>
          refine ⟨k + 1, (zs.set k D).set j S, by omega, by go_num, ⟨(show OV w.heap.size w2.drew _ _ from H2.out).store j hS4⟩, ⟨(HB2.out.drew).set (Nat.le_refl _) _⟩, ⟨by simp [HL.out]⟩, ⟨?_⟩⟩
          have v1 := val_set D (show k < zs.length by rw [HL.out]; omega)
          have v2 := val_set S (show j < (zs.set k D).length by simp [HL.out]; omega)
          rw [getD_set_ne (by omega), HZj.out, ← HLz.out, Nat.mul_add] at v2
          rw [HZk.out, Nat.mul_zero, Nat.add_zero] at v1
          rw [HV.out, ← HLz.out]
          omega
        case measure => simp [intOf]; omega
    · have hkm : k = xs.length := by omega
      subst hkm
      have HE : Aside (val zs = val xs / 2 ^ n) := ⟨by rw [HS.out, val_take_all]⟩
      go_wp2_with (go_at_call 174; with_reducible refine (trim_calls HZ.out).mono ?_; rintro e w' ⟨r, rfl, hr, rfl⟩; have HR := Aside.mk hr; clear hr)
      go_ret
      exact ⟨r, rfl, by rw [← HE.out]; exact HR.out, HB.out⟩
end Go.Proofs.YtcbaipnphepbeaaGreatDoor

namespace Go.Proofs.YtcbaipnphepbeaaGreatDoor
open Go.RowKit

theorem grown_drewN (w : World) (n : Nat) (r : Option Nat) : w.grownBy (w.drewN n) r := ⟨rfl, rfl, rfl, Nat.le_refl _, fun _ _ _ => rfl⟩
theorem grown_set {w W : World} {g : Nat} (h : w.grownBy W (some g)) (p : Addr) (hp : p.block = g) (v : Value) : w.grownBy (W.setCell p v) (some g) :=
  ⟨h.os, h.tape, h.output, by simpa using h.size, fun k hk hne => by
    rw [Below.heap_setCell _ _ _ _ (by intro e; rw [e, hp] at hne; exact hne rfl)]; exact h.block k hk hne⟩

set_option maxRecDepth 10000 in
set_option maxHeartbeats 400000 in
/-- take takes q times v from a part of a row that is owned. -/
theorem take_calls {w : World} {b b2 g N C i L c' q : Nat} {vv : Value} {us vs : List Nat} (hu : OV b w (.slice (some ⟨g, 0, none⟩) N C) us) (hiL : i + L ≤ us.length) (hv : OV b2 w vv vs) (hg : g < b2) (hq : q < 4294967296) :
    Calls Tryz.prog 177 #[.slice (some ⟨g, i, none⟩) L c', vv, .int .u64 (q : Int)] w fun e w' => ∃ (l c : Nat) (us' : List Nat), e = .returned (.bool (l == 0)) ∧ l ≤ 1 ∧ c < 4294967296 ∧ (L = vs.length + 1 → c = 0) ∧
      OV b w' (.slice (some ⟨g, 0, none⟩) N C) us' ∧ us'.length = us.length ∧ us'.take i = us.take i ∧ us'.drop (i + L) = us.drop (i + L) ∧
      val us' + 4294967296 ^ i * (q * val (vs.take L)) = val us + 4294967296 ^ (i + L) * (c + l) ∧ OV b2 w' vv vs ∧ w.grownBy w' (some g) := by
  obtain ⟨B, d, rfl, hc'⟩ := hv.form
  have HU := Aside.mk hu
  have HV := Aside.mk hv
  have hl : us.length ≤ 1073741824 := hu.1.1
  have hl' : vs.length ≤ 1073741824 := hv.1.1
  clear hu hv
  go_enter Tryz.func177, Tryz.ntmps177
  go_wp2
  go_loopw [7, 8, 13] (fun cr le k' wr => ∃ (k c l : Nat) (zs : List Nat), k ≤ L ∧ k' = .int .i64 (k : Int) ∧ cr = .int .u64 (c : Int) ∧ le = .int .u64 (l : Int) ∧ c < 4294967296 ∧ l ≤ 1 ∧ (k = vs.length + 1 → c = 0) ∧ Aside (OV b wr (.slice (some ⟨g, 0, none⟩) N C) zs) ∧
    Aside (OV b2 wr (.slice B vs.length d) vs) ∧ Aside (w.grownBy wr (some g)) ∧ Aside (zs.length = us.length) ∧ Aside (zs.take i = us.take i) ∧ Aside (zs.drop (i + k) = us.drop (i + k)) ∧
    Aside (val zs + 4294967296 ^ i * (q * val (vs.take k)) = val us + 4294967296 ^ (i + k) * (c + l))) (fun _ _ k' _ => L - (intOf k').toNat)
  case atStart => exact ⟨0, 0, 0, us, Nat.zero_le _, rfl, rfl, rfl, by omega, by omega, by omega, HU, HV, ⟨World.grownBy.refl _ _⟩, ⟨rfl⟩, ⟨rfl⟩, ⟨rfl⟩, ⟨by simp [val]⟩⟩
  case round =>
    obtain ⟨k, cr, l, zs, hk, rfl, rfl, rfl, hcr, hle, hck, HZ, HV, HG, HL, HT, HD, HS⟩ := hrel
    by_cases hlt : k < L
    · obtain ⟨y, hy⟩ : ∃ y, vs.getD k 0 = y := ⟨_, rfl⟩
      have hy4 : y < 4294967296 := hy ▸ HV.out.1.get k
      have HY := Aside.mk hy
      obtain ⟨u, hu⟩ : ∃ u, zs.getD (i + k) 0 = u := ⟨_, rfl⟩
      have hu4 : u < 4294967296 := hu ▸ HZ.out.1.get _
      have hzc := HZ.out.cell (i + k) (by rw [HL.out]; omega)
      have hzf := HZ.out.free (i + k)
      rw [hu] at hzc
      have HUU := Aside.mk hu
      have hqy : q * y ≤ 4294967295 * 4294967295 := Nat.mul_le_mul (by omega) (by omega)
      obtain ⟨z, hz⟩ : ∃ z, q * y = z := ⟨_, rfl⟩
      rw [hz] at hqy
      have hqz : (q : Int) * (y : Int) = (z : Int) := by rw [← hz]; simp
      have hzw : IntKind.u64.wrap (z : Int) = (z : Int) := by rw [wrap_u64]; omega
      obtain ⟨T, hT⟩ : ∃ T, cr + z = T := ⟨_, rfl⟩
      have hTi : (cr : Int) + (z : Int) = (T : Int) := by omega
      have hTb : T < 18446744073709551616 := by omega
      have hTw : IntKind.u64.wrap (T : Int) = (T : Int) := by rw [wrap_u64]; omega
      have hmask := and_mask32 T hTb
      obtain ⟨lo, hlo⟩ : ∃ lo, T % 4294967296 = lo := ⟨_, rfl⟩
      rw [hlo] at hmask
      have hlo4 : lo < 4294967296 := by omega
      obtain ⟨c2, hc2⟩ : ∃ c2, T / 4294967296 = c2 := ⟨_, rfl⟩
      have hc24 : c2 < 4294967296 := by omega
      have hdv : (T : Int) / 4294967296 = (c2 : Int) := by omega
      have HTT := Aside.mk (show cr + q * y = lo + 4294967296 * c2 by omega)
      have HCK := Aside.mk (show k + 1 = vs.length + 1 → c2 = 0 by
        intro e
        have h0 : y = 0 := by rw [← hy, getD_ge (by omega)]
        have hz0 : z = 0 := by rw [← hz, h0, Nat.mul_zero]
        omega)
      clear hz hT hlo hc2 hy hu hck
      rcases Nat.lt_or_ge u (lo + l) with hbb | hbb
      · have e1 : IntKind.u64.wrap (IntKind.u64.wrap ((u : Int) - (lo : Int)) - (l : Int)) = (u : Int) + 18446744073709551616 - lo - l := by rw [wrap_u64, wrap_u64]; omega
        have hd4 : ((u : Int) + 18446744073709551616 - lo - l) % 4294967296 = ((u + 4294967296 - lo - l : Nat) : Int) := by omega
        go_wp2_with (go_at_call 189; with_reducible refine (at_calls (v := .slice B vs.length d) HV.out.rv rfl HY.out).mono ?_; rintro e w' ⟨rfl, rfl⟩)
        go_roundw
        case rel =>
          refine ⟨k + 1, c2, 1, zs.set (i + k) (u + 4294967296 - lo - l), by omega, by go_num, rfl, by congr 1; omega, hc24, by omega, HCK.out, ⟨?_⟩, ⟨?_⟩, ⟨?_⟩, ⟨by simp [HL.out]⟩, ⟨?_⟩, ⟨?_⟩, ⟨?_⟩⟩
          · exact HZ.out.store (i + k) (by omega)
          · exact HV.out.set hg _
          · exact grown_set HG.out _ rfl _
          · rw [take_set_below _ _ _ _ (by omega)]; exact HT.out
          · exact drop_set_above _ HD.out
          · have hv := val_set (u + 4294967296 - lo - l) (show i + k < zs.length by rw [HL.out]; omega)
            rw [HUU.out] at hv
            have e := take_step HS.out hv HTT.out (show (u + 4294967296 - lo - l) + lo + l = u + 4294967296 * 1 by omega)
            rw [val_take_step, HY.out, Nat.mul_add q, Nat.mul_add, ← Nat.add_assoc i k 1, Nat.pow_succ, ← e, Nat.pow_add, Nat.mul_assoc (4294967296 ^ i), Nat.mul_left_comm q]
        case measure => simp [intOf]; omega
      · have hd4 : ((u : Int) - lo - l) = ((u - lo - l : Nat) : Int) := by omega
        go_wp2_with (go_at_call 189; with_reducible refine (at_calls (v := .slice B vs.length d) HV.out.rv rfl HY.out).mono ?_; rintro e w' ⟨rfl, rfl⟩)
        go_roundw
        case rel =>
          refine ⟨k + 1, c2, 0, zs.set (i + k) (u - lo - l), by omega, by go_num, rfl, by congr 1; omega, hc24, by omega, HCK.out, ⟨?_⟩, ⟨?_⟩, ⟨?_⟩, ⟨by simp [HL.out]⟩, ⟨?_⟩, ⟨?_⟩, ⟨?_⟩⟩
          · exact HZ.out.store (i + k) (by omega)
          · exact HV.out.set hg _
          · exact grown_set HG.out _ rfl _
          · rw [take_set_below _ _ _ _ (by omega)]; exact HT.out
          · exact drop_set_above _ HD.out
          · have hv := val_set (u - lo - l) (show i + k < zs.length by rw [HL.out]; omega)
            rw [HUU.out] at hv
            have e := take_step HS.out hv HTT.out (show (u - lo - l) + lo + l = u + 4294967296 * 0 by omega)
            rw [val_take_step, HY.out, Nat.mul_add q, Nat.mul_add, ← Nat.add_assoc i k 1, Nat.pow_succ, ← e, Nat.pow_add, Nat.mul_assoc (4294967296 ^ i), Nat.mul_left_comm q]
        case measure => simp [intOf]; omega
    · have hkL : k = L := by omega
      subst hkL
      have hl0 : (((l : Int) == 0)) = (l == 0) := by rw [Bool.eq_iff_iff]; simp
      go_wp2
      go_ret
      exact ⟨l, cr, zs, by rw [← hl0]; rfl, hle, hcr, hck, HZ.out, HL.out, HT.out, HD.out, HS.out, HV.out, HG.out⟩

set_option maxRecDepth 10000 in
set_option maxHeartbeats 400000 in
/-- give adds a number to a part of a row that is owned. -/
theorem give_calls {w : World} {b b2 g N C i L c' : Nat} {vv : Value} {us vs : List Nat} (hu : OV b w (.slice (some ⟨g, 0, none⟩) N C) us) (hiL : i + L ≤ us.length) (hv : OV b2 w vv vs) (hg : g < b2) :
    Calls Tryz.prog 178 #[.slice (some ⟨g, i, none⟩) L c', vv] w fun e w' => ∃ (c : Nat) (us' : List Nat), e = .returned (.tuple #[]) ∧ c ≤ 1 ∧
      OV b w' (.slice (some ⟨g, 0, none⟩) N C) us' ∧ us'.length = us.length ∧ us'.take i = us.take i ∧ us'.drop (i + L) = us.drop (i + L) ∧
      val us' + 4294967296 ^ (i + L) * c = val us + 4294967296 ^ i * val (vs.take L) ∧ OV b2 w' vv vs ∧ w.grownBy w' (some g) := by
  obtain ⟨B, d, rfl, hc'⟩ := hv.form
  have HU := Aside.mk hu
  have HV := Aside.mk hv
  have hl : us.length ≤ 1073741824 := hu.1.1
  have hl' : vs.length ≤ 1073741824 := hv.1.1
  clear hu hv
  go_enter Tryz.func178, Tryz.ntmps178
  go_wp2
  go_loopw [4, 8] (fun cr k' wr => ∃ (k c : Nat) (zs : List Nat), k ≤ L ∧ k' = .int .i64 (k : Int) ∧ cr = .int .u64 (c : Int) ∧ c ≤ 1 ∧ Aside (OV b wr (.slice (some ⟨g, 0, none⟩) N C) zs) ∧
    Aside (OV b2 wr (.slice B vs.length d) vs) ∧ Aside (w.grownBy wr (some g)) ∧ Aside (zs.length = us.length) ∧ Aside (zs.take i = us.take i) ∧ Aside (zs.drop (i + k) = us.drop (i + k)) ∧
    Aside (val zs + 4294967296 ^ (i + k) * c = val us + 4294967296 ^ i * val (vs.take k))) (fun _ k' _ => L - (intOf k').toNat)
  case atStart => exact ⟨0, 0, us, Nat.zero_le _, rfl, rfl, by omega, HU, HV, ⟨World.grownBy.refl _ _⟩, ⟨rfl⟩, ⟨rfl⟩, ⟨rfl⟩, ⟨by simp [val]⟩⟩
  case round =>
    obtain ⟨k, cr, zs, hk, rfl, rfl, hcr, HZ, HV, HG, HL, HT, HD, HS⟩ := hrel
    by_cases hlt : k < L
    · obtain ⟨y, hy⟩ : ∃ y, vs.getD k 0 = y := ⟨_, rfl⟩
      have hy4 : y < 4294967296 := hy ▸ HV.out.1.get k
      have HY := Aside.mk hy
      obtain ⟨u, hu⟩ : ∃ u, zs.getD (i + k) 0 = u := ⟨_, rfl⟩
      have hu4 : u < 4294967296 := hu ▸ HZ.out.1.get _
      have hzc := HZ.out.cell (i + k) (by rw [HL.out]; omega)
      have hzf := HZ.out.free (i + k)
      rw [hu] at hzc
      have HUU := Aside.mk hu
      clear hy hu
      have hk0 : (0 : Int) ≤ (k : Int) := by omega
      have hkL : (k : Int) < (L : Int) := by omega
      go_wp2
      go_quiet ((go_at_call 189; exact Calls.quiet_of_same ((at_calls (HV.out.rv.ext ((Ext.refl _).drewN _)) rfl HY.out).mono fun _ _ h => ⟨h.1, h.2.symm⟩)))
      go_wp2
      go_roundw
      case rel =>
        refine ⟨k + 1, (cr + (u + y)) / 4294967296, zs.set (i + k) ((cr + (u + y)) % 4294967296), by omega, by go_num, by congr 1, by omega, ⟨?_⟩, ⟨?_⟩, ⟨?_⟩, ⟨by simp [HL.out]⟩, ⟨?_⟩, ⟨?_⟩, ⟨?_⟩⟩
        · rw [show ((cr : Int) + ((u : Int) + (y : Int))) % 4294967296 = (((cr + (u + y)) % 4294967296 : Nat) : Int) from by omega]
          exact (HZ.out.ext ((Ext.refl _).drewN _)).store (i + k) (by omega)
        · exact (HV.out.ext ((Ext.refl _).drewN _)).set hg _
        · refine grown_set ?_ _ rfl _
          exact HG.out.trans (grown_drewN _ _ _)
        · rw [take_set_below _ _ _ _ (by omega)]; exact HT.out
        · exact drop_set_above _ HD.out
        · have hv := val_set ((cr + (u + y)) % 4294967296) (show i + k < zs.length by rw [HL.out]; omega)
          rw [HUU.out] at hv
          have e := give_step HS.out hv (show cr + (u + y) = (cr + (u + y)) % 4294967296 + 4294967296 * ((cr + (u + y)) / 4294967296) by omega)
          rw [val_take_step, HY.out, Nat.mul_add, ← Nat.add_assoc i k 1, Nat.pow_succ, e, Nat.pow_add, Nat.mul_assoc (4294967296 ^ i)]
      case measure => simp [intOf]; omega
    · have hkL : k = L := by omega
      subst hkL
      go_wp2
      go_end0
      exact ⟨cr, zs, rfl, hcr, HZ.out, HL.out, HT.out, HD.out, HS.out, HV.out, HG.out⟩
end Go.Proofs.YtcbaipnphepbeaaGreatDoor

namespace Go.Proofs.YtcbaipnphepbeaaGreatDoor

/-- The numbers of one round. `S` is what is left, `V` the divisor. -/
structure Round (S V P v1 v2 vr two c ur : Nat) : Prop where
  hV : V = (v1 * 4294967296 + v2) * P + vr
  hvr : vr < P
  hS : S = (two * 4294967296 + c) * P + ur
  hur : ur < P
  hv1 : 2147483648 ≤ v1
  hv1' : v1 < 4294967296
  hv2 : v2 < 4294967296
  hc : c < 4294967296
  hSV : S < 4294967296 * V
namespace Round
variable {S V P v1 v2 vr two c ur q r : Nat}
theorem hP (h : Round S V P v1 v2 vr two c ur) : 0 < P := Nat.lt_of_le_of_lt (Nat.zero_le _) h.hvr
theorem Vpos (h : Round S V P v1 v2 vr two c ur) : 0 < V := by
  have h1 := h.hv1
  have h2 : 1 * 1 ≤ (v1 * 4294967296 + v2) * P := Nat.mul_le_mul (by omega) h.hP
  have := h.hV
  omega
theorem two_le (h : Round S V P v1 v2 vr two c ur) : two ≤ v1 * 4294967296 + 4294967295 := by
  rcases Nat.lt_or_ge two (v1 * 4294967296 + 4294967296) with h1 | h1
  · omega
  · exfalso
    have e1 : (v1 * 4294967296 + 4294967296) * 4294967296 * P ≤ S := by
      rw [h.hS]
      have : (v1 * 4294967296 + 4294967296) * 4294967296 * P ≤ (two * 4294967296 + c) * P := Nat.mul_le_mul_right _ (Nat.le_trans (Nat.mul_le_mul_right 4294967296 h1) (Nat.le_add_right _ _))
      omega
    have e2 : V < (v1 * 4294967296 + 4294967296) * P := by
      rw [h.hV]
      have h2 : (v1 * 4294967296 + v2 + 1) * P ≤ (v1 * 4294967296 + 4294967296) * P := Nat.mul_le_mul_right _ (by have := h.hv2; omega)
      rw [Nat.add_mul, Nat.one_mul] at h2
      have := h.hvr
      omega
    have e3 := h.hSV
    rw [Nat.mul_assoc, Nat.mul_left_comm] at e1
    omega
theorem qt_lt (h : Round S V P v1 v2 vr two c ur) : S / V < 4294967296 := Nat.div_lt_of_lt_mul (by rw [Nat.mul_comm]; exact h.hSV)

/-- What holds of the guess. -/
structure Guess (S V v1 two q r : Nat) : Prop where
  eq : two = q * v1 + r
  ge : S / V ≤ q

theorem start (h : Round S V P v1 v2 vr two c ur) : Guess S V v1 two (two / v1) (two % v1) := by
  refine ⟨by rw [Nat.mul_comm]; exact (Nat.div_add_mod two v1).symm, ?_⟩
  have hv := h.hv1
  rw [Nat.le_div_iff_mul_le (by omega)]
  have e1 : S / V * V ≤ S := Nat.div_mul_le_self S V
  have e2 : S / V * (v1 * 4294967296 * P) ≤ S / V * V := Nat.mul_le_mul_left _ (by
    rw [h.hV, Nat.add_mul]; omega)
  have e3 : S < (two * 4294967296 + 4294967296) * P := by
    rw [h.hS]
    have : (two * 4294967296 + c + 1) * P ≤ (two * 4294967296 + 4294967296) * P := Nat.mul_le_mul_right _ (by have := h.hc; omega)
    rw [Nat.add_mul _ 1, Nat.one_mul] at this
    have := h.hur
    omega
  have e4 : S / V * v1 * (4294967296 * P) < (two + 1) * (4294967296 * P) := by
    have h1 : S / V * v1 * (4294967296 * P) = S / V * (v1 * 4294967296 * P) := by rw [Nat.mul_assoc, Nat.mul_assoc]
    have h2 : (two + 1) * (4294967296 * P) = (two * 4294967296 + 4294967296) * P := by rw [← Nat.mul_assoc, Nat.add_mul two 1, Nat.one_mul]
    omega
  have := Nat.lt_of_mul_lt_mul_right e4
  omega

theorem guess_le (h : Round S V P v1 v2 vr two c ur) (g : Guess S V v1 two q r) : q ≤ 4294967297 := by
  rcases Nat.lt_or_ge 4294967297 q with h1 | h1
  · exfalso
    have e1 : 4294967298 * v1 ≤ q * v1 := Nat.mul_le_mul_right _ h1
    have := g.eq
    have := h.two_le
    have := h.hv1
    omega
  · exact h1

/-- The test says: too great. -/
theorem less (h : Round S V P v1 v2 vr two c ur) (g : Guess S V v1 two q r) (ht : 4294967296 ≤ q ∨ r * 4294967296 + c < q * v2) : 0 < q ∧ Guess S V v1 two (q - 1) (r + v1) := by
  have hlt : S / V < q := by
    rcases ht with ht | ht
    · exact Nat.lt_of_lt_of_le h.qt_lt ht
    · rw [Nat.div_lt_iff_lt_mul h.Vpos]
      have e1 : (q * v1 * 4294967296 + q * v2) * P ≤ q * V := by
        rw [h.hV, Nat.mul_add q]
        have : q * ((v1 * 4294967296 + v2) * P) = (q * v1 * 4294967296 + q * v2) * P := by rw [← Nat.mul_assoc, Nat.mul_add, Nat.mul_assoc q v1]
        omega
      have e2 : (two * 4294967296 + c + 1) * P ≤ (q * v1 * 4294967296 + q * v2) * P := Nat.mul_le_mul_right _ (by
        have := g.eq
        omega)
      rw [Nat.add_mul _ 1, Nat.one_mul] at e2
      have := h.hS
      have := h.hur
      omega
  have hq0 : 0 < q := Nat.lt_of_le_of_lt (Nat.zero_le _) hlt
  refine ⟨hq0, ?_, Nat.le_sub_one_of_lt hlt⟩
  have := g.eq
  obtain ⟨q', rfl⟩ : ∃ q', q = q' + 1 := ⟨q - 1, by omega⟩
  rw [Nat.add_mul, Nat.one_mul] at this
  simp only [Nat.add_sub_cancel]
  omega

theorem small (h : Round S V P v1 v2 vr two c ur) (g : Guess S V v1 two q r) (hr : 4294967296 ≤ r) : q < 4294967296 := by
  rcases Nat.lt_or_ge q 4294967296 with h1 | h1
  · exact h1
  · exfalso
    have e1 : 4294967296 * v1 ≤ q * v1 := Nat.mul_le_mul_right _ h1
    have := g.eq
    have := h.two_le
    omega

/-- The guess that stays is at most one too great. -/
theorem stay (h : Round S V P v1 v2 vr two c ur) (g : Guess S V v1 two q r) (hq : q < 4294967296) (ht : 4294967296 ≤ r ∨ q * v2 ≤ r * 4294967296 + c) : q ≤ S / V + 1 := by
  have e1 : q * v1 * 4294967296 + q * v2 ≤ two * 4294967296 + c := by
    have := g.eq
    rcases ht with ht | ht
    · have e : q * v2 ≤ 4294967295 * 4294967295 := Nat.mul_le_mul (by omega) (by have := h.hv2; omega)
      omega
    · omega
  have e2 : q * V ≤ S + V := by
    have h1 : q * V = (q * v1 * 4294967296 + q * v2) * P + q * vr := by
      rw [h.hV, Nat.mul_add q]
      congr 1
      rw [← Nat.mul_assoc, Nat.mul_add, Nat.mul_assoc q v1]
    have h2 : (q * v1 * 4294967296 + q * v2) * P ≤ (two * 4294967296 + c) * P := Nat.mul_le_mul_right _ e1
    have h3 : q * vr ≤ q * P := Nat.mul_le_mul_left _ (Nat.le_of_lt h.hvr)
    have h4 : q * P ≤ (v1 * 4294967296 + v2) * P := Nat.mul_le_mul_right _ (by have := h.hv1; omega)
    have := h.hS
    have := h.hV
    omega
  rcases Nat.eq_zero_or_pos q with h0 | h0
  · rw [h0]; exact Nat.zero_le _
  · obtain ⟨q', rfl⟩ : ∃ q', q = q' + 1 := ⟨q - 1, by omega⟩
    rw [Nat.add_mul, Nat.one_mul] at e2
    have : q' ≤ S / V := (Nat.le_div_iff_mul_le h.Vpos).2 (by omega)
    exact Nat.add_le_add_right this 1
end Round

/-- What is left behind `take`, and behind `give` if it was too much. -/
theorem taken {S S' V q M l : Nat} (hV : 0 < V) (hq : S / V ≤ q) (hq' : q ≤ S / V + 1) (h : S' + q * V = S + M * l) (hS' : S' < M) (hl : l ≤ 1) :
    (l = 0 → q = S / V ∧ S' = S % V) ∧ (l = 1 → q = S / V + 1 ∧ S' + V = S % V + M) := by
  have e := Nat.div_add_mod S V
  have hm := Nat.mod_lt S hV
  have ec : V * (S / V) = S / V * V := Nat.mul_comm _ _
  generalize S / V = t at *
  have hqq : q = t ∨ q = t + 1 := by omega
  constructor
  · intro h0
    subst h0
    rcases hqq with rfl | rfl
    · exact ⟨rfl, by omega⟩
    · exfalso; rw [Nat.add_mul, Nat.one_mul] at h; omega
  · intro h1
    subst h1
    rcases hqq with rfl | rfl
    · exfalso; omega
    · rw [Nat.add_mul, Nat.one_mul] at h; exact ⟨rfl, by omega⟩
theorem given {S S' S'' V M c : Nat} (h : S'' + M * c = S' + V) (h' : S' + V = S % V + M) (hS : S'' < M) (hc : c ≤ 1) (hV0 : 0 < V) : S'' = S % V := by
  have hm := Nat.mod_lt S hV0
  have : c = 0 ∨ c = 1 := by omega
  rcases this with rfl | rfl <;> omega

end Go.Proofs.YtcbaipnphepbeaaGreatDoor

namespace Go.Proofs.YtcbaipnphepbeaaGreatDoor

theorem getD_drop (xs : List Nat) (i j : Nat) : (xs.drop i).getD j 0 = xs.getD (i + j) 0 := by
  simp [List.getD_eq_getElem?_getD]
theorem Bpos (n : Nat) : 0 < 4294967296 ^ n := Nat.pow_pos (by decide)

theorem take_of_small {xs : List Nat} {L : Nat} (h : val xs < 4294967296 ^ L) (hL : L ≤ xs.length) : val (xs.drop L) = 0 ∧ val xs = val (xs.take L) := by
  have h1 := val_split xs L hL
  rcases Nat.eq_zero_or_pos (val (xs.drop L)) with h2 | h2
  · rw [h2] at h1; exact ⟨h2, by omega⟩
  · exfalso
    have : 4294967296 ^ L * 1 ≤ 4294967296 ^ L * val (xs.drop L) := Nat.mul_le_mul_left _ h2
    omega

theorem top2 {xs : List Nat} {s : Nat} (hs : xs.length = s + 2) : val xs = (xs.getD (s + 1) 0 * 4294967296 + xs.getD s 0) * 4294967296 ^ s + val (xs.take s) := by
  have h1 := val_take_step xs s
  have h2 := val_take_step xs (s + 1)
  have h3 : val (xs.take (s + 1 + 1)) = val xs := by rw [show s + 1 + 1 = xs.length from by omega, val_take_all]
  rw [h3, h1, Nat.pow_succ] at h2
  rw [h2, Nat.add_mul, Nat.mul_assoc (xs.getD (s + 1) 0), Nat.mul_comm (xs.getD (s + 1) 0), Nat.mul_comm (xs.getD s 0), Nat.mul_comm 4294967296 (4294967296 ^ s)]
  omega

theorem round_of {us vs : List Nat} {i s : Nat} (hdu : Ds us) (hdv : Ds vs) (hlv : vs.length = s + 2) (hv1 : 2147483648 ≤ vs.getD (s + 1) 0) (hS : val (us.drop i) < 4294967296 * val vs) (hi : i + (s + 2) < us.length) :
    Round (val (us.drop i)) (val vs) (4294967296 ^ s) (vs.getD (s + 1) 0) (vs.getD s 0) (val (vs.take s)) (us.getD (i + (s + 2)) 0 * 4294967296 + us.getD (i + (s + 1)) 0) (us.getD (i + s) 0) (val ((us.drop i).take s)) := by
  have hlu : (us.drop i).length = us.length - i := by simp
  have hV := val_lt hdv
  rw [hlv] at hV
  have hsm : val (us.drop i) < 4294967296 ^ (s + 3) := by
    rw [Nat.pow_succ]; omega
  have ht := (take_of_small hsm (by omega)).2
  refine ⟨top2 hlv, ?_, ?_, ?_, hv1, Ds.get hdv _, Ds.get hdv _, Ds.get hdu _, hS⟩
  · have := val_lt (hdv.take s); rwa [List.length_take, Nat.min_eq_left (by omega)] at this
  · have h1 := val_take_step (us.drop i) s
    have h2 := val_take_step (us.drop i) (s + 1)
    have h3 := val_take_step (us.drop i) (s + 2)
    rw [h2, h1, getD_drop, getD_drop, getD_drop, Nat.pow_succ, Nat.pow_succ] at h3
    rw [ht, h3, Nat.pow_succ]
    generalize us.getD (i + (s + 2)) 0 = x2
    generalize us.getD (i + (s + 1)) 0 = x1
    generalize us.getD (i + s) 0 = x0
    generalize 4294967296 ^ s = P
    have e1 : (x2 * 4294967296 + x1) * 4294967296 + x0 = x2 * 18446744073709551616 + x1 * 4294967296 + x0 := by omega
    rw [e1, Nat.add_mul, Nat.add_mul]
    have e2 : P * 4294967296 * 4294967296 * x2 = x2 * 18446744073709551616 * P := by grind
    have e3 : P * 4294967296 * x1 = x1 * 4294967296 * P := by rw [Nat.mul_comm, Nat.mul_comm P, ← Nat.mul_assoc]
    have e4 : P * x0 = x0 * P := Nat.mul_comm _ _
    omega
  · have := val_lt ((hdu.drop i).take s); rwa [List.length_take, Nat.min_eq_left (by omega)] at this

theorem after_take {us us' : List Nat} {i L q V l : Nat} (hd : Ds us') (hl : us'.length = us.length) (hiL : i + L ≤ us.length) (ht : us'.take i = us.take i) (hdr : us'.drop (i + L) = us.drop (i + L)) (hS : val (us.drop i) < 4294967296 ^ L)
    (h : val us' + 4294967296 ^ i * (q * V) = val us + 4294967296 ^ (i + L) * l) : val (us'.drop i) + q * V = val (us.drop i) + 4294967296 ^ L * l ∧ val (us'.drop i) < 4294967296 ^ L := by
  have h1 := val_split us i (by omega)
  have h2 := val_split us' i (by omega)
  rw [ht] at h2
  constructor
  · apply Nat.eq_of_mul_eq_mul_left (Bpos i)
    rw [Nat.mul_add, Nat.mul_add, ← Nat.mul_assoc _ (4294967296 ^ L), ← Nat.pow_add]
    omega
  · have h3 := (take_of_small hS (by simp; omega)).1
    rw [List.drop_drop] at h3
    have h4 := val_split (us'.drop i) L (by simp; omega)
    rw [List.drop_drop, hdr, h3] at h4
    have h5 := val_lt ((hd.drop i).take L)
    rw [List.length_take, Nat.min_eq_left (by simp; omega)] at h5
    omega
theorem after_give {us us' : List Nat} {i L V c : Nat} (hd : Ds us') (hl : us'.length = us.length) (hiL : i + L ≤ us.length) (ht : us'.take i = us.take i) (hdr : us'.drop (i + L) = us.drop (i + L)) (hS : val (us.drop i) < 4294967296 ^ L)
    (h : val us' + 4294967296 ^ (i + L) * c = val us + 4294967296 ^ i * V) : val (us'.drop i) + 4294967296 ^ L * c = val (us.drop i) + V ∧ val (us'.drop i) < 4294967296 ^ L := by
  have h1 := val_split us i (by omega)
  have h2 := val_split us' i (by omega)
  rw [ht] at h2
  constructor
  · apply Nat.eq_of_mul_eq_mul_left (Bpos i)
    rw [Nat.mul_add, Nat.mul_add, ← Nat.mul_assoc _ (4294967296 ^ L), ← Nat.pow_add]
    omega
  · have h3 := (take_of_small hS (by simp; omega)).1
    rw [List.drop_drop] at h3
    have h4 := val_split (us'.drop i) L (by simp; omega)
    rw [List.drop_drop, hdr, h3] at h4
    have h5 := val_lt ((hd.drop i).take L)
    rw [List.length_take, Nat.min_eq_left (by simp; omega)] at h5
    omega

/-- The divisor, moved such that its first digit is great. -/
theorem normed {b s n : Nat} (hl : (dig b).length = s + 2) (hn : n < 32) (h1 : 2147483648 ≤ (dig b).getD (s + 1) 0 * 2 ^ n) (h2 : (dig b).getD (s + 1) 0 * 2 ^ n < 4294967296) :
    (dig (b * 2 ^ n)).length = s + 2 ∧ 2147483648 ≤ (dig (b * 2 ^ n)).getD (s + 1) 0 := by
  have hb := top2 hl
  have hlow := val_lt ((ds_dig b).take s)
  rw [List.length_take, Nat.min_eq_left (by omega)] at hlow
  rw [val_dig] at hb
  have hd0 := Ds.get (ds_dig b) s
  generalize (dig b).getD (s + 1) 0 = t at *
  generalize (dig b).getD s 0 = t0 at *
  generalize val ((dig b).take s) = lo at *
  have hps := pow_split n (by omega)
  have ht : t < 2 ^ (32 - n) := by
    apply Nat.lt_of_mul_lt_mul_right (a := 2 ^ n); omega
  have ht2 : (t + 1) * 2 ^ n ≤ 4294967296 := by
    have h : (t + 1) * 2 ^ n ≤ 2 ^ (32 - n) * 2 ^ n := Nat.mul_le_mul_right (2 ^ n) ht
    omega
  have e1 : b < (t + 1) * 4294967296 ^ (s + 1) := by
    have h3 : (t * 4294967296 + t0 + 1) * 4294967296 ^ s ≤ ((t + 1) * 4294967296) * 4294967296 ^ s := Nat.mul_le_mul_right _ (by omega)
    rw [Nat.add_mul _ 1, Nat.one_mul] at h3
    rw [Nat.pow_succ, Nat.mul_comm (4294967296 ^ s), ← Nat.mul_assoc]
    omega
  have e2 : b * 2 ^ n < 4294967296 ^ (s + 2) := by
    have h3 : b * 2 ^ n < (t + 1) * 4294967296 ^ (s + 1) * 2 ^ n := Nat.mul_lt_mul_of_pos_right e1 (Nat.two_pow_pos n)
    have h4 : (t + 1) * 4294967296 ^ (s + 1) * 2 ^ n = (t + 1) * 2 ^ n * 4294967296 ^ (s + 1) := by rw [Nat.mul_assoc, Nat.mul_comm (4294967296 ^ (s + 1)), ← Nat.mul_assoc]
    have h5 : (t + 1) * 2 ^ n * 4294967296 ^ (s + 1) ≤ 4294967296 * 4294967296 ^ (s + 1) := Nat.mul_le_mul_right _ ht2
    rw [Nat.pow_succ _ (s + 1)]
    omega
  have e3 : 2147483648 * 4294967296 ^ (s + 1) ≤ b * 2 ^ n := by
    have h3 : 2147483648 * 4294967296 ^ (s + 1) ≤ t * 2 ^ n * 4294967296 ^ (s + 1) := Nat.mul_le_mul_right _ h1
    have h4 : t * 2 ^ n * 4294967296 ^ (s + 1) = t * 4294967296 ^ (s + 1) * 2 ^ n := by rw [Nat.mul_assoc, Nat.mul_comm (2 ^ n), ← Nat.mul_assoc]
    have h5 : t * 4294967296 ^ (s + 1) ≤ b := by
      rw [hb, Nat.add_mul, Nat.pow_succ, Nat.mul_comm (4294967296 ^ s), ← Nat.mul_assoc]; omega
    have h6 := Nat.mul_le_mul_right (2 ^ n) h5
    omega
  have l1 : (dig (b * 2 ^ n)).length ≤ s + 2 := dig_length_le e2
  have l2 : ¬ (dig (b * 2 ^ n)).length ≤ s + 1 := fun h => by
    have := lt_of_dig_length h
    have h3 := Bpos (s + 1)
    omega
  have l3 : (dig (b * 2 ^ n)).length = s + 2 := by omega
  refine ⟨l3, ?_⟩
  have h3 := top2 l3
  have h4 := val_lt ((ds_dig (b * 2 ^ n)).take s)
  have h5 := Ds.get (ds_dig (b * 2 ^ n)) s
  rw [val_dig] at h3
  rw [List.length_take, Nat.min_eq_left (by omega)] at h4
  generalize (dig (b * 2 ^ n)).getD (s + 1) 0 = v1 at *
  generalize (dig (b * 2 ^ n)).getD s 0 = v2 at *
  rcases Nat.lt_or_ge v1 2147483648 with h6 | h6
  · exfalso
    have h7 : (v1 * 4294967296 + v2 + 1) * 4294967296 ^ s ≤ (2147483648 * 4294967296) * 4294967296 ^ s := Nat.mul_le_mul_right _ (by omega)
    rw [Nat.add_mul _ 1, Nat.one_mul] at h7
    rw [Nat.pow_succ, Nat.mul_comm (4294967296 ^ s), ← Nat.mul_assoc] at e3
    omega
  · exact h6

/-- What stands above the divisor when the division begins. -/
theorem first_rest {zs : List Nat} {x lx s n V : Nat} (hz : zs.length = lx + 1) (hv : val zs = x * 2 ^ n) (hx : x < 4294967296 ^ lx) (hn : n < 32) (hs : s + 2 ≤ lx) (hV : 2147483648 * 4294967296 ^ (s + 1) ≤ V) :
    val (zs.drop (lx + 1 - (s + 2))) < V := by
  have h1 := val_split zs (lx + 1 - (s + 2)) (by omega)
  have hb : val zs < 4294967296 ^ lx * 2147483648 := by
    rw [hv]
    have h2 : x * 2 ^ n < 4294967296 ^ lx * 2 ^ n := Nat.mul_lt_mul_of_pos_right hx (Nat.two_pow_pos n)
    have h3 : 2 ^ n ≤ 2 ^ 31 := Nat.pow_le_pow_right (by omega) (by omega)
    have h4 := Nat.mul_le_mul_left (4294967296 ^ lx) h3
    omega
  have e : 4294967296 ^ lx = 4294967296 ^ (lx + 1 - (s + 2)) * 4294967296 ^ (s + 1) := by rw [← Nat.pow_add]; congr 1; omega
  have h5 : 4294967296 ^ (lx + 1 - (s + 2)) * val (zs.drop (lx + 1 - (s + 2))) < 4294967296 ^ (lx + 1 - (s + 2)) * V := by
    have h6 : 4294967296 ^ (lx + 1 - (s + 2)) * (2147483648 * 4294967296 ^ (s + 1)) ≤ 4294967296 ^ (lx + 1 - (s + 2)) * V := Nat.mul_le_mul_left _ hV
    have h7 : 4294967296 ^ lx * 2147483648 = 4294967296 ^ (lx + 1 - (s + 2)) * (2147483648 * 4294967296 ^ (s + 1)) := by rw [e, Nat.mul_assoc, Nat.mul_comm _ 2147483648]
    omega
  exact Nat.lt_of_mul_lt_mul_left h5

end Go.Proofs.YtcbaipnphepbeaaGreatDoor
