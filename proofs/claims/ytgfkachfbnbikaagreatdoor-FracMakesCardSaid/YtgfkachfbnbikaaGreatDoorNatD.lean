/- Contracts of package nat: short, left, right. -/
import Derived.Test.YtgfkachfbnbikaaGreatDoorNatA
import Derived.StillTailTactics
namespace Go.Proofs.YtgfkachfbnbikaaGreatDoor
open Go.RowKit

theorem val_drop (xs : List Nat) (k : Nat) (h : k < xs.length) : val (xs.drop k) = xs.getD k 0 + 4294967296 * val (xs.drop (k + 1)) := by
  rw [List.drop_eq_getElem_cons h, val, List.getD_eq_getElem?_getD, List.getElem?_eq_getElem h]; rfl
theorem drop_set_self (xs : List Nat) (k d : Nat) : (xs.set k d).drop (k + 1) = xs.drop (k + 1) := by
  rw [List.drop_set]; simp

set_option maxHeartbeats 400000 in
/-- short divides by one digit. -/
theorem short_calls {w : World} {u : Value} {xs : List Nat} {y : Nat} (hu : RV w u xs) (hy : y < 4294967296) (hy0 : 0 < y) :
    Calls Tryz.prog 125 #[u, .int .u32 (y : Int)] w fun e w' => ∃ r, e = .returned (.tuple #[r, .int .u32 ((val xs % y : Nat) : Int)]) ∧ OV w.heap.size w' r (dig (val xs / y)) ∧ Ext w w' := by
  obtain ⟨A, c, rfl, hc, hd, hr⟩ := id hu
  have HU := Aside.mk hu
  have hl : xs.length ≤ 1073741824 := hd.1
  clear hu hd hr
  have hyz : ((y : Int) == 0) = false := by simp; omega
  go_enter Tryz.func125, Tryz.ntmps125
  go_wp2_with (refine make_u32 _ rfl _ _ rfl xs.length _ _ rfl rfl rfl rfl hl ?_; intro w1 z hz0 hb1 hz1; subst hz1; have HZ0 := Aside.mk hz0; have HB0 := Aside.mk hb1; clear hz0 hb1)
  go_loopw [7, 8] (fun r i wr => ∃ (k c : Nat) (zs : List Nat), k ≤ xs.length ∧ i = .int .i64 ((k : Int) - 1) ∧ r = .int .u64 (c : Int) ∧ c < y ∧ Aside (OV w.heap.size wr (.slice (some ⟨w.heap.size, 0, none⟩) xs.length xs.length) zs) ∧ Aside (Ext w wr) ∧ Aside (zs.length = xs.length) ∧
    Aside (val (xs.drop k) = val (zs.drop k) * y + c)) (fun _ i _ => (intOf i + 1).toNat)
  case atStart => exact ⟨xs.length, 0, _, Nat.le_refl _, rfl, rfl, hy0, HZ0, HB0, ⟨by simp⟩, ⟨by rw [List.drop_length]; simp [val]⟩⟩
  case round =>
    obtain ⟨k, cr, zs, hk, rfl, rfl, hcr, HZ, HB, HL, HS⟩ := hrel
    cases k with
    | succ k =>
      obtain ⟨x, hx⟩ : ∃ x, xs.getD k 0 = x := ⟨_, rfl⟩
      have hx4 : x < 4294967296 := hx ▸ HU.out.dg.get k
      obtain ⟨ad, rfl, hcell⟩ := (HU.out.ext HB.out).at' k (by omega)
      rw [hx] at hcell
      have HX := Aside.mk hx
      clear hx
      have hzc := HZ.out.cell k (by rw [HL.out]; omega)
      have hzf := HZ.out.free k
      have hor := or_shift32 cr x (by omega) hx4
      obtain ⟨s, hs⟩ : ∃ s, cr * 4294967296 + x = s := ⟨_, rfl⟩
      rw [hs] at hor
      have hs64 : s < 18446744073709551616 := by omega
      obtain ⟨q, hq⟩ : ∃ q, s / y = q := ⟨_, rfl⟩
      obtain ⟨t, ht⟩ : ∃ t, s % y = t := ⟨_, rfl⟩
      have hdiv : ((s : Int) / (y : Int)) = (q : Int) := by rw [← hq]; simp
      have hmod : ((s : Int) % (y : Int)) = (t : Int) := by rw [← ht]; simp
      have hqm : s = q * y + t := by rw [← hq, ← ht, Nat.mul_comm]; exact (Nat.div_add_mod s y).symm
      have hty : t < y := by rw [← ht]; exact Nat.mod_lt _ hy0
      have hqb : q < 4294967296 := by
        rw [← hq]; apply Nat.div_lt_of_lt_mul
        have : (cr + 1) * 4294967296 ≤ y * 4294967296 := Nat.mul_le_mul_right _ hcr
        omega
      have HQ := Aside.mk hqm
      have HSS := Aside.mk hs
      clear hq ht hqm hs
      go_wp2
      go_roundw
      case rel =>
        refine ⟨k, t, zs.set k q, by omega, by go_num, by rw [hmod], hty, ⟨HZ.out.store k hqb⟩, ⟨HB.out.set (Nat.le_refl _) _⟩, ⟨by simp [HL.out]⟩, ⟨?_⟩⟩
        rw [val_drop xs k (by omega), val_drop (zs.set k q) k (by simp [HL.out]; omega), HX.out, HS.out, drop_set_self, getD_set_self (by rw [HL.out]; omega)]
        have h1 := HQ.out
        have h2 := HSS.out
        rw [Nat.add_mul, Nat.mul_add, ← Nat.mul_assoc]
        omega
      case measure => simp [intOf]
    | zero =>
      have HE : Aside (val xs = val zs * y + cr) := ⟨by have := HS.out; simpa using this⟩
      have HQ : Aside (val zs = val xs / y ∧ val xs % y = cr) := ⟨by
        have h := HE.out
        rw [h, Nat.mul_comm]
        exact ⟨by rw [Nat.mul_add_div hy0, Nat.div_eq_of_lt hcr]; rfl, by rw [Nat.mul_add_mod]; exact Nat.mod_eq_of_lt hcr⟩⟩
      go_wp2_with (go_at_call 156; with_reducible refine (trim_calls HZ.out).mono ?_; rintro e w' ⟨r, rfl, hr, rfl⟩; have HR := Aside.mk hr; clear hr)
      go_ret2
      exact ⟨r, by rw [HQ.out.2]; rfl, by rw [← HQ.out.1]; exact HR.out, HB.out⟩

set_option maxHeartbeats 400000 in
/-- left is a product by a power of two, with one digit more. -/
theorem left_calls {w : World} {u : Value} {xs : List Nat} {n : Nat} (hu : RV w u xs) (hn : n < 32) (hl : xs.length < 1073741824) :
    Calls Tryz.prog 169 #[u, .int .i64 (n : Int)] w fun e w' => ∃ r zs, e = .returned r ∧ zs.length = xs.length + 1 ∧ val zs = val xs * 2 ^ n ∧ OV w.heap.size w' r zs ∧ Ext w w' := by
  obtain ⟨A, c, rfl, hc, hd, hr⟩ := id hu
  have HU := Aside.mk hu
  clear hu hd hr
  go_enter Tryz.func169, Tryz.ntmps169
  go_wp2_with (refine make_u32 _ rfl _ _ rfl (xs.length + 1) _ _ rfl rfl (by omega) (by omega) (by omega) ?_; intro w1 z hz0 hb1 hz1; subst hz1; have HZ0 := Aside.mk hz0; have HB0 := Aside.mk hb1; clear hz0 hb1)
  go_loopw [15] (fun i wr => ∃ (k : Nat) (zs : List Nat), k ≤ xs.length ∧ i = .int .i64 (k : Int) ∧ Aside (OV w.heap.size wr (.slice (some ⟨w.heap.size, 0, none⟩) (xs.length + 1) (xs.length + 1)) zs) ∧ Aside (Ext w wr) ∧ Aside (zs.length = xs.length + 1) ∧
    Aside (val zs = val (xs.take k) * 2 ^ n)) (fun i _ => xs.length - (intOf i).toNat)
  case atStart => exact ⟨0, _, Nat.zero_le _, rfl, HZ0, HB0, ⟨by simp⟩, ⟨by simp [val, val_zeros]⟩⟩
  case round =>
    obtain ⟨k, zs, hk, rfl, HZ, HB, HL, HS⟩ := hrel
    by_cases hlt : k < xs.length
    · obtain ⟨x, hx⟩ : ∃ x, xs.getD k 0 = x := ⟨_, rfl⟩
      have hx4 : x < 4294967296 := hx ▸ HU.out.dg.get k
      obtain ⟨ad, rfl, hcell⟩ := (HU.out.ext HB.out).at' k (by omega)
      rw [hx] at hcell
      have HX := Aside.mk hx
      clear hx
      have hzc := HZ.out.cell k (by rw [HL.out]; omega)
      have hzf := HZ.out.free k
      have hzc' := HZ.out.cell (k + 1) (by rw [HL.out]; omega)
      have hzf' := HZ.out.free (k + 1)
      have hz0 : zs.getD k 0 < 2 ^ n := getD_le_of_val (by
        rw [HS.out]
        have h1 := val_lt (HU.out.dg.ds.take k)
        rw [List.length_take, Nat.min_eq_left hk] at h1
        exact Nat.mul_lt_mul_of_pos_right h1 (Nat.two_pow_pos n))
      have hz1 : zs.getD (k + 1) 0 = 0 := getD_zero_of_val (by
        rw [HS.out, Nat.pow_succ]
        have h1 := val_lt (HU.out.dg.ds.take k)
        rw [List.length_take, Nat.min_eq_left hk] at h1
        have h2 : 2 ^ n ≤ 2 ^ 32 := Nat.pow_le_pow_right (by omega) (by omega)
        have h3 : val (xs.take k) * 2 ^ n ≤ val (xs.take k) * 4294967296 := Nat.mul_le_mul_left _ h2
        omega)
      rw [hz1] at hzc'
      generalize hz : zs.getD k 0 = z at hzc hz0
      obtain ⟨m, hm⟩ : ∃ m, x % 2 ^ (32 - n) = m := ⟨_, rfl⟩
      have hps := pow_split n (by omega)
      have hxm : x * 2 ^ n % 4294967296 = m * 2 ^ n := by rw [← hm, ← hps, Nat.mul_mod_mul_right]
      have hmb : m * 2 ^ n + 2 ^ n ≤ 4294967296 := by
        have : m < 2 ^ (32 - n) := by rw [← hm]; exact Nat.mod_lt _ (Nat.two_pow_pos _)
        have h2 : (m + 1) * 2 ^ n ≤ 2 ^ (32 - n) * 2 ^ n := Nat.mul_le_mul_right _ this
        rw [hps, Nat.add_mul] at h2; omega
      have hor := or_high z m n hz0 (by omega)
      have hpb : 2 ^ n ≤ 2147483648 := by
        have : 2 ^ n ≤ 2 ^ 31 := Nat.pow_le_pow_right (by omega) (by omega)
        omega
      have hxb : x * 2 ^ n ≤ 4294967295 * 2147483648 := Nat.mul_le_mul (by omega) hpb
      obtain ⟨W, hW⟩ : ∃ W, x * 2 ^ n = W := ⟨_, rfl⟩
      have hsh : IntKind.u64.wrap ((x : Int) * 2 ^ n) = (W : Int) := by
        rw [wrap_u64, ← hW]
        have : ((x : Int) * 2 ^ n) = ((x * 2 ^ n : Nat) : Int) := by simp
        rw [this]; omega
      obtain ⟨hi, hhi⟩ : ∃ hi, W / 4294967296 = hi := ⟨_, rfl⟩
      have hlo : (W : Int) % 4294967296 = ((m * 2 ^ n : Nat) : Int) := by rw [← hxm, hW]; omega
      have hhi4 : hi < 4294967296 := by omega
      have hhi' : (W : Int) / 4294967296 = (hi : Int) := by omega
      obtain ⟨L, hL⟩ : ∃ L, m * 2 ^ n = L := ⟨_, rfl⟩
      rw [hL] at hlo hor hxm
      obtain ⟨S, hSS⟩ : ∃ S, L + z = S := ⟨_, rfl⟩
      rw [hSS] at hor
      have hS4 : S < 4294967296 := by omega
      have HW := Aside.mk (show W = (S - z) + 4294967296 * hi by omega)
      have HSz := Aside.mk (show z ≤ S by omega)
      have HWx := Aside.mk hW
      have HZk := Aside.mk hz
      have HZk1 := Aside.mk hz1
      clear hz hz1 hz0 hm hps hxm hmb hpb hxb hW hhi hL hSS
      go_wp2
      go_roundw
      case rel =>
        refine ⟨k + 1, (zs.set k S).set (k + 1) hi, by omega, by go_num, ⟨?_⟩, ⟨?_⟩, ⟨by simp [HL.out]⟩, ⟨?_⟩⟩
        · exact (HZ.out.store k hS4).store (k + 1) hhi4
        · exact (HB.out.set (Nat.le_refl _) _).set (Nat.le_refl _) _
        · have v1 := val_set S (show k < zs.length by rw [HL.out]; omega)
          have v2 := val_set hi (show k + 1 < (zs.set k S).length by simp [HL.out]; omega)
          rw [getD_set_ne (by omega), HZk1.out, Nat.mul_zero, Nat.add_zero, Nat.pow_succ] at v2
          rw [HZk.out] at v1
          have e : 4294967296 ^ k * W = 4294967296 ^ k * (S - z) + 4294967296 ^ k * 4294967296 * hi := by
            conv => lhs; rw [HW.out, Nat.mul_add, ← Nat.mul_assoc]
          have e2 : 4294967296 ^ k * S = 4294967296 ^ k * (S - z) + 4294967296 ^ k * z := by
            rw [← Nat.mul_add]; congr 1; have := HSz.out; omega
          rw [val_take_step, HX.out, Nat.add_mul, ← HS.out, Nat.mul_assoc, HWx.out]
          omega
      case measure => simp [intOf]; omega
    · have hkm : k = xs.length := by omega
      subst hkm
      go_wp2
      go_ret
      exact ⟨_, zs, rfl, HL.out, by rw [HS.out, val_take_all], HZ.out, HB.out⟩

set_option maxRecDepth 10000 in
set_option maxHeartbeats 400000 in
/-- right is a quotient by a power of two. -/
theorem right_calls {w : World} {u : Value} {xs : List Nat} {n : Nat} (hu : RV w u xs) (hn : n < 32) :
    Calls Tryz.prog 172 #[u, .int .i64 (n : Int)] w fun e w' => ∃ r, e = .returned r ∧ OV w.heap.size w' r (dig (val xs / 2 ^ n)) ∧ Ext w w' := by
  obtain ⟨A, c, rfl, hc, hd, hr⟩ := id hu
  have HU := Aside.mk hu
  have hl : xs.length ≤ 1073741824 := hd.1
  clear hu hd hr
  go_enter Tryz.func172, Tryz.ntmps172
  go_wp2_with (refine make_u32 _ rfl _ _ rfl xs.length _ _ rfl rfl rfl rfl hl ?_; intro w1 z hz0 hb1 hz1; subst hz1; have HZ0 := Aside.mk hz0; have HB0 := Aside.mk hb1; clear hz0 hb1)
  go_loopw [13] (fun i wr => ∃ (k : Nat) (zs : List Nat), k ≤ xs.length ∧ i = .int .i64 (k : Int) ∧ Aside (OV w.heap.size wr (.slice (some ⟨w.heap.size, 0, none⟩) xs.length xs.length) zs) ∧ Aside (Ext w wr) ∧ Aside (zs.length = xs.length) ∧
    Aside (val zs = val (xs.take k) / 2 ^ n)) (fun i _ => xs.length - (intOf i).toNat)
  case atStart => exact ⟨0, _, Nat.zero_le _, rfl, HZ0, HB0, ⟨by simp⟩, ⟨by simp [val, val_zeros]⟩⟩
  case round =>
    obtain ⟨k, zs, hk, rfl, HZ, HB, HL, HS⟩ := hrel
    by_cases hlt : k < xs.length
    · obtain ⟨x, hx⟩ : ∃ x, xs.getD k 0 = x := ⟨_, rfl⟩
      have hx4 : x < 4294967296 := hx ▸ HU.out.dg.get k
      obtain ⟨ad, rfl, hcell⟩ := (HU.out.ext HB.out).at' k (by omega)
      rw [hx] at hcell
      have HX := Aside.mk hx
      clear hx
      have hzc := HZ.out.cell k (by rw [HL.out]; omega)
      have hzf := HZ.out.free k
      have hvk := val_lt (HU.out.dg.ds.take k)
      rw [List.length_take, Nat.min_eq_left hk] at hvk
      have hz0 : zs.getD k 0 = 0 := getD_zero_of_val (by rw [HS.out]; exact Nat.lt_of_le_of_lt (Nat.div_le_self _ _) hvk)
      rw [hz0] at hzc
      have hd4 : x / 2 ^ n < 4294967296 := Nat.lt_of_le_of_lt (Nat.div_le_self _ _) hx4
      obtain ⟨D, hD⟩ : ∃ D, x / 2 ^ n = D := ⟨_, rfl⟩
      rw [hD] at hd4
      have hdx : (x : Int) / 2 ^ n = (D : Int) := by rw [← hD]; simp
      have hor : bits .or .u32 0 (D : Int) = (D : Int) := by have := or_high 0 D 0 (by decide) (by omega); simpa using this
      by_cases hk0 : k = 0
      · have hdec : decide (0 < k) = false := by simp; omega
        have HK0 := Aside.mk hk0
        have HDD := Aside.mk hD
        clear hk0 hD hz0 hvk
        go_wp2
        go_still_tail 9, (by kernel_rfl)
        change wpList _ _ _ _ _ wr.drew
        go_wp2
        go_roundw
        case rel =>
          refine ⟨k + 1, zs.set k D, by omega, by go_num, ⟨HZ.out.store k hd4⟩, ⟨(HB.out.drew).set (Nat.le_refl _) _⟩, ⟨by simp [HL.out]⟩, ⟨?_⟩⟩
          have v1 := val_set D (show k < zs.length by rw [HL.out]; omega)
          have hk0 := HK0.out
          subst hk0
          rw [HS.out] at v1
          rw [val_take_step, HX.out]
          simp only [List.take_zero, val, Nat.zero_div, Nat.pow_zero, Nat.one_mul, Nat.zero_add] at v1 ⊢
          rw [HDD.out]
          have : val zs = 0 := by rw [HS.out]; simp [val]
          have h2 : zs.getD 0 0 = 0 := getD_zero_of_val (by rw [this]; decide)
          omega
        case measure => simp [intOf]; omega
      · obtain ⟨j, hj⟩ : ∃ j, k = j + 1 := ⟨k - 1, by omega⟩
        have hdec : decide (0 < k) = true := by simp; omega
        have hkj : (k : Int) - 1 = (j : Int) := by omega
        have hwj : IntKind.i64.wrap (j : Int) = (j : Int) := wrap_i64 _ (by omega) (by omega)
        have HJ := Aside.mk hj
        have hzc' := HZ.out.cell j (by rw [HL.out]; omega)
        have hzf' := HZ.out.free j
        have hjk : j < k := by omega
        have hjl : j < xs.length := by omega
        have hps := pow_split n (by omega)
        have hzb : zs.getD j 0 < 2 ^ (32 - n) := getD_le_of_val (by
          rw [HS.out]
          apply Nat.div_lt_of_lt_mul
          rw [Nat.mul_comm, Nat.mul_assoc, hps]
          have e : 4294967296 ^ k = 4294967296 ^ j * 4294967296 := by rw [hj, Nat.pow_succ]
          rw [← e]; exact hvk)
        generalize hz : zs.getD j 0 = z at hzc' hzb
        have hE1 : x * 4294967296 / 2 ^ n % 4294967296 = (x % 2 ^ n) * 2 ^ (32 - n) := by
          have h1 : x * 4294967296 / 2 ^ n = x * 2 ^ (32 - n) := by
            rw [← hps, ← Nat.mul_assoc, Nat.mul_div_cancel _ (Nat.two_pow_pos n)]
          rw [h1, ← hps, Nat.mul_comm (2 ^ (32 - n)) (2 ^ n), Nat.mul_mod_mul_right]
        have hEb : (x % 2 ^ n) * 2 ^ (32 - n) + 2 ^ (32 - n) ≤ 4294967296 := by
          have h1 : x % 2 ^ n < 2 ^ n := Nat.mod_lt _ (Nat.two_pow_pos n)
          have h2 : (x % 2 ^ n + 1) * 2 ^ (32 - n) ≤ 2 ^ n * 2 ^ (32 - n) := Nat.mul_le_mul_right _ h1
          rw [Nat.mul_comm (2 ^ n), hps, Nat.add_mul] at h2; omega
        have hor1 := or_high z (x % 2 ^ n) (32 - n) hzb (by omega)
        have hxe : x = 2 ^ n * D + x % 2 ^ n := by rw [← hD]; exact (Nat.div_add_mod x (2 ^ n)).symm
        have hBk : 4294967296 ^ k = 4294967296 ^ j * 2 ^ (32 - n) * 2 ^ n := by rw [hj, Nat.pow_succ, Nat.mul_assoc, hps]
        have HV : Aside (val (xs.take (k + 1)) / 2 ^ n = val zs + 4294967296 ^ k * D + 4294967296 ^ j * ((x % 2 ^ n) * 2 ^ (32 - n))) := ⟨by
          rw [val_take_step, HX.out, hBk, Nat.mul_assoc (4294967296 ^ j * 2 ^ (32 - n)), Nat.mul_comm (2 ^ n) x, ← Nat.mul_assoc, Nat.add_mul_div_right _ _ (Nat.two_pow_pos n), ← HS.out]
          conv => lhs; rw [hxe]
          rw [Nat.mul_add]
          generalize 4294967296 ^ j = P
          generalize 2 ^ (32 - n) = R
          generalize 2 ^ n = M
          generalize x % M = E
          rw [Nat.mul_assoc P R (M * D), Nat.mul_assoc P R E, Nat.mul_comm R E, ← Nat.mul_assoc R M D, ← Nat.mul_assoc P, ← Nat.mul_assoc P R M, Nat.add_assoc]⟩
        obtain ⟨L, hL⟩ : ∃ L, (x % 2 ^ n) * 2 ^ (32 - n) = L := ⟨_, rfl⟩
        rw [hL] at hor1 hE1 hEb HV
        have hE : (x : Int) * 4294967296 / 2 ^ n % 4294967296 = (L : Int) := by rw [← hE1]; simp
        obtain ⟨S, hSS⟩ : ∃ S, L + z = S := ⟨_, rfl⟩
        rw [hSS] at hor1
        have hS4 : S < 4294967296 := by omega
        have HLz := Aside.mk hSS
        have HZj := Aside.mk hz
        have HZk := Aside.mk hz0
        clear hj hk0 hps hzb hz hE1 hEb hxe hBk hL hSS hz0 hvk hD
        go_wp2
        go_still_tail 9, (by kernel_rfl)
        change wpList _ _ _ _ _ wr.drew
        go_wp2
        have H2 := Aside.mk ((show OV w.heap.size wr.drew _ zs from HZ.out).store k hd4)
        have HB2 : Aside (Ext w (wr.drew.setCell ⟨w.heap.size, k, none⟩ (.int .u32 (D : Int)))) := ⟨HB.out.drew.set (Nat.le_refl _) _⟩
        rw [World.setCell_drew] at H2 HB2
        generalize hw2 : (wr.setCell ⟨w.heap.size, k, none⟩ (.int .u32 (D : Int))).drew = w2 at *
        clear hw2 hzc hzf hzc' hzf' hcell
        have hzc' := H2.out.cell j (by simp [HL.out]; omega)
        have hzf' := H2.out.free j
        rw [getD_set_ne (by omega), HZj.out] at hzc'
        go_still_tail 13, (by kernel_rfl)
        change wpList _ _ _ _ _ w2.drew
        go_wp2
        go_roundw
        case rel =>
          refine ⟨k + 1, (zs.set k D).set j S, by omega, by go_num, ⟨(show OV w.heap.size w2.drew _ _ from H2.out).store j hS4⟩, ⟨(HB2.out.drew).set (Nat.le_refl _) _⟩, ⟨by simp [HL.out]⟩, ⟨?_⟩⟩
          have v1 := val_set D (show k < zs.length by rw [HL.out]; omega)
          have v2 := val_set S (show j < (zs.set k D).length by simp [HL.out]; omega)
          rw [getD_set_ne (by omega), HZj.out, ← HLz.out, Nat.mul_add] at v2
          rw [HZk.out, Nat.mul_zero, Nat.add_zero] at v1
          rw [HV.out, ← HLz.out]
          omega
        case measure => simp [intOf]; omega
    · have hkm : k = xs.length := by omega
      subst hkm
      have HE : Aside (val zs = val xs / 2 ^ n) := ⟨by rw [HS.out, val_take_all]⟩
      go_wp2_with (go_at_call 156; with_reducible refine (trim_calls HZ.out).mono ?_; rintro e w' ⟨r, rfl, hr, rfl⟩; have HR := Aside.mk hr; clear hr)
      go_ret
      exact ⟨r, rfl, by rw [← HE.out]; exact HR.out, HB.out⟩
end Go.Proofs.YtgfkachfbnbikaaGreatDoor
