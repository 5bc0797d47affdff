/- Contracts of package fluxionref01: twice, half. -/
import Derived.Test.YtgfkachfbnbikaaGreatDoorRefC
import Derived.Test.YtgfkachfbnbikaaGreatDoorDec
namespace Go.Proofs.YtgfkachfbnbikaaGreatDoor
open Go.RowKit

theorem twice_step {Z P b X b0 o b' x : Nat} (h : Z + P * b = 2 * X + b0) (ho : o + 4294967296 * b' = 2 * x + b) : Z + P * o + P * 4294967296 * b' = 2 * (X + P * x) + b0 := by
  have h1 : P * (o + 4294967296 * b') = P * (2 * x + b) := by rw [ho]
  rw [Nat.mul_add, Nat.mul_add, ← Nat.mul_assoc, Nat.mul_left_comm] at h1
  omega
set_option maxHeartbeats 1000000 in
theorem rtwice_calls {w : World} {u : Value} {xs : List Nat} {b0 : Nat} (hu : RV w u xs) (hb0 : b0 ≤ 1) (hl : xs.length < 1073741824) :
    Calls Tryz.prog 129 #[u, .int .u32 (b0 : Int)] w fun e w' => ∃ r, e = .returned r ∧ OV w.heap.size w' r (dig (2 * val xs + b0)) ∧ Ext w w' := by
  obtain ⟨A, c, rfl, hc, hd, hr⟩ := id hu
  have HU := Aside.mk hu
  clear hu hd hr
  go_enter Tryz.func129, Tryz.ntmps129
  go_wp2_with (refine make_u32 _ rfl _ _ rfl (xs.length + 1) _ _ rfl rfl (by omega) (by omega) (by omega) ?_; intro w1 z hz0 hb1 hz1; subst hz1; have HZ0 := Aside.mk hz0; have HB0 := Aside.mk hb1; clear hz0 hb1)
  go_loopw [1, 6] (fun b i wr => ∃ (k c : Nat) (zs : List Nat), k ≤ xs.length ∧ i = .int .i64 (k : Int) ∧ b = .int .u32 (c : Int) ∧ c ≤ 1 ∧ Aside (OV w.heap.size wr (.slice (some ⟨w.heap.size, 0, none⟩) (xs.length + 1) (xs.length + 1)) zs) ∧ Aside (Ext w wr) ∧ Aside (zs.length = xs.length + 1) ∧
    Aside (val zs + 4294967296 ^ k * c = 2 * val (xs.take k) + b0) ∧ Aside (val zs < 4294967296 ^ k)) (fun _ i _ => xs.length - (intOf i).toNat)
  case atStart => exact ⟨0, b0, _, Nat.zero_le _, rfl, rfl, hb0, HZ0, HB0, ⟨by simp⟩, ⟨by simp [val, val_zeros]⟩, ⟨by rw [val_zeros]; decide⟩⟩
  case round =>
    obtain ⟨k, b, zs, hk, rfl, rfl, hb, HZ, HB, HL, HS, HT⟩ := hrel
    by_cases hlt : k < xs.length
    · obtain ⟨x, hx⟩ : ∃ x, xs.getD k 0 = x := ⟨_, rfl⟩
      have hx4 : x < 4294967296 := hx ▸ HU.out.dg.get k
      obtain ⟨ad, rfl, hcell⟩ := (HU.out.ext HB.out).at' k hlt
      rw [hx] at hcell
      have HX := Aside.mk hx
      clear hx
      have hzc := HZ.out.cell k (by rw [HL.out]; omega)
      have hzf := HZ.out.free k
      obtain ⟨m, hm⟩ : ∃ m, x % 2147483648 = m := ⟨_, rfl⟩
      obtain ⟨b', hb'⟩ : ∃ b', x / 2147483648 = b' := ⟨_, rfl⟩
      obtain ⟨o, ho⟩ : ∃ o, m * 2 ^ 1 + b = o := ⟨_, rfl⟩
      have hsh : IntKind.u32.wrap ((x : Int) * 2) = ((m * 2 ^ 1 : Nat) : Int) := by rw [wrap_u32]; omega
      have hor : bits .or .u32 ((m : Int) * 2) (b : Int) = (o : Int) := by
        have h := or_low b m 1 (by omega) (by omega)
        rw [ho] at h
        simpa using h
      have hb2 : (x : Int) / 2147483648 = (b' : Int) := by omega
      have HO : Aside (o < 4294967296) := ⟨by omega⟩
      have HXB : Aside (o + 4294967296 * b' = 2 * x + b) := ⟨by omega⟩
      have HB' : Aside (b' ≤ 1) := ⟨by omega⟩
      obtain ⟨ad', e', hcell2⟩ := (HU.out.ext (HB.out.set (p := ⟨w.heap.size, k, none⟩) (Nat.le_refl _) (.int .u32 (o : Int)))).at' k hlt
      injection e' with e'
      subst e'
      rw [HX.out] at hcell2
      clear hm hb' ho
      go_wp2
      go_roundw
      case rel =>
        have hsz := set_zero HT.out (show k < zs.length by rw [HL.out]; omega) HO.out
        refine ⟨k + 1, b', zs.set k o, by omega, by go_num, rfl, HB'.out, ⟨HZ.out.store k HO.out⟩, ⟨HB.out.set (Nat.le_refl _) _⟩, ⟨by simp [HL.out]⟩, ⟨?_⟩, ⟨hsz.2⟩⟩
        rw [val_take_step xs, HX.out, hsz.1, Nat.pow_succ]
        exact twice_step HS.out HXB.out
      case measure => simp [intOf]; omega
    · have hkm : k = xs.length := by omega
      subst hkm
      have hzc := HZ.out.cell xs.length (by rw [HL.out]; omega)
      have hzf := HZ.out.free xs.length
      have HBB := Aside.mk hb
      have hsz := set_zero HT.out (show xs.length < zs.length by rw [HL.out]; omega) (show b < 4294967296 by omega)
      have HE : Aside (val (zs.set xs.length b) = 2 * val xs + b0) := ⟨by rw [hsz.1, HS.out, val_take_all]⟩
      clear hsz
      go_wp2_with (go_at_call 107; with_reducible refine (rshort_calls (HZ.out.store xs.length (x := b) (by have := HBB.out; omega))).mono ?_; rintro e w' ⟨r, rfl, hr, rfl⟩; have HR := Aside.mk hr; clear hr)
      go_ret
      exact ⟨r, rfl, by rw [← HE.out]; exact HR.out, HB.out.set (Nat.le_refl _) _⟩

/-- half halves a number, rounded down. -/
theorem half_step {X P x m o c c' : Nat} (hX : X = 2 * P + c) (h1 : x / 2 = m) (h2 : x % 2 = c') (h3 : m + 2147483648 * c = o) : x + 4294967296 * X = 2 * (o + 4294967296 * P) + c' := by omega
set_option maxHeartbeats 1000000 in
theorem rhalf_calls {w : World} {u : Value} {xs : List Nat} (hu : RV w u xs) :
    Calls Tryz.prog 127 #[u] w fun e w' => ∃ r, e = .returned r ∧ OV w.heap.size w' r (dig (val xs / 2)) ∧ Ext w w' := by
  obtain ⟨A, c, rfl, hc, hd, hr⟩ := id hu
  have HU := Aside.mk hu
  have hl : xs.length ≤ 1073741824 := hd.1
  clear hu hd hr
  go_enter Tryz.func127, Tryz.ntmps127
  go_wp2_with (refine make_u32 _ rfl _ _ rfl xs.length _ _ rfl rfl rfl rfl hl ?_; intro w1 z hz0 hb1 hz1; subst hz1; have HZ0 := Aside.mk hz0; have HB0 := Aside.mk hb1; clear hz0 hb1)
  go_loopw [4, 5] (fun b i wr => ∃ (k c : Nat) (zs : List Nat), k ≤ xs.length ∧ i = .int .i64 ((k : Int) - 1) ∧ b = .int .u32 (c : Int) ∧ c ≤ 1 ∧ Aside (OV w.heap.size wr (.slice (some ⟨w.heap.size, 0, none⟩) xs.length xs.length) zs) ∧ Aside (Ext w wr) ∧ Aside (zs.length = xs.length) ∧
    Aside (val (xs.drop k) = 2 * val (zs.drop k) + c)) (fun _ i _ => (intOf i + 1).toNat)
  case atStart => exact ⟨xs.length, 0, _, Nat.le_refl _, rfl, rfl, by omega, HZ0, HB0, ⟨by simp⟩, ⟨by rw [List.drop_length]; simp [val]⟩⟩
  case round =>
    obtain ⟨k, b, zs, hk, rfl, rfl, hb, HZ, HB, HL, HS⟩ := hrel
    cases k with
    | succ k =>
      have hlt : k < xs.length := by omega
      obtain ⟨x, hx⟩ : ∃ x, xs.getD k 0 = x := ⟨_, rfl⟩
      have hx4 : x < 4294967296 := hx ▸ HU.out.dg.get k
      obtain ⟨ad, rfl, hcell⟩ := (HU.out.ext HB.out).at' k hlt
      rw [hx] at hcell
      have HX := Aside.mk hx
      clear hx
      have hzc := HZ.out.cell k (by rw [HL.out]; omega)
      have hzf := HZ.out.free k
      obtain ⟨m, hm⟩ : ∃ m, x / 2 = m := ⟨_, rfl⟩
      obtain ⟨b', hb'⟩ : ∃ b', x % 2 = b' := ⟨_, rfl⟩
      obtain ⟨o, ho⟩ : ∃ o, m + 2147483648 * b = o := ⟨_, rfl⟩
      have h1 : (x : Int) / 2 = (m : Int) := by omega
      have h2 : IntKind.u32.wrap ((b : Int) * 2147483648) = ((b * 2 ^ 31 : Nat) : Int) := by rw [wrap_u32]; omega
      have hor : bits .or .u32 (m : Int) ((b : Int) * 2147483648) = (o : Int) := by
        have h := or_high m b 31 (by omega) (by omega)
        rw [show ((b * 2 ^ 31 : Nat) : Int) = (b : Int) * 2147483648 from by simp] at h
        rw [h, ← ho]; congr 1; omega
      have h3 : (x : Int) % 2 = (b' : Int) := by omega
      have h4 : (x : Int).tmod 2 = (b' : Int) := by rw [Int.tmod_eq_emod_of_nonneg (by omega)]; exact h3
      have HO : Aside (o < 4294967296) := ⟨by omega⟩
      have HST := Aside.mk (half_step HS.out hm hb' ho)
      have HB' : Aside (b' ≤ 1) := ⟨by omega⟩
      obtain ⟨ad', e', hcell2⟩ := (HU.out.ext (HB.out.set (p := ⟨w.heap.size, k, none⟩) (Nat.le_refl _) (.int .u32 (o : Int)))).at' k hlt
      injection e' with e'
      subst e'
      rw [HX.out] at hcell2
      clear hm hb' ho
      go_wp2
      go_roundw
      case rel =>
        refine ⟨k, b', zs.set k o, by omega, by first | rfl | go_num, by first | rfl | congr 1, HB'.out, ⟨HZ.out.store k HO.out⟩, ⟨HB.out.set (Nat.le_refl _) _⟩, ⟨by simp [HL.out]⟩, ⟨?_⟩⟩
        rw [val_drop xs k hlt, HX.out, val_drop _ k (by simp [HL.out]; exact hlt), drop_set_self, getD_set_at (by rw [HL.out]; exact hlt), if_pos rfl]
        exact HST.out
      case measure => simp [intOf]
    | zero =>
      have HE : Aside (val zs = val xs / 2) := ⟨by have := HS.out; rw [List.drop_zero, List.drop_zero] at this; omega⟩
      go_wp2_with (go_at_call 107; with_reducible refine (rshort_calls HZ.out).mono ?_; rintro e w' ⟨r, rfl, hr, rfl⟩; have HR := Aside.mk hr; clear hr)
      go_ret
      exact ⟨r, rfl, by rw [← HE.out]; exact HR.out, HB.out⟩
end Go.Proofs.YtgfkachfbnbikaaGreatDoor
