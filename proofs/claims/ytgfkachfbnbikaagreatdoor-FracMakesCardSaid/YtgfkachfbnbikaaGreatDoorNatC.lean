/- Contracts of package nat: mul, short. -/
import Derived.Test.YtgfkachfbnbikaaGreatDoorNatA
namespace Go.Proofs.YtgfkachfbnbikaaGreatDoor
open Go.RowKit

set_option maxHeartbeats 800000 in
/-- mul is a product. -/
theorem mul_calls {w : World} {u v : Value} {xs ys : List Nat} (hu : RV w u xs) (hv : RV w v ys) (hm : xs.length + ys.length ≤ 1073741824) :
    Calls Tryz.prog 147 #[u, v] w fun e w' => ∃ r, e = .returned r ∧ OV w.heap.size w' r (dig (val xs * val ys)) ∧ Ext w w' := by
  obtain ⟨A, c, rfl, hc, hd, hr⟩ := id hu
  obtain ⟨B, d, rfl, hc', hd', hr'⟩ := id hv
  have HU := Aside.mk hu
  have HV := Aside.mk hv
  have hl : xs.length ≤ 1073741824 := hd.1
  have hl' : ys.length ≤ 1073741824 := hd'.1
  clear hu hv hd hd' hr hr'
  go_enter Tryz.func147, Tryz.ntmps147
  go_wp2_with (refine make_u32 _ rfl _ _ rfl (xs.length + ys.length) _ _ rfl rfl (by omega) (by omega) hm ?_; intro w1 z hz0 hb1 hz1; subst hz1; have HZ0 := Aside.mk hz0; have HB0 := Aside.mk hb1; clear hz0 hb1)
  go_loopw [19] (fun i wr => ∃ (k : Nat) (zs : List Nat), k ≤ xs.length ∧ i = .int .i64 (k : Int) ∧ Aside (OV w.heap.size wr (.slice (some ⟨w.heap.size, 0, none⟩) (xs.length + ys.length) (xs.length + ys.length)) zs) ∧ Aside (Ext w wr) ∧ Aside (zs.length = xs.length + ys.length) ∧
    Aside (val zs = val (xs.take k) * val ys)) (fun i _ => xs.length - (intOf i).toNat)
  case atStart => exact ⟨0, _, Nat.zero_le _, rfl, HZ0, HB0, ⟨by simp⟩, ⟨by simp [val, val_zeros]⟩⟩
  case round =>
    obtain ⟨i, zs0, hk, rfl, HZ, HB, HL, HS⟩ := hrel
    by_cases hlt : i < xs.length
    · obtain ⟨x, hx⟩ : ∃ x, xs.getD i 0 = x := ⟨_, rfl⟩
      have hx4 : x < 4294967296 := hx ▸ HU.out.dg.get i
      obtain ⟨ad, rfl, hcell⟩ := (HU.out.ext HB.out).at' i hlt
      rw [hx] at hcell
      have HX := Aside.mk hx
      clear hx
      go_wp2
      go_loopw [8, 26] (fun cr i' wr' => ∃ (k c : Nat) (zs : List Nat), k ≤ ys.length ∧ i' = .int .i64 (k : Int) ∧ cr = .int .u64 (c : Int) ∧ c < 4294967296 ∧ Aside (OV w.heap.size wr' (.slice (some ⟨w.heap.size, 0, none⟩) (xs.length + ys.length) (xs.length + ys.length)) zs) ∧ Aside (Ext w wr') ∧ Aside (zs.length = xs.length + ys.length) ∧
        Aside (val zs + 4294967296 ^ (i + k) * c = val zs0 + 4294967296 ^ i * (x * val (ys.take k))) ∧ Aside (zs.getD (i + ys.length) 0 = 0)) (fun _ i' _ => ys.length - (intOf i').toNat)
      case atStart => exact ⟨0, 0, zs0, Nat.zero_le _, rfl, rfl, by omega, HZ, HB, HL, ⟨by simp [val]⟩, ⟨by
        apply getD_zero_of_val
        rw [HS.out, Nat.pow_add]
        have h1 := val_lt (HU.out.dg.ds.take i)
        rw [List.length_take, Nat.min_eq_left hk] at h1
        have h2 := val_lt HV.out.dg.ds
        exact Nat.mul_lt_mul'' h1 h2⟩⟩
      case round =>
        obtain ⟨k, cr, zs, hk', rfl, rfl, hcr, HZ', HB', HL', HS', H0⟩ := hrel
        by_cases hlt' : k < ys.length
        · obtain ⟨y, hy⟩ : ∃ y, ys.getD k 0 = y := ⟨_, rfl⟩
          have hy4 : y < 4294967296 := hy ▸ HV.out.dg.get k
          obtain ⟨bd, rfl, hcell'⟩ := (HV.out.ext HB'.out).at' k hlt'
          rw [hy] at hcell'
          have HY := Aside.mk hy
          clear hy
          obtain ⟨z, hz⟩ : ∃ z, zs.getD (i + k) 0 = z := ⟨_, rfl⟩
          have hz4 : z < 4294967296 := hz ▸ HZ'.out.1.get _
          have hzc := HZ'.out.cell (i + k) (by rw [HL'.out]; omega)
          have hzf := HZ'.out.free (i + k)
          rw [hz] at hzc
          have HZZ := Aside.mk hz
          clear hz
          have hxy : (x : Int) * (y : Int) ≤ 18446744065119617025 := by
            have : x * y ≤ 4294967295 * 4294967295 := Nat.mul_le_mul (by omega) (by omega)
            have e : (x : Int) * (y : Int) = ((x * y : Nat) : Int) := by simp
            omega
          have hxy0 : 0 ≤ (x : Int) * (y : Int) := Int.mul_nonneg (by omega) (by omega)
          go_wp2
          go_roundw
          case rel =>
            have hs : (((cr + (x * y + z) : Nat) : Int)) = (cr : Int) + ((x : Int) * (y : Int) + (z : Int)) := by simp
            have hsl : x * y + z + cr < 4294967296 * 4294967296 := by
              have : x * y ≤ 4294967295 * 4294967295 := Nat.mul_le_mul (by omega) (by omega)
              omega
            refine ⟨k + 1, (cr + (x * y + z)) / 4294967296, zs.set (i + k) ((cr + (x * y + z)) % 4294967296), by omega, by go_num, by rw [← hs]; congr 1, by omega, ⟨?_⟩, ⟨?_⟩, ⟨?_⟩, ⟨?_⟩, ⟨?_⟩⟩
            · rw [← hs, show ((cr + (x * y + z) : Nat) : Int) % 4294967296 = (((cr + (x * y + z)) % 4294967296 : Nat) : Int) from by omega]
              exact HZ'.out.store (i + k) (by omega)
            · exact HB'.out.set (Nat.le_refl _) _
            · simp [HL'.out]
            · have hv := val_set ((cr + (x * y + z)) % 4294967296) (show i + k < zs.length by rw [HL'.out]; omega)
              rw [HZZ.out] at hv
              have e := mul_step HS'.out hv rfl
              rw [val_take_step ys, HY.out, Nat.mul_add, ← Nat.add_assoc i k 1, Nat.pow_succ, e, Nat.mul_add, Nat.pow_add, Nat.mul_assoc, Nat.mul_left_comm x]
            · rw [getD_set_ne (by omega)]; exact H0.out
          case measure => simp [intOf]; omega
        · have hkm : k = ys.length := by omega
          subst hkm
          have hzc := HZ'.out.cell (i + ys.length) (by rw [HL'.out]; omega)
          have hzf := HZ'.out.free (i + ys.length)
          go_wp2
          go_roundw
          case rel =>
            refine ⟨i + 1, zs.set (i + ys.length) cr, by omega, by go_num, ⟨?_⟩, ⟨?_⟩, ⟨?_⟩, ⟨?_⟩⟩
            · exact HZ'.out.store (i + ys.length) hcr
            · exact HB'.out.set (Nat.le_refl _) _
            · simp [HL'.out]
            · have hv := val_set cr (show i + ys.length < zs.length by rw [HL'.out]; omega)
              have h1 := HS'.out
              rw [H0.out, Nat.mul_zero, Nat.add_zero] at hv
              rw [hv, h1, val_take_all, HS.out, val_take_step xs, HX.out, Nat.add_mul, Nat.mul_assoc]
          case measure => simp [intOf]; omega
    · have hkm : i = xs.length := by omega
      subst hkm
      have HE : Aside (val zs0 = val xs * val ys) := ⟨by rw [HS.out, val_take_all]⟩
      go_wp2_with (go_at_call 156; with_reducible refine (trim_calls HZ.out).mono ?_; rintro e w' ⟨r, rfl, hr, rfl⟩; have HR := Aside.mk hr; clear hr)
      go_ret
      exact ⟨r, rfl, by rw [← HE.out]; exact HR.out, HB.out⟩
end Go.Proofs.YtgfkachfbnbikaaGreatDoor
