/- Contracts of package fluxionref01: Sub, twice, half. -/
import Derived.Test.YtgfkachfbnbikaaGreatDoorRefB
import Derived.Deep.RegionHeld
namespace Go.Proofs.YtgfkachfbnbikaaGreatDoor
open Go.RowKit

theorem set_zero {zs : List Nat} {k v : Nat} (h : val zs < 4294967296 ^ k) (hk : k < zs.length) (hv : v < 4294967296) : val (zs.set k v) = val zs + 4294967296 ^ k * v ∧ val (zs.set k v) < 4294967296 ^ (k + 1) := by
  have h1 := val_set v hk
  rw [getD_zero_of_val h, Nat.mul_zero, Nat.add_zero] at h1
  refine ⟨h1, ?_⟩
  rw [h1, Nat.pow_succ]
  have : 4294967296 ^ k * v + 4294967296 ^ k ≤ 4294967296 ^ k * 4294967296 := by rw [← Nat.mul_succ]; exact Nat.mul_le_mul_left _ hv
  omega

set_option maxHeartbeats 1000000 in
theorem rsub_calls {w : World} {u v : Value} {xs ys : List Nat} (hu : RV w u xs) (hv : RV w v ys) (hlen : ys.length ≤ xs.length) (hle : val ys ≤ val xs) :
    Calls Tryz.prog 128 #[u, v] w fun e w' => ∃ r, e = .returned r ∧ OV w.heap.size w' r (dig (val xs - val ys)) ∧ Ext w w' := by
  obtain ⟨A, c, rfl, hc, hd, hr⟩ := id hu
  obtain ⟨B, d, rfl, hc', hd', hr'⟩ := id hv
  have HU := Aside.mk hu
  have HV := Aside.mk hv
  have hl : xs.length ≤ 1073741824 := hd.1
  have HLE := Aside.mk hle
  have HLEN := Aside.mk hlen
  clear hu hv hd hd' hr hr' hle hlen
  go_enter Tryz.func128, Tryz.ntmps128
  go_wp2_with (refine make_u32 _ rfl _ _ rfl xs.length _ _ rfl rfl (by omega) (by omega) hl ?_; intro w1 z hz0 hb1 hz1; subst hz1; have HZ0 := Aside.mk hz0; have HB0 := Aside.mk hb1; clear hz0 hb1)
  go_loopw [6, 7] (fun cr i wr => ∃ (k c : Nat) (zs : List Nat), k ≤ xs.length ∧ i = .int .i64 (k : Int) ∧ cr = .int .u64 (c : Int) ∧ c ≤ 1 ∧ Aside (OV w.heap.size wr (.slice (some ⟨w.heap.size, 0, none⟩) xs.length xs.length) zs) ∧ Aside (Ext w wr) ∧ Aside (zs.length = xs.length) ∧
    Aside (val (xs.take k) + 4294967296 ^ k * c = val zs + val (ys.take k)) ∧ Aside (val zs < 4294967296 ^ k)) (fun _ i _ => xs.length - (intOf i).toNat)
  case atStart => exact ⟨0, 0, _, Nat.zero_le _, rfl, rfl, by omega, HZ0, HB0, ⟨by simp⟩, ⟨by simp [val, val_zeros]⟩, ⟨by rw [val_zeros]; decide⟩⟩
  case round =>
    obtain ⟨k, cr, zs, hk, rfl, rfl, hcr, HZ, HB, HL, HS, HT⟩ := hrel
    by_cases hlt : k < xs.length
    · obtain ⟨x, hx⟩ : ∃ x, xs.getD k 0 = x := ⟨_, rfl⟩
      obtain ⟨y, hy⟩ : ∃ y, ys.getD k 0 = y := ⟨_, rfl⟩
      have hx4 : x < 4294967296 := hx ▸ HU.out.dg.get k
      have hy4 : y < 4294967296 := hy ▸ HV.out.dg.get k
      obtain ⟨ad, rfl, hcell⟩ := (HU.out.ext HB.out).at' k hlt
      rw [hx] at hcell
      have HX := Aside.mk hx
      have HY := Aside.mk hy
      clear hx hy
      have hzc := HZ.out.cell k (by rw [HL.out]; exact hlt)
      have hzf := HZ.out.free k
      go_wp2
      go_region_with (go_at_call 106; with_reducible refine (rdigit_calls (HV.out.ext (HB.out.drew)) rfl HY.out).mono ?_; rintro e w' ⟨rfl, rfl⟩)
      all_goals
        obtain ⟨D, hD⟩ : ∃ D, x + 4294967296 - y - cr = D := ⟨_, rfl⟩
        have e1 : (IntKind.u64.wrap (IntKind.u64.wrap (IntKind.u64.wrap (IntKind.u64.wrap (x : Int) + 4294967296) - (y : Int)) - (cr : Int))) = (D : Int) := by simp only [wrap_u64]; omega
        obtain ⟨o, ho⟩ : ∃ o, D % 4294967296 = o := ⟨_, rfl⟩
        have e2 : IntKind.u32.wrap (D : Int) = (o : Int) := by rw [wrap_u32]; omega
        rcases Nat.lt_or_ge x (y + cr) with hb | hb
        · have e3 : (D : Int) / 4294967296 = 0 := by omega
          have HO4 : Aside (o < 4294967296) := ⟨by omega⟩
          have HO : Aside (x + 4294967296 * 1 = o + y + cr) := ⟨by omega⟩
          clear hD ho hb
          go_wp2
          go_roundw
          case rel =>
            have hsz := set_zero HT.out (show k < zs.length by rw [HL.out]; exact hlt) HO4.out
            refine ⟨k + 1, 1, zs.set k o, by omega, by go_num, by first | rfl | congr 1, by omega, ⟨(HZ.out.ext (Ext.refl _).drew).store k HO4.out⟩, ⟨HB.out.drew.set (Nat.le_refl _) _⟩, ⟨by simp [HL.out]⟩, ⟨?_⟩, ⟨hsz.2⟩⟩
            rw [val_take_step xs, val_take_step ys, HX.out, HY.out, hsz.1, Nat.pow_succ]
            exact dif_step HS.out HO.out
          case measure => simp [intOf]; omega
        · have e3 : (D : Int) / 4294967296 = 1 := by omega
          have HO4 : Aside (o < 4294967296) := ⟨by omega⟩
          have HO : Aside (x + 4294967296 * 0 = o + y + cr) := ⟨by omega⟩
          clear hD ho hb
          go_wp2
          go_roundw
          case rel =>
            have hsz := set_zero HT.out (show k < zs.length by rw [HL.out]; exact hlt) HO4.out
            refine ⟨k + 1, 0, zs.set k o, by omega, by go_num, by first | rfl | congr 1, by omega, ⟨(HZ.out.ext (Ext.refl _).drew).store k HO4.out⟩, ⟨HB.out.drew.set (Nat.le_refl _) _⟩, ⟨by simp [HL.out]⟩, ⟨?_⟩, ⟨hsz.2⟩⟩
            rw [val_take_step xs, val_take_step ys, HX.out, HY.out, hsz.1, Nat.pow_succ]
            exact dif_step HS.out HO.out
          case measure => simp [intOf]; omega
    · have hkm : k = xs.length := by omega
      subst hkm
      have HE : Aside (val zs = val xs - val ys) := ⟨by
        have h1 := HS.out
        rw [val_take_all, val_take_ge HLEN.out] at h1
        have h2 := HT.out
        have h3 := HLE.out
        rcases Nat.lt_or_ge 0 cr with h4 | h4
        · have : cr = 1 := by omega
          subst this
          omega
        · have : cr = 0 := by omega
          subst this
          omega⟩
      go_wp2_with (go_at_call 107; with_reducible refine (rshort_calls HZ.out).mono ?_; rintro e w' ⟨r, rfl, hr, rfl⟩; have HR := Aside.mk hr; clear hr)
      go_ret
      exact ⟨r, rfl, by rw [← HE.out]; exact HR.out, HB.out⟩
end Go.Proofs.YtgfkachfbnbikaaGreatDoor
