/- Contracts of package nat: take, give. -/
import Derived.Test.YtgfkachfbnbikaaGreatDoorNatA
namespace Go.Proofs.YtgfkachfbnbikaaGreatDoor
open Go.RowKit

theorem grown_drewN (w : World) (n : Nat) (r : Option Nat) : w.grownBy (w.drewN n) r := ⟨rfl, rfl, rfl, Nat.le_refl _, fun _ _ _ => rfl⟩
theorem grown_set {w W : World} {g : Nat} (h : w.grownBy W (some g)) (p : Addr) (hp : p.block = g) (v : Value) : w.grownBy (W.setCell p v) (some g) :=
  ⟨h.os, h.tape, h.output, by simpa using h.size, fun k hk hne => by
    rw [Below.heap_setCell _ _ _ _ (by intro e; rw [e, hp] at hne; exact hne rfl)]; exact h.block k hk hne⟩

set_option maxRecDepth 10000 in
set_option maxHeartbeats 400000 in
/-- take takes q times v from a part of a row that is owned. -/
theorem take_calls {w : World} {b b2 g N C i L c' q : Nat} {vv : Value} {us vs : List Nat} (hu : OV b w (.slice (some ⟨g, 0, none⟩) N C) us) (hiL : i + L ≤ us.length) (hv : OV b2 w vv vs) (hg : g < b2) (hq : q < 4294967296) :
    Calls Tryz.prog 170 #[.slice (some ⟨g, i, none⟩) L c', vv, .int .u64 (q : Int)] w fun e w' => ∃ (l c : Nat) (us' : List Nat), e = .returned (.bool (l == 0)) ∧ l ≤ 1 ∧ c < 4294967296 ∧ (L = vs.length + 1 → c = 0) ∧
      OV b w' (.slice (some ⟨g, 0, none⟩) N C) us' ∧ us'.length = us.length ∧ us'.take i = us.take i ∧ us'.drop (i + L) = us.drop (i + L) ∧
      val us' + 4294967296 ^ i * (q * val (vs.take L)) = val us + 4294967296 ^ (i + L) * (c + l) ∧ OV b2 w' vv vs ∧ w.grownBy w' (some g) := by
  obtain ⟨B, d, rfl, hc'⟩ := hv.form
  have HU := Aside.mk hu
  have HV := Aside.mk hv
  have hl : us.length ≤ 1073741824 := hu.1.1
  have hl' : vs.length ≤ 1073741824 := hv.1.1
  clear hu hv
  go_enter Tryz.func170, Tryz.ntmps170
  go_wp2
  go_loopw [7, 8, 13] (fun cr le k' wr => ∃ (k c l : Nat) (zs : List Nat), k ≤ L ∧ k' = .int .i64 (k : Int) ∧ cr = .int .u64 (c : Int) ∧ le = .int .u64 (l : Int) ∧ c < 4294967296 ∧ l ≤ 1 ∧ (k = vs.length + 1 → c = 0) ∧ Aside (OV b wr (.slice (some ⟨g, 0, none⟩) N C) zs) ∧
    Aside (OV b2 wr (.slice B vs.length d) vs) ∧ Aside (w.grownBy wr (some g)) ∧ Aside (zs.length = us.length) ∧ Aside (zs.take i = us.take i) ∧ Aside (zs.drop (i + k) = us.drop (i + k)) ∧
    Aside (val zs + 4294967296 ^ i * (q * val (vs.take k)) = val us + 4294967296 ^ (i + k) * (c + l))) (fun _ _ k' _ => L - (intOf k').toNat)
  case atStart => exact ⟨0, 0, 0, us, Nat.zero_le _, rfl, rfl, rfl, by omega, by omega, by omega, HU, HV, ⟨World.grownBy.refl _ _⟩, ⟨rfl⟩, ⟨rfl⟩, ⟨rfl⟩, ⟨by simp [val]⟩⟩
  case round =>
    obtain ⟨k, cr, l, zs, hk, rfl, rfl, rfl, hcr, hle, hck, HZ, HV, HG, HL, HT, HD, HS⟩ := hrel
    by_cases hlt : k < L
    · obtain ⟨y, hy⟩ : ∃ y, vs.getD k 0 = y := ⟨_, rfl⟩
      have hy4 : y < 4294967296 := hy ▸ HV.out.1.get k
      have HY := Aside.mk hy
      obtain ⟨u, hu⟩ : ∃ u, zs.getD (i + k) 0 = u := ⟨_, rfl⟩
      have hu4 : u < 4294967296 := hu ▸ HZ.out.1.get _
      have hzc := HZ.out.cell (i + k) (by rw [HL.out]; omega)
      have hzf := HZ.out.free (i + k)
      rw [hu] at hzc
      have HUU := Aside.mk hu
      have hqy : q * y ≤ 4294967295 * 4294967295 := Nat.mul_le_mul (by omega) (by omega)
      obtain ⟨z, hz⟩ : ∃ z, q * y = z := ⟨_, rfl⟩
      rw [hz] at hqy
      have hqz : (q : Int) * (y : Int) = (z : Int) := by rw [← hz]; simp
      have hzw : IntKind.u64.wrap (z : Int) = (z : Int) := by rw [wrap_u64]; omega
      obtain ⟨T, hT⟩ : ∃ T, cr + z = T := ⟨_, rfl⟩
      have hTi : (cr : Int) + (z : Int) = (T : Int) := by omega
      have hTb : T < 18446744073709551616 := by omega
      have hTw : IntKind.u64.wrap (T : Int) = (T : Int) := by rw [wrap_u64]; omega
      have hmask := and_mask32 T hTb
      obtain ⟨lo, hlo⟩ : ∃ lo, T % 4294967296 = lo := ⟨_, rfl⟩
      rw [hlo] at hmask
      have hlo4 : lo < 4294967296 := by omega
      obtain ⟨c2, hc2⟩ : ∃ c2, T / 4294967296 = c2 := ⟨_, rfl⟩
      have hc24 : c2 < 4294967296 := by omega
      have hdv : (T : Int) / 4294967296 = (c2 : Int) := by omega
      have HTT := Aside.mk (show cr + q * y = lo + 4294967296 * c2 by omega)
      have HCK := Aside.mk (show k + 1 = vs.length + 1 → c2 = 0 by
        intro e
        have h0 : y = 0 := by rw [← hy, getD_ge (by omega)]
        have hz0 : z = 0 := by rw [← hz, h0, Nat.mul_zero]
        omega)
      clear hz hT hlo hc2 hy hu hck
      rcases Nat.lt_or_ge u (lo + l) with hbb | hbb
      · have e1 : IntKind.u64.wrap (IntKind.u64.wrap ((u : Int) - (lo : Int)) - (l : Int)) = (u : Int) + 18446744073709551616 - lo - l := by rw [wrap_u64, wrap_u64]; omega
        have hd4 : ((u : Int) + 18446744073709551616 - lo - l) % 4294967296 = ((u + 4294967296 - lo - l : Nat) : Int) := by omega
        go_wp2_with (go_at_call 186; with_reducible refine (at_calls (v := .slice B vs.length d) HV.out.rv rfl HY.out).mono ?_; rintro e w' ⟨rfl, rfl⟩)
        go_roundw
        case rel =>
          refine ⟨k + 1, c2, 1, zs.set (i + k) (u + 4294967296 - lo - l), by omega, by go_num, rfl, by congr 1; omega, hc24, by omega, HCK.out, ⟨?_⟩, ⟨?_⟩, ⟨?_⟩, ⟨by simp [HL.out]⟩, ⟨?_⟩, ⟨?_⟩, ⟨?_⟩⟩
          · exact HZ.out.store (i + k) (by omega)
          · exact HV.out.set hg _
          · exact grown_set HG.out _ rfl _
          · rw [take_set_below _ _ _ _ (by omega)]; exact HT.out
          · exact drop_set_above _ HD.out
          · have hv := val_set (u + 4294967296 - lo - l) (show i + k < zs.length by rw [HL.out]; omega)
            rw [HUU.out] at hv
            have e := take_step HS.out hv HTT.out (show (u + 4294967296 - lo - l) + lo + l = u + 4294967296 * 1 by omega)
            rw [val_take_step, HY.out, Nat.mul_add q, Nat.mul_add, ← Nat.add_assoc i k 1, Nat.pow_succ, ← e, Nat.pow_add, Nat.mul_assoc (4294967296 ^ i), Nat.mul_left_comm q]
        case measure => simp [intOf]; omega
      · have hd4 : ((u : Int) - lo - l) = ((u - lo - l : Nat) : Int) := by omega
        go_wp2_with (go_at_call 186; with_reducible refine (at_calls (v := .slice B vs.length d) HV.out.rv rfl HY.out).mono ?_; rintro e w' ⟨rfl, rfl⟩)
        go_roundw
        case rel =>
          refine ⟨k + 1, c2, 0, zs.set (i + k) (u - lo - l), by omega, by go_num, rfl, by congr 1; omega, hc24, by omega, HCK.out, ⟨?_⟩, ⟨?_⟩, ⟨?_⟩, ⟨by simp [HL.out]⟩, ⟨?_⟩, ⟨?_⟩, ⟨?_⟩⟩
          · exact HZ.out.store (i + k) (by omega)
          · exact HV.out.set hg _
          · exact grown_set HG.out _ rfl _
          · rw [take_set_below _ _ _ _ (by omega)]; exact HT.out
          · exact drop_set_above _ HD.out
          · have hv := val_set (u - lo - l) (show i + k < zs.length by rw [HL.out]; omega)
            rw [HUU.out] at hv
            have e := take_step HS.out hv HTT.out (show (u - lo - l) + lo + l = u + 4294967296 * 0 by omega)
            rw [val_take_step, HY.out, Nat.mul_add q, Nat.mul_add, ← Nat.add_assoc i k 1, Nat.pow_succ, ← e, Nat.pow_add, Nat.mul_assoc (4294967296 ^ i), Nat.mul_left_comm q]
        case measure => simp [intOf]; omega
    · have hkL : k = L := by omega
      subst hkL
      have hl0 : (((l : Int) == 0)) = (l == 0) := by rw [Bool.eq_iff_iff]; simp
      go_wp2
      go_ret
      exact ⟨l, cr, zs, by rw [← hl0]; rfl, hle, hcr, hck, HZ.out, HL.out, HT.out, HD.out, HS.out, HV.out, HG.out⟩

set_option maxRecDepth 10000 in
set_option maxHeartbeats 400000 in
/-- give adds a number to a part of a row that is owned. -/
theorem give_calls {w : World} {b b2 g N C i L c' : Nat} {vv : Value} {us vs : List Nat} (hu : OV b w (.slice (some ⟨g, 0, none⟩) N C) us) (hiL : i + L ≤ us.length) (hv : OV b2 w vv vs) (hg : g < b2) :
    Calls Tryz.prog 171 #[.slice (some ⟨g, i, none⟩) L c', vv] w fun e w' => ∃ (c : Nat) (us' : List Nat), e = .returned (.tuple #[]) ∧ c ≤ 1 ∧
      OV b w' (.slice (some ⟨g, 0, none⟩) N C) us' ∧ us'.length = us.length ∧ us'.take i = us.take i ∧ us'.drop (i + L) = us.drop (i + L) ∧
      val us' + 4294967296 ^ (i + L) * c = val us + 4294967296 ^ i * val (vs.take L) ∧ OV b2 w' vv vs ∧ w.grownBy w' (some g) := by
  obtain ⟨B, d, rfl, hc'⟩ := hv.form
  have HU := Aside.mk hu
  have HV := Aside.mk hv
  have hl : us.length ≤ 1073741824 := hu.1.1
  have hl' : vs.length ≤ 1073741824 := hv.1.1
  clear hu hv
  go_enter Tryz.func171, Tryz.ntmps171
  go_wp2
  go_loopw [4, 8] (fun cr k' wr => ∃ (k c : Nat) (zs : List Nat), k ≤ L ∧ k' = .int .i64 (k : Int) ∧ cr = .int .u64 (c : Int) ∧ c ≤ 1 ∧ Aside (OV b wr (.slice (some ⟨g, 0, none⟩) N C) zs) ∧
    Aside (OV b2 wr (.slice B vs.length d) vs) ∧ Aside (w.grownBy wr (some g)) ∧ Aside (zs.length = us.length) ∧ Aside (zs.take i = us.take i) ∧ Aside (zs.drop (i + k) = us.drop (i + k)) ∧
    Aside (val zs + 4294967296 ^ (i + k) * c = val us + 4294967296 ^ i * val (vs.take k))) (fun _ k' _ => L - (intOf k').toNat)
  case atStart => exact ⟨0, 0, us, Nat.zero_le _, rfl, rfl, by omega, HU, HV, ⟨World.grownBy.refl _ _⟩, ⟨rfl⟩, ⟨rfl⟩, ⟨rfl⟩, ⟨by simp [val]⟩⟩
  case round =>
    obtain ⟨k, cr, zs, hk, rfl, rfl, hcr, HZ, HV, HG, HL, HT, HD, HS⟩ := hrel
    by_cases hlt : k < L
    · obtain ⟨y, hy⟩ : ∃ y, vs.getD k 0 = y := ⟨_, rfl⟩
      have hy4 : y < 4294967296 := hy ▸ HV.out.1.get k
      have HY := Aside.mk hy
      obtain ⟨u, hu⟩ : ∃ u, zs.getD (i + k) 0 = u := ⟨_, rfl⟩
      have hu4 : u < 4294967296 := hu ▸ HZ.out.1.get _
      have hzc := HZ.out.cell (i + k) (by rw [HL.out]; omega)
      have hzf := HZ.out.free (i + k)
      rw [hu] at hzc
      have HUU := Aside.mk hu
      clear hy hu
      have hk0 : (0 : Int) ≤ (k : Int) := by omega
      have hkL : (k : Int) < (L : Int) := by omega
      go_wp2
      go_quiet ((go_at_call 186; exact Calls.quiet_of_same ((at_calls (HV.out.rv.ext ((Ext.refl _).drewN _)) rfl HY.out).mono fun _ _ h => ⟨h.1, h.2.symm⟩)))
      go_wp2
      go_roundw
      case rel =>
        refine ⟨k + 1, (cr + (u + y)) / 4294967296, zs.set (i + k) ((cr + (u + y)) % 4294967296), by omega, by go_num, by congr 1, by omega, ⟨?_⟩, ⟨?_⟩, ⟨?_⟩, ⟨by simp [HL.out]⟩, ⟨?_⟩, ⟨?_⟩, ⟨?_⟩⟩
        · rw [show ((cr : Int) + ((u : Int) + (y : Int))) % 4294967296 = (((cr + (u + y)) % 4294967296 : Nat) : Int) from by omega]
          exact (HZ.out.ext ((Ext.refl _).drewN _)).store (i + k) (by omega)
        · exact (HV.out.ext ((Ext.refl _).drewN _)).set hg _
        · refine grown_set ?_ _ rfl _
          exact HG.out.trans (grown_drewN _ _ _)
        · rw [take_set_below _ _ _ _ (by omega)]; exact HT.out
        · exact drop_set_above _ HD.out
        · have hv := val_set ((cr + (u + y)) % 4294967296) (show i + k < zs.length by rw [HL.out]; omega)
          rw [HUU.out] at hv
          have e := give_step HS.out hv (show cr + (u + y) = (cr + (u + y)) % 4294967296 + 4294967296 * ((cr + (u + y)) / 4294967296) by omega)
          rw [val_take_step, HY.out, Nat.mul_add, ← Nat.add_assoc i k 1, Nat.pow_succ, e, Nat.pow_add, Nat.mul_assoc (4294967296 ^ i)]
      case measure => simp [intOf]; omega
    · have hkL : k = L := by omega
      subst hkL
      go_wp2
      go_end0
      exact ⟨cr, zs, rfl, hcr, HZ.out, HL.out, HT.out, HD.out, HS.out, HV.out, HG.out⟩
end Go.Proofs.YtgfkachfbnbikaaGreatDoor
