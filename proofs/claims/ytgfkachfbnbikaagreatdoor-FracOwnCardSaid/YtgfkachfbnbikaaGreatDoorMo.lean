/- Contracts of package fluxionref01: Mul, Add. Contracts of package fluxionref02: good, IsRat, Least. Contracts of package fluxionref02: Mul, Div. -/
import Derived.Test.YtgfkachfbnbikaaGreatDoorMe
import Derived.Test.YtgfkachfbnbikaaGreatDoorMj
import Derived.Test.YtgfkachfbnbikaaGreatDoorMk
import Derived.Deep.RegionHeld
namespace Go.Proofs.YtgfkachfbnbikaaGreatDoor
open Go.RowKit

theorem mul_room {i k c l : Nat} {zs xs ys : List Nat} (hx : Ds xs) (hy : Ds ys) (hi : i < xs.length) (hl : l = ys.length) (hk : l ≤ k) (hc : 0 < c)
    (h : val zs + 4294967296 ^ (i + k) * c = val (xs.take (i + 1)) * val ys) : k = l := by
  have h1 := val_lt (hx.take (i + 1))
  rw [List.length_take, Nat.min_eq_left (by omega)] at h1
  have h2 := val_lt hy
  have h3 : val (xs.take (i + 1)) * val ys < 4294967296 ^ (i + 1) * 4294967296 ^ ys.length := Nat.mul_lt_mul'' h1 h2
  rw [← Nat.pow_add] at h3
  have h4 : 4294967296 ^ (i + k) ≤ 4294967296 ^ (i + k) * c := Nat.le_mul_of_pos_right _ hc
  have h5 : 4294967296 ^ (i + k) < 4294967296 ^ (i + 1 + ys.length) := by omega
  have h6 := (Nat.pow_lt_pow_iff_right (show 1 < 4294967296 by decide)).1 h5
  omega
set_option maxHeartbeats 2000000 in
/-- Mul is a product. -/
theorem rmul_calls {w : World} {u v : Value} {xs ys : List Nat} (hu : RV w u xs) (hv : RV w v ys) (hm : xs.length + ys.length ≤ 1073741824) :
    Calls Tryz.prog 47 #[u, v] w fun e w' => ∃ r, e = .returned r ∧ OV w.heap.size w' r (dig (val xs * val ys)) ∧ Ext w w' := by
  obtain ⟨A, c, rfl, hc, hd, hr⟩ := id hu
  obtain ⟨B, d, rfl, hc', hd', hr'⟩ := id hv
  have HU := Aside.mk hu
  have HV := Aside.mk hv
  have hl : xs.length ≤ 1073741824 := hd.1
  have hl' : ys.length ≤ 1073741824 := hd'.1
  clear hu hv hd hd' hr hr'
  go_enter Tryz.func47, Tryz.ntmps47
  go_wp2_with (refine make_u32 _ rfl _ _ rfl (xs.length + ys.length) _ _ rfl rfl (by omega) (by omega) hm ?_; intro w1 z hz0 hb1 hz1; subst hz1; have HZ0 := Aside.mk hz0; have HB0 := Aside.mk hb1; clear hz0 hb1)
  go_loopw [6] (fun i wr => ∃ (k : Nat) (zs : List Nat), k ≤ xs.length ∧ i = .int .i64 (k : Int) ∧ Aside (OV w.heap.size wr (.slice (some ⟨w.heap.size, 0, none⟩) (xs.length + ys.length) (xs.length + ys.length)) zs) ∧ Aside (Ext w wr) ∧ Aside (zs.length = xs.length + ys.length) ∧
    Aside (val zs = val (xs.take k) * val ys)) (fun i _ => xs.length - (intOf i).toNat)
  case atStart => exact ⟨0, _, Nat.zero_le _, rfl, HZ0, HB0, ⟨by simp⟩, ⟨by simp [val, val_zeros]⟩⟩
  case round =>
    obtain ⟨i, zs0, hk, rfl, HZ, HB, HL, HS⟩ := hrel
    by_cases hlt : i < xs.length
    · obtain ⟨x, hx⟩ : ∃ x, xs.getD i 0 = x := ⟨_, rfl⟩
      have hx4 : x < 4294967296 := hx ▸ HU.out.dg.get i
      have HX := Aside.mk hx
      clear hx
      go_wp2
      go_loopw [7, 8] (fun cr i' wr' => ∃ (k c : Nat) (zs : List Nat), k ≤ ys.length + 1 ∧ i' = .int .i64 (k : Int) ∧ cr = .int .u64 (c : Int) ∧ c < 4294967296 ∧ Aside (OV w.heap.size wr' (.slice (some ⟨w.heap.size, 0, none⟩) (xs.length + ys.length) (xs.length + ys.length)) zs) ∧ Aside (Ext w wr') ∧ Aside (zs.length = xs.length + ys.length) ∧
        Aside (val zs + 4294967296 ^ (i + k) * c = val zs0 + 4294967296 ^ i * (x * val (ys.take k)))) (fun _ i' _ => ys.length + 1 - (intOf i').toNat)
      case atStart => exact ⟨0, 0, zs0, Nat.zero_le _, rfl, rfl, by omega, HZ, HB, HL, ⟨by simp [val]⟩⟩
      case round =>
        obtain ⟨k, cr, zs, hk', rfl, rfl, hcr, HZ', HB', HL', HS'⟩ := hrel
        have HTOT : Aside (val zs0 + 4294967296 ^ i * (x * val ys) = val (xs.take (i + 1)) * val ys) := ⟨by
          rw [val_take_step xs, HX.out, HS.out, Nat.add_mul, Nat.mul_assoc]⟩
        by_cases hend : ys.length ≤ k ∧ cr = 0
        · obtain ⟨hkl, rfl⟩ := hend
          have HE : Aside (val zs = val (xs.take (i + 1)) * val ys) := ⟨by
            have h1 := HS'.out
            rw [Nat.mul_zero, Nat.add_zero, val_take_ge hkl, HTOT.out] at h1
            exact h1⟩
          have hkf : decide (k < ys.length) = false := by simp; omega
          go_wp2
          go_roundw
          case rel => exact ⟨i + 1, zs, by omega, by go_num, HZ', HB', HL', HE⟩
          case measure => simp [intOf]; omega
        · have hik : i + k < xs.length + ys.length := by
            rcases Nat.lt_or_ge k ys.length with h | h
            · omega
            · have hcp : 0 < cr := by omega
              have h1 := HS'.out
              rw [val_take_ge h, HTOT.out] at h1
              have := mul_room HU.out.dg.ds HV.out.dg.ds hlt rfl h hcp h1
              omega
          have hkk : k ≤ ys.length := by
            rcases Nat.lt_or_ge k (ys.length + 1) with h | h
            · omega
            · exfalso
              have hcp : 0 < cr := by omega
              have h1 := HS'.out
              rw [val_take_ge (by omega), HTOT.out] at h1
              have := mul_room HU.out.dg.ds HV.out.dg.ds hlt rfl (by omega) hcp h1
              omega
          have hcond : k < ys.length ∨ 0 < cr := by omega
          obtain ⟨y, hy⟩ : ∃ y, ys.getD k 0 = y := ⟨_, rfl⟩
          have hy4 : y < 4294967296 := hy ▸ HV.out.dg.get k
          obtain ⟨ad, rfl, hcell⟩ := (HU.out.ext HB'.out).at' i hlt
          rw [HX.out] at hcell
          have HY := Aside.mk hy
          clear hy
          obtain ⟨j, hj⟩ : ∃ j, i + k = j := ⟨_, rfl⟩
          have HJ := Aside.mk hj
          have hji : ∀ [Inhabited Nat], (i : Int) + (k : Int) = (j : Int) := by intros; omega
          have hwj : ∀ [Inhabited Nat], wrap64 (j : Int) = (j : Int) := wrap64_small (by omega)
          have hwj2 : ∀ [Inhabited Nat], IntKind.i64.wrap (j : Int) = (j : Int) := wrap_i64 _ (by omega) (by omega)
          obtain ⟨z, hz⟩ : ∃ z, zs.getD j 0 = z := ⟨_, rfl⟩
          have hz4 : z < 4294967296 := hz ▸ HZ'.out.1.get _
          have hzc := HZ'.out.cell j (by rw [HL'.out]; omega)
          have hzf := HZ'.out.free j
          rw [hz] at hzc
          have HZZ := Aside.mk hz
          clear hz hend
          have hxy : x * y ≤ 18446744065119617025 := Nat.mul_le_mul (show x ≤ 4294967295 by omega) (show y ≤ 4294967295 by omega)
          obtain ⟨t, ht⟩ : ∃ t, x * y = t := ⟨_, rfl⟩
          have hti : (x : Int) * (y : Int) = (t : Int) := by rw [← ht]; simp
          obtain ⟨s, hs⟩ : ∃ s, cr + (x * y + z) = s := ⟨_, rfl⟩
          have HSS := Aside.mk hs
          rw [ht] at hxy hs
          obtain ⟨lo, hlo⟩ : ∃ lo, s % 4294967296 = lo := ⟨_, rfl⟩
          obtain ⟨hi, hhi⟩ : ∃ hi, s / 4294967296 = hi := ⟨_, rfl⟩
          have e0 : IntKind.u64.wrap (x : Int) = (x : Int) := by rw [wrap_u64]; omega
          have e1 : IntKind.u64.wrap (IntKind.u64.wrap (IntKind.u64.wrap (z : Int) + IntKind.u64.wrap (t : Int)) + (cr : Int)) = (s : Int) := by simp only [wrap_u64]; omega
          have e2 : IntKind.u32.wrap (s : Int) = (lo : Int) := by rw [wrap_u32]; omega
          have e3 : (s : Int) / 4294967296 = (hi : Int) := by omega
          have HLO : Aside (lo < 4294967296 ∧ hi < 4294967296 ∧ s % 4294967296 = lo ∧ s / 4294967296 = hi) := ⟨by omega⟩
          have HXY := Aside.mk ht
          rw [hj] at hik
          have hikI : (j : Int) < (xs.length : Int) + (ys.length : Int) := by omega
          clear hj ht hs hlo hhi hxy hz4
          have hcb : (decide (k < ys.length) || decide (0 < cr)) = true := by simp; exact hcond
          rcases hcond with hc1 | hc1
          · go_wp2
            go_region_with (go_at_call 106; with_reducible refine (rdigit_calls (HV.out.ext (HB'.out.drew)) rfl HY.out).mono ?_; rintro e w' ⟨rfl, rfl⟩)
            all_goals
              go_wp2
              go_roundw
              case rel =>
                obtain rfl := HJ.out
                refine ⟨k + 1, hi, zs.set (i + k) lo, by omega, by go_num, by first | rfl | congr 1, HLO.out.2.1, ⟨(HZ'.out.ext (Ext.refl _).drew).store (i + k) HLO.out.1⟩, ⟨HB'.out.drew.set (Nat.le_refl _) _⟩, ⟨by simp [HL'.out]⟩, ⟨?_⟩⟩
                have hv := val_set lo (show i + k < zs.length by rw [HL'.out]; omega)
                rw [HZZ.out, ← HLO.out.2.2.1] at hv
                have e := mul_step HS'.out hv HSS.out
                rw [HLO.out.2.2.2, HLO.out.2.2.1] at e
                rw [val_take_step ys, HY.out, Nat.mul_add, ← Nat.add_assoc i k 1, Nat.pow_succ, e, Nat.mul_add, Nat.pow_add, Nat.mul_assoc, Nat.mul_left_comm x]
              case measure => simp [intOf]; omega
          · rcases Nat.lt_or_ge k ys.length with hc2 | hc2
            · go_wp2
              go_region_with (go_at_call 106; with_reducible refine (rdigit_calls (HV.out.ext (HB'.out.drew)) rfl HY.out).mono ?_; rintro e w' ⟨rfl, rfl⟩)
              all_goals
                go_wp2
                go_roundw
                case rel =>
                  obtain rfl := HJ.out
                  refine ⟨k + 1, hi, zs.set (i + k) lo, by omega, by go_num, by first | rfl | congr 1, HLO.out.2.1, ⟨(HZ'.out.ext (Ext.refl _).drew).store (i + k) HLO.out.1⟩, ⟨HB'.out.drew.set (Nat.le_refl _) _⟩, ⟨by simp [HL'.out]⟩, ⟨?_⟩⟩
                  have hv := val_set lo (show i + k < zs.length by rw [HL'.out]; omega)
                  rw [HZZ.out, ← HLO.out.2.2.1] at hv
                  have e := mul_step HS'.out hv HSS.out
                  rw [HLO.out.2.2.2, HLO.out.2.2.1] at e
                  rw [val_take_step ys, HY.out, Nat.mul_add, ← Nat.add_assoc i k 1, Nat.pow_succ, e, Nat.mul_add, Nat.pow_add, Nat.mul_assoc, Nat.mul_left_comm x]
                case measure => simp [intOf]; omega
            · go_wp2
              go_region_with (go_at_call 106; with_reducible refine (rdigit_calls (HV.out.ext (HB'.out.drew)) rfl HY.out).mono ?_; rintro e w' ⟨rfl, rfl⟩)
              all_goals
                go_wp2
                go_roundw
                case rel =>
                  obtain rfl := HJ.out
                  refine ⟨k + 1, hi, zs.set (i + k) lo, by omega, by go_num, by first | rfl | congr 1, HLO.out.2.1, ⟨(HZ'.out.ext (Ext.refl _).drew).store (i + k) HLO.out.1⟩, ⟨HB'.out.drew.set (Nat.le_refl _) _⟩, ⟨by simp [HL'.out]⟩, ⟨?_⟩⟩
                  have hv := val_set lo (show i + k < zs.length by rw [HL'.out]; omega)
                  rw [HZZ.out, ← HLO.out.2.2.1] at hv
                  have e := mul_step HS'.out hv HSS.out
                  rw [HLO.out.2.2.2, HLO.out.2.2.1] at e
                  rw [val_take_step ys, HY.out, Nat.mul_add, ← Nat.add_assoc i k 1, Nat.pow_succ, e, Nat.mul_add, Nat.pow_add, Nat.mul_assoc, Nat.mul_left_comm x]
                case measure => simp [intOf]; omega
    · have hkm : i = xs.length := by omega
      subst hkm
      have HE : Aside (val zs0 = val xs * val ys) := ⟨by rw [HS.out, val_take_all]⟩
      go_wp2_with (go_at_call 107; with_reducible refine (rshort_calls HZ.out).mono ?_; rintro e w' ⟨r, rfl, hr, rfl⟩; have HR := Aside.mk hr; clear hr)
      go_ret
      exact ⟨r, rfl, by rw [← HE.out]; exact HR.out, HB.out⟩
end Go.Proofs.YtgfkachfbnbikaaGreatDoor

namespace Go.Proofs.YtgfkachfbnbikaaGreatDoor
open Go.RowKit

set_option maxRecDepth 10000 in
theorem rgood_calls {w : World} {v : Value} {xs : List Nat} {b : Bool} (h : RV w v xs) (hb : (decide (natErr xs = 0) && !isLong (val xs)) = b) :
    Calls Tryz.prog 75 #[v] w fun e w' => e = .returned (.bool b) ∧ w = w' := by
  obtain ⟨A, c, rfl, hc, hd, hr⟩ := h
  have hds : Ds xs := hd.2
  rcases Nat.lt_or_ge 128 xs.length with h1 | h1
  · have HB : Aside (b = false) := ⟨by
      rw [← hb]
      by_cases hn : natErr xs = 0
      · have hx := (natErr_zero hds hn).2
        have : isLong (val xs) = true := by
          cases hh : isLong (val xs)
          · have := isLong_false.1 hh; rw [← hx] at this; omega
          · rfl
        rw [this]; simp
      · simp [hn]⟩
    rw [HB.out]
    clear hr hd hds hb
    go_enter Tryz.func75, Tryz.ntmps75
    go_wp2
    go_ret
    exact ⟨rfl, rfl⟩
  · rcases Nat.eq_zero_or_pos xs.length with h0 | h0
    · have hx : xs = [] := List.eq_nil_of_length_eq_zero h0
      subst hx
      have HB : Aside (b = true) := ⟨by rw [← hb]; rfl⟩
      rw [HB.out]
      clear hr hd hds hb h0 h1
      go_enter Tryz.func75, Tryz.ntmps75
      go_wp2
      go_ret
      exact ⟨by simp, rfl⟩
    · obtain ⟨k, hk⟩ : ∃ k, xs.length = k + 1 := ⟨xs.length - 1, by omega⟩
      obtain ⟨ad, rfl, hcell⟩ := hr.at32 k (by omega)
      obtain ⟨x, hx⟩ : ∃ x, xs.getD k 0 = x := ⟨_, rfl⟩
      rw [hx] at hcell
      have hb' : b = !(x == 0) := by
        rw [← hb]
        by_cases hz : x = 0
        · have : natErr xs = 5 := by unfold natErr; rw [if_neg (by omega), if_pos ⟨h0, by rw [hk]; simpa [hz] using hx⟩]
          rw [this, hz]; rfl
        · have hn : natErr xs = 0 := by
            unfold natErr
            rw [if_neg (by omega), if_neg]
            rintro ⟨_, h3⟩
            rw [hk, show k + 1 - 1 = k from rfl, hx] at h3
            exact hz h3
          have hxs := (natErr_zero hds hn).2
          have hl : isLong (val xs) = false := isLong_false.2 (by rw [← hxs]; exact h1)
          rw [hn, hl]; simp [hz]
      rw [hk] at h1 hc ⊢
      have h1' : k < 128 := by omega
      have hne : ((k : Int) + 1 == 0) = false := beq_eq_false_iff_ne.2 (by omega)
      by_cases hz : x = 0
      · subst hz
        have HB : Aside (b = false) := ⟨by rw [hb']; rfl⟩
        rw [HB.out]
        clear hr hd hds hb hb' hx hk h0 h1
        go_enter Tryz.func75, Tryz.ntmps75
        go_wp2
        go_ret
        exact ⟨by simp, rfl⟩
      · have HB : Aside (b = true) := ⟨by rw [hb']; simp [hz]⟩
        have hxz : ((x : Int) == 0) = false := beq_eq_false_iff_ne.2 (by omega)
        have hxz2 : ((x : Int) != 0) = true := by simp [bne, hxz]
        rw [HB.out]
        clear hr hd hds hb hb' hx hk h0 h1 hz
        go_enter Tryz.func75, Tryz.ntmps75
        go_wp2
        go_ret
        exact ⟨by simp, rfl⟩

theorem rleast_calls {w : World} {a b l : Int} (hl : leastq a b = l) :
    Calls Tryz.prog 65 #[.int .i64 a, .int .i64 b] w fun e w' => e = .returned (.int .i64 l) ∧ w = w' := by
  subst hl
  by_cases ha : a = 0
  · have HL : Aside (leastq a b = b) := ⟨by simp [leastq, ha]⟩
    have ha0 : (a == 0) = true := by simp [ha]
    rw [HL.out]
    clear ha
    go_enter Tryz.func65, Tryz.ntmps65
    go_wp2
    go_ret
    exact ⟨rfl, rfl⟩
  · have ha0 : (a == 0) = false := beq_eq_false_iff_ne.2 ha
    by_cases hb : b = 0
    · have HL : Aside (leastq a b = a) := ⟨by simp [leastq, ha, hb]⟩
      have hb0 : (b == 0) = true := by simp [hb]
      have hb1 : (b != 0) = false := by simp [hb]
      rw [HL.out]
      clear ha hb
      go_enter Tryz.func65, Tryz.ntmps65
      go_wp2
      go_ret
      exact ⟨rfl, rfl⟩
    · have hb0 : (b == 0) = false := beq_eq_false_iff_ne.2 hb
      have hb1 : (b != 0) = true := by simp [bne, hb0]
      by_cases hlt : b < a
      · have HL : Aside (leastq a b = b) := ⟨by simp [leastq, ha, hb, hlt]⟩
        rw [HL.out]
        clear ha hb
        go_enter Tryz.func65, Tryz.ntmps65
        go_wp2
        go_ret
        exact ⟨rfl, rfl⟩
      · have HL : Aside (leastq a b = a) := ⟨by simp [leastq, ha, hb, hlt]⟩
        rw [HL.out]
        clear ha hb
        go_enter Tryz.func65, Tryz.ntmps65
        go_wp2
        go_ret
        exact ⟨rfl, rfl⟩

set_option maxRecDepth 10000 in
set_option maxHeartbeats 2000000 in
theorem risrat_calls {w : World} {v : Value} {q : Rq} {b : Bool} (h : RR w v q) (hb : okq q = b) :
    Calls Tryz.prog 27 #[v] w fun e w' => e = .returned (.bool b) ∧ Ext w w' := by
  obtain ⟨x, y, rfl, hx, hy⟩ := h
  obtain ⟨f, neg, xs, ys⟩ := q
  have HX := Aside.mk hx
  have HY := Aside.mk hy
  obtain ⟨A, c, rfl, _, hdx, _⟩ := hx
  obtain ⟨B, d, rfl, _, hdy, _⟩ := hy
  dsimp only at *
  have hk0 := KeepB.init w (.int .i64 f) (.bool neg) (.slice A xs.length c) (.slice B ys.length d) 26
  by_cases hf : f = 0
  · subst hf
    obtain ⟨b1, hb1⟩ : ∃ z, (decide (natErr xs = 0) && !isLong (val xs)) = z := ⟨_, rfl⟩
    obtain ⟨b2, hb2⟩ : ∃ z, (decide (natErr ys = 0) && !isLong (val ys)) = z := ⟨_, rfl⟩
    obtain ⟨g, hg⟩ : ∃ g, Nat.gcd (val xs) (val ys) = g := ⟨_, rfl⟩
    have hS : b = (b1 && b2 && !(decide (ys.length = 0)) && !(neg && decide (xs.length = 0)) && (g == 1)) := by
      rw [← hb, ← hb1, ← hb2, ← hg]
      simp only [okq, if_true]
      cases decide (natErr xs = 0) <;> cases decide (natErr ys = 0) <;> cases isLong (val xs) <;> cases isLong (val ys) <;> simp
    have HB1 := Aside.mk hb1
    have HB2 := Aside.mk hb2
    have HG := Aside.mk hg
    have HDX := Aside.mk hdx.2
    have HDY := Aside.mk hdy.2
    obtain ⟨nx, hnx⟩ : ∃ n, xs.length = n := ⟨_, rfl⟩
    obtain ⟨ny, hny⟩ : ∃ n, ys.length = n := ⟨_, rfl⟩
    have HNX := Aside.mk hnx
    have HNY := Aside.mk hny
    rw [hnx] at HX hk0 ⊢
    rw [hny] at HY hk0 ⊢
    rw [hnx, hny] at hS
    have HK := Aside.mk hk0.1.out
    clear hb hb1 hb2 hg hdx hdy hnx hny
    cases b1
    · have HBF : Aside (b = false) := ⟨by rw [hS]; rfl⟩
      rw [HBF.out]
      clear hS
      go_enter Tryz.func27, Tryz.ntmps27
      go_wp2_with (go_at_call 75; with_reducible refine (rgood_calls (HX.out.ext hk0.1.out) HB1.out).mono ?_; rintro e w' ⟨rfl, rfl⟩)
      go_ret
      exact ⟨rfl, HK.out⟩
    cases b2
    · have HBF : Aside (b = false) := ⟨by rw [hS]; rfl⟩
      rw [HBF.out]
      clear hS
      go_enter Tryz.func27, Tryz.ntmps27
      go_wp2_with (first | (go_at_call 75; with_reducible refine (rgood_calls (HX.out.ext hk0.1.out) HB1.out).mono ?_; rintro e w' ⟨rfl, rfl⟩) | (go_at_call 75; with_reducible refine (rgood_calls (HY.out.ext hk0.1.out) HB2.out).mono ?_; rintro e w' ⟨rfl, rfl⟩))
      go_ret
      exact ⟨rfl, HK.out⟩
    rcases Nat.eq_zero_or_pos ny with rfl | hy0
    · have HBF : Aside (b = false) := ⟨by rw [hS]; rfl⟩
      rw [HBF.out]
      clear hS
      go_enter Tryz.func27, Tryz.ntmps27
      go_wp2_with (first | (go_at_call 75; with_reducible refine (rgood_calls (HX.out.ext hk0.1.out) HB1.out).mono ?_; rintro e w' ⟨rfl, rfl⟩) | (go_at_call 75; with_reducible refine (rgood_calls (HY.out.ext hk0.1.out) HB2.out).mono ?_; rintro e w' ⟨rfl, rfl⟩))
      go_ret
      exact ⟨rfl, HK.out⟩
    have hy1 : ((ny : Int) == 0) = false := beq_eq_false_iff_ne.2 (by omega)
    by_cases hbad : neg = true ∧ nx = 0
    · obtain ⟨rfl, rfl⟩ := hbad
      have HBF : Aside (b = false) := ⟨by rw [hS]; simp⟩
      rw [HBF.out]
      clear hS
      go_enter Tryz.func27, Tryz.ntmps27
      go_wp2_with (first | (go_at_call 75; with_reducible refine (rgood_calls (HX.out.ext hk0.1.out) HB1.out).mono ?_; rintro e w' ⟨rfl, rfl⟩) | (go_at_call 75; with_reducible refine (rgood_calls (HY.out.ext hk0.1.out) HB2.out).mono ?_; rintro e w' ⟨rfl, rfl⟩))
      go_ret
      exact ⟨rfl, HK.out⟩
    have hS2 : b = (g == 1) := by
      rw [hS, show decide (ny = 0) = false from by simp; omega]
      have : (neg && decide (nx = 0)) = false := by
        cases neg
        · rfl
        · simp at hbad; simp [hbad]
      rw [this]; simp
    have hneg : neg = true → ((nx : Int) == 0) = false := fun h => beq_eq_false_iff_ne.2 (by
      intro h2; exact hbad ⟨h, by omega⟩)
    have hg1 : ∀ z : Bool, z && true = true → z = true := fun z h => by simpa using h
    have h1 := HB1.out
    have h2 := HB2.out
    simp only [Bool.and_eq_true, decide_eq_true_eq, Bool.not_eq_true'] at h1 h2
    have HEX := Aside.mk (natErr_zero HDX.out h1.1)
    have HEY := Aside.mk (natErr_zero HDY.out h2.1)
    have HXD : Aside (RV w (.slice A nx c) (dig (val xs))) := ⟨by rw [← HEX.out.2]; exact HX.out⟩
    have HYD : Aside (RV w (.slice B ny d) (dig (val ys))) := ⟨by rw [← HEY.out.2]; exact HY.out⟩
    have HLB : Aside ((dig (val ys)).length < 1073741824) := ⟨by rw [← HEY.out.2]; have := HEY.out.1; omega⟩
    have hvy : 0 < val ys := by
      rcases Nat.eq_zero_or_pos (val ys) with h | h
      · have := HEY.out.2; rw [h, dig_zero] at this
        have := HNY.out; simp [‹ys = []›] at this; omega
      · exact h
    have HGP : Aside (0 < g) := ⟨by rw [← HG.out]; exact Nat.gcd_pos_of_pos_right _ hvy⟩
    clear hS hbad hg1 h1 h2 hvy
    rcases Nat.lt_or_ge g 4294967296 with hgB | hgB
    · have hdl : (dig g).length = 1 := by rw [dig_pos (by have := HGP.out; omega), Nat.div_eq_of_lt hgB, dig_zero]; rfl
      have HN0 : Aside (∀ n, (dig g).length = n + 1 → n = 0) := ⟨fun n h => by omega⟩
      by_cases hg1 : g = 1
      · subst hg1
        have HX1 : Aside (∀ x, x = 1 % 4294967296 → x = 1) := ⟨fun x h => by rw [h]⟩
        have HBT : Aside (b = true) := ⟨by rw [hS2]; rfl⟩
        rw [HBT.out]
        clear hS2 hdl hgB
        cases neg
        · go_enter Tryz.func27, Tryz.ntmps27
          go_wp2_with (first | (go_at_call 75; with_reducible refine (rgood_calls (HX.out.ext hk0.1.out) HB1.out).mono ?_; rintro e w' ⟨rfl, rfl⟩) | (go_at_call 75; with_reducible refine (rgood_calls (HY.out.ext hk0.1.out) HB2.out).mono ?_; rintro e w' ⟨rfl, rfl⟩) | ((go_at_call 76; with_reducible refine (rgcd_calls (HXD.out.ext hk0.1.out) (HYD.out.ext hk0.1.out) HLB.out HG.out).mono ?_; rintro e w5 ⟨r, rfl, hr, he⟩; have hk5 := KeepB.ext he hk0; obtain ⟨ad, n, c5, x, rfl, hcell, hx, hcn, hdl⟩ := hr.rv.first2 HGP.out; have HXX := Aside.mk hx; have HDL := Aside.mk hdl; clear hk0 hr he hx hdl); obtain rfl : n = 0 := HN0.out n HDL.out; obtain rfl : x = 1 := HX1.out x HXX.out))
          go_ret
          exact ⟨by simp, hk5.1.out⟩
        · have hneg2 := hneg rfl
          go_enter Tryz.func27, Tryz.ntmps27
          go_wp2_with (first | (go_at_call 75; with_reducible refine (rgood_calls (HX.out.ext hk0.1.out) HB1.out).mono ?_; rintro e w' ⟨rfl, rfl⟩) | (go_at_call 75; with_reducible refine (rgood_calls (HY.out.ext hk0.1.out) HB2.out).mono ?_; rintro e w' ⟨rfl, rfl⟩) | ((go_at_call 76; with_reducible refine (rgcd_calls (HXD.out.ext hk0.1.out) (HYD.out.ext hk0.1.out) HLB.out HG.out).mono ?_; rintro e w5 ⟨r, rfl, hr, he⟩; have hk5 := KeepB.ext he hk0; obtain ⟨ad, n, c5, x, rfl, hcell, hx, hcn, hdl⟩ := hr.rv.first2 HGP.out; have HXX := Aside.mk hx; have HDL := Aside.mk hdl; clear hk0 hr he hx hdl); obtain rfl : n = 0 := HN0.out n HDL.out; obtain rfl : x = 1 := HX1.out x HXX.out))
          go_ret
          exact ⟨by simp, hk5.1.out⟩
      · have HX1 : Aside (∀ x, x = g % 4294967296 → ((x : Int) == 1) = false) := ⟨fun x h => by rw [Nat.mod_eq_of_lt hgB] at h; exact beq_eq_false_iff_ne.2 (by omega)⟩
        have HBT : Aside (b = false) := ⟨by rw [hS2]; simp [hg1]⟩
        rw [HBT.out]
        clear hS2 hdl hgB hg1
        cases neg
        · go_enter Tryz.func27, Tryz.ntmps27
          go_wp2_with (first | (go_at_call 75; with_reducible refine (rgood_calls (HX.out.ext hk0.1.out) HB1.out).mono ?_; rintro e w' ⟨rfl, rfl⟩) | (go_at_call 75; with_reducible refine (rgood_calls (HY.out.ext hk0.1.out) HB2.out).mono ?_; rintro e w' ⟨rfl, rfl⟩) | ((go_at_call 76; with_reducible refine (rgcd_calls (HXD.out.ext hk0.1.out) (HYD.out.ext hk0.1.out) HLB.out HG.out).mono ?_; rintro e w5 ⟨r, rfl, hr, he⟩; have hk5 := KeepB.ext he hk0; obtain ⟨ad, n, c5, x, rfl, hcell, hx, hcn, hdl⟩ := hr.rv.first2 HGP.out; have HXX := Aside.mk hx; have HDL := Aside.mk hdl; clear hk0 hr he hx hdl); obtain rfl : n = 0 := HN0.out n HDL.out; have hx1 : ((x : Int) == 1) = false := HX1.out x HXX.out))
          go_ret
          exact ⟨by simp, hk5.1.out⟩
        · have hneg2 := hneg rfl
          go_enter Tryz.func27, Tryz.ntmps27
          go_wp2_with (first | (go_at_call 75; with_reducible refine (rgood_calls (HX.out.ext hk0.1.out) HB1.out).mono ?_; rintro e w' ⟨rfl, rfl⟩) | (go_at_call 75; with_reducible refine (rgood_calls (HY.out.ext hk0.1.out) HB2.out).mono ?_; rintro e w' ⟨rfl, rfl⟩) | ((go_at_call 76; with_reducible refine (rgcd_calls (HXD.out.ext hk0.1.out) (HYD.out.ext hk0.1.out) HLB.out HG.out).mono ?_; rintro e w5 ⟨r, rfl, hr, he⟩; have hk5 := KeepB.ext he hk0; obtain ⟨ad, n, c5, x, rfl, hcell, hx, hcn, hdl⟩ := hr.rv.first2 HGP.out; have HXX := Aside.mk hx; have HDL := Aside.mk hdl; clear hk0 hr he hx hdl); obtain rfl : n = 0 := HN0.out n HDL.out; have hx1 : ((x : Int) == 1) = false := HX1.out x HXX.out))
          go_ret
          exact ⟨by simp, hk5.1.out⟩
    · have HN0 : Aside (∀ n, (dig g).length = n + 1 → ((n : Int) + 1 == 1) = false) := ⟨fun n h => by
        have h1 := lt_of_dig_length (Nat.le_of_eq h)
        rcases Nat.eq_zero_or_pos n with rfl | h2
        · rw [Nat.zero_add, Nat.pow_one] at h1; omega
        · exact beq_eq_false_iff_ne.2 (by omega)⟩
      have HBT : Aside (b = false) := ⟨by rw [hS2]; simp; omega⟩
      rw [HBT.out]
      clear hS2 hgB
      cases neg
      · go_enter Tryz.func27, Tryz.ntmps27
        go_wp2_with (first | (go_at_call 75; with_reducible refine (rgood_calls (HX.out.ext hk0.1.out) HB1.out).mono ?_; rintro e w' ⟨rfl, rfl⟩) | (go_at_call 75; with_reducible refine (rgood_calls (HY.out.ext hk0.1.out) HB2.out).mono ?_; rintro e w' ⟨rfl, rfl⟩) | ((go_at_call 76; with_reducible refine (rgcd_calls (HXD.out.ext hk0.1.out) (HYD.out.ext hk0.1.out) HLB.out HG.out).mono ?_; rintro e w5 ⟨r, rfl, hr, he⟩; have hk5 := KeepB.ext he hk0; obtain ⟨ad, n, c5, x, rfl, hcell, hx, hcn, hdl⟩ := hr.rv.first2 HGP.out; have HXX := Aside.mk hx; have HDL := Aside.mk hdl; clear hk0 hr he hx hdl); have hn1 : ((n : Int) + 1 == 1) = false := HN0.out n HDL.out))
        go_ret
        exact ⟨by simp, hk5.1.out⟩
      · have hneg2 := hneg rfl
        go_enter Tryz.func27, Tryz.ntmps27
        go_wp2_with (first | (go_at_call 75; with_reducible refine (rgood_calls (HX.out.ext hk0.1.out) HB1.out).mono ?_; rintro e w' ⟨rfl, rfl⟩) | (go_at_call 75; with_reducible refine (rgood_calls (HY.out.ext hk0.1.out) HB2.out).mono ?_; rintro e w' ⟨rfl, rfl⟩) | ((go_at_call 76; with_reducible refine (rgcd_calls (HXD.out.ext hk0.1.out) (HYD.out.ext hk0.1.out) HLB.out HG.out).mono ?_; rintro e w5 ⟨r, rfl, hr, he⟩; have hk5 := KeepB.ext he hk0; obtain ⟨ad, n, c5, x, rfl, hcell, hx, hcn, hdl⟩ := hr.rv.first2 HGP.out; have HXX := Aside.mk hx; have HDL := Aside.mk hdl; clear hk0 hr he hx hdl); have hn1 : ((n : Int) + 1 == 1) = false := HN0.out n HDL.out))
        go_ret
        exact ⟨by simp, hk5.1.out⟩
  · have hf0 : (f == 0) = false := beq_eq_false_iff_ne.2 hf
    have hf1 : (f != 0) = true := by simp [bne, hf0]
    have HS : Aside (b = ((f == 4 || f == 11) && !neg && decide (xs.length + ys.length = 0))) := ⟨by rw [← hb]; simp [okq, hf]⟩
    have HK := Aside.mk hk0.1.out
    have hlx : ((xs.length : Int) == 0) = decide (xs.length = 0) := by
      by_cases h0 : xs.length = 0
      · simp [h0]
      · rw [decide_eq_false h0]; exact beq_eq_false_iff_ne.2 (by omega)
    have hly : ((ys.length : Int) == 0) = decide (ys.length = 0) := by
      by_cases h0 : ys.length = 0
      · simp [h0]
      · rw [decide_eq_false h0]; exact beq_eq_false_iff_ne.2 (by omega)
    have hsum : decide (xs.length + ys.length = 0) = (decide (xs.length = 0) && decide (ys.length = 0)) := by
      by_cases h0 : xs.length = 0 <;> by_cases h1 : ys.length = 0 <;> simp [h0, h1]
    rw [HS.out, hsum]
    clear hb HS hsum hdx hdy hf
    generalize decide (xs.length = 0) = bx at *
    generalize decide (ys.length = 0) = by_ at *
    generalize xs.length = nx at *
    generalize ys.length = ny at *
    cases h4 : (f == 4) <;> cases h11 : (f == 11) <;> cases neg <;> cases bx <;> cases by_ <;> (go_enter Tryz.func27, Tryz.ntmps27; go_wp2; go_ret; exact ⟨by simp, HK.out⟩)
end Go.Proofs.YtgfkachfbnbikaaGreatDoor

namespace Go.Proofs.YtgfkachfbnbikaaGreatDoor
open Go.RowKit

theorem rmul_n {w : World} {u v : Value} {a b m : Nat} (hu : RV w u (dig a)) (hv : RV w v (dig b)) (ha : (dig a).length ≤ 128) (hb : (dig b).length ≤ 128) (hm : a * b = m) :
    Calls Tryz.prog 47 #[u, v] w fun e w' => ∃ r, e = .returned r ∧ OV w.heap.size w' r (dig m) ∧ Ext w w' := by
  have h := rmul_calls hu hv (by omega)
  rw [val_dig, val_dig, hm] at h
  exact h
theorem RV.eq' {w : World} {v : Value} {xs ys : List Nat} (h : RV w v xs) (e : xs = ys) : RV w v ys := e ▸ h
theorem made1 {a b res q : Rq} (ka : okq a = true) (kb : okq b = true) (hq : (madeq a b res).1 = q) : (leastq a.f b.f = 0 → q = res) ∧ (leastq a.f b.f ≠ 0 → q = fq (leastq a.f b.f)) := by
  unfold madeq at hq
  rw [ka, kb] at hq
  constructor
  · intro h; rw [← hq]; simp [h]
  · intro h; rw [← hq]; simp [h]

set_option maxRecDepth 10000 in
set_option maxHeartbeats 4000000 in
theorem rMul_calls {w : World} {u v : Value} {a b q : Rq} (hu : RR w u a) (hv : RR w v b) (ka : okq a = true) (kb : okq b = true) (hq : (madeq a b (ratio (a.neg != b.neg) (val a.num * val b.num) (val a.den * val b.den))).1 = q) :
    Calls Tryz.prog 41 #[u, v] w fun e w' => ∃ r, e = .returned r ∧ RO w.heap.size w' r q ∧ Ext w w' := by
  obtain ⟨hq0, hq1⟩ := made1 ka kb hq
  have HDA := Aside.mk hu.ds
  have HDB := Aside.mk hv.ds
  obtain ⟨x, y, rfl, hxa, hya⟩ := hu
  obtain ⟨x', y', rfl, hxb, hyb⟩ := hv
  obtain ⟨f1, n1, xs, ys⟩ := a
  obtain ⟨f2, n2, xs', ys'⟩ := b
  dsimp only at *
  obtain ⟨l, hl⟩ : ∃ l, leastq f1 f2 = l := ⟨_, rfl⟩
  have HL := Aside.mk hl
  rw [hl] at hq0 hq1
  have HXA := Aside.mk hxa
  have HYA := Aside.mk hya
  have HXB := Aside.mk hxb
  have HYB := Aside.mk hyb
  obtain ⟨A, ca, rfl, _⟩ := hxa
  obtain ⟨B, cb, rfl, _⟩ := hya
  obtain ⟨C, cc, rfl, _⟩ := hxb
  obtain ⟨D, cd, rfl, _⟩ := hyb
  obtain ⟨lxa, e1⟩ : ∃ n, xs.length = n := ⟨_, rfl⟩
  obtain ⟨lya, e2⟩ : ∃ n, ys.length = n := ⟨_, rfl⟩
  obtain ⟨lxb, e3⟩ : ∃ n, xs'.length = n := ⟨_, rfl⟩
  obtain ⟨lyb, e4⟩ : ∃ n, ys'.length = n := ⟨_, rfl⟩
  rw [e1] at HXA
  rw [e2] at HYA
  rw [e3] at HXB
  rw [e4] at HYB
  rw [e1, e2, e3, e4]
  have hk0 := KeepM.init w (.int .i64 f1) (.bool n1) (.slice A lxa ca) (.slice B lya cb) (.int .i64 f2) (.bool n2) (.slice C lxb cc) (.slice D lyb cd) (.int .i64 0) (.bool false) (.slice none 0 0) (.slice none 0 0) 26 26 26
  by_cases hz : l = 0
  · subst hz
    obtain ⟨hf1, hf2⟩ := leastq_zero hl
    have ka' := okq_ds ka hf1 HDA.out
    have kb' := okq_ds kb hf2 HDB.out
    dsimp only at ka' kb'
    have HXA' : Aside (RV w (.slice A lxa ca) (dig (val xs))) := ⟨HXA.out.eq' ka'.num⟩
    have HYA' : Aside (RV w (.slice B lya cb) (dig (val ys))) := ⟨HYA.out.eq' ka'.den⟩
    have HXB' : Aside (RV w (.slice C lxb cc) (dig (val xs'))) := ⟨HXB.out.eq' kb'.num⟩
    have HYB' : Aside (RV w (.slice D lyb cd) (dig (val ys'))) := ⟨HYB.out.eq' kb'.den⟩
    have LXA := Aside.mk ka'.la
    have LYA := Aside.mk ka'.lb
    have LXB := Aside.mk kb'.la
    have LYB := Aside.mk kb'.lb
    obtain ⟨m1, hm1⟩ : ∃ m, val xs * val xs' = m := ⟨_, rfl⟩
    obtain ⟨m2, hm2⟩ : ∃ m, val ys * val ys' = m := ⟨_, rfl⟩
    have HM1 := Aside.mk hm1
    have HM2 := Aside.mk hm2
    have HL1 : Aside ((dig m1).length < 1073741824) := ⟨by rw [← hm1]; exact Nat.lt_of_le_of_lt (len_mul LXA.out LXB.out) (by decide)⟩
    have HL2 : Aside ((dig m2).length < 1073741824) := ⟨by rw [← hm2]; exact Nat.lt_of_le_of_lt (len_mul LYA.out LYB.out) (by decide)⟩
    have HQ : Aside (ratio (!n1 == n2) m1 m2 = q) := ⟨by rw [hq0 rfl, ← hm1, ← hm2]; cases n1 <;> cases n2 <;> rfl⟩
    have hk0' := hk0.ext ((Ext.refl _).drew)
    clear hq hq0 hq1 hl hf1 hf2 ka' kb' ka kb hm1 hm2 e1 e2 e3 e4
    go_enter Tryz.func41, Tryz.ntmps41
    go_wp2_with (go_at_call 65; with_reducible refine (rleast_calls HL.out).mono ?_; rintro e w' ⟨rfl, rfl⟩)
    go_region_held (fun w' => KeepM w (.int .i64 f1) (.bool n1) (.slice A lxa ca) (.slice B lya cb) (.int .i64 f2) (.bool n2) (.slice C lxb cc) (.slice D lyb cd) w') (first | assumption | exact KeepM.ext (by assumption) (by assumption) | exact (((KeepM.set (by assumption) _ _).set _ _).set _ _).set _ _) (first | (go_at_call 47; with_reducible refine (rmul_n (HXA'.out.ext (Aside.out (And.left (show KeepM w (.int .i64 f1) (.bool n1) (.slice A lxa ca) (.slice B lya cb) (.int .i64 f2) (.bool n2) (.slice C lxb cc) (.slice D lyb cd) _ from by assumption)))) (HXB'.out.ext (Aside.out (And.left (show KeepM w (.int .i64 f1) (.bool n1) (.slice A lxa ca) (.slice B lya cb) (.int .i64 f2) (.bool n2) (.slice C lxb cc) (.slice D lyb cd) _ from by assumption)))) LXA.out LXB.out HM1.out).mono ?_; rintro e w5 ⟨r, rfl, hr, he5⟩; have HR5 := Aside.mk hr; obtain ⟨A5, c5, rfl, _⟩ := hr.form; clear hr) | (go_at_call 47; with_reducible refine (rmul_n (HYA'.out.ext (Aside.out (And.left (show KeepM w (.int .i64 f1) (.bool n1) (.slice A lxa ca) (.slice B lya cb) (.int .i64 f2) (.bool n2) (.slice C lxb cc) (.slice D lyb cd) _ from by assumption)))) (HYB'.out.ext (Aside.out (And.left (show KeepM w (.int .i64 f1) (.bool n1) (.slice A lxa ca) (.slice B lya cb) (.int .i64 f2) (.bool n2) (.slice C lxb cc) (.slice D lyb cd) _ from by assumption)))) LYA.out LYB.out HM2.out).mono ?_; rintro e w6 ⟨r, rfl, hr, he6⟩; have HR6 := Aside.mk hr; have HE6 := Aside.mk he6; obtain ⟨A6, c6, rfl, _⟩ := hr.form; clear hr) | (go_at_call 24; with_reducible refine (rratio_calls (HR5.out.ext HE6.out).rv HR6.out.rv HL1.out HL2.out HQ.out).mono ?_; rintro e w7 ⟨r, rfl, hr, he7⟩; have HR7 := Aside.mk hr; obtain ⟨A7, c7, B7, d7, rfl⟩ := hr.form; clear hr))
    have hk6 := KeepM.ext he6 (KeepM.ext he5 hk0')
    have hk7 := KeepM.ext he7 hk6
    have hz : w.heap.size + 2 < w6.heap.size := World.block_lt_of_cell? _ _ hk6.2.2.2.1.1
    have HK := Aside.mk hk7
    have HZ := Aside.mk hz
    clear hk0 hk0' hk6 hz
    go_wp2
    refine bodyPost_ret (v := .agg #[.int .i64 q.f, .bool q.neg, .slice A7 q.num.length c7, .slice B7 q.den.length d7]) (by simp [results, Tryz.results41, go_sem, hk7]) rfl ⟨_, rfl, (HR7.out.set4 HZ.out _ _ _ _).mono (by have := HZ.out; omega), ext_set4 HK.out.1.out (by omega) _ _ _ _⟩
  · have HQ := Aside.mk (hq1 hz)
    have hl0 : (l == 0) = false := beq_eq_false_iff_ne.2 hz
    have hl1 : (l != 0) = true := by simp [bne, hl0]
    rw [HQ.out]
    clear hq hq0 hq1 hl hz e1 e2 e3 e4 ka kb
    go_enter Tryz.func41, Tryz.ntmps41
    go_wp2_with (first | (go_at_call 65; with_reducible refine (rleast_calls HL.out).mono ?_; rintro e w' ⟨rfl, rfl⟩) | (go_at_call 64; with_reducible refine rfault_calls.mono ?_; rintro e w1 ⟨rfl, he⟩; have hk1 := KeepM.ext he hk0; clear hk0 he))
    have HK := Aside.mk hk1
    refine bodyPost_ret (v := .agg #[.int .i64 l, .bool false, .slice none 0 0, .slice none 0 0]) (by simp [results, Tryz.results41, go_sem, hk1]) rfl ⟨_, rfl, RO.fq _ _ _, ext_set4 HK.out.1.out (by omega) _ _ _ _⟩

set_option maxRecDepth 10000 in
set_option maxHeartbeats 4000000 in
theorem rDiv_calls {w : World} {u v : Value} {a b q : Rq} (hu : RR w u a) (hv : RR w v b) (ka : okq a = true) (kb : okq b = true) (hq : (madeq a b (ratio (a.neg != b.neg) (val a.num * val b.den) (val a.den * val b.num))).1 = q) :
    Calls Tryz.prog 42 #[u, v] w fun e w' => ∃ r, e = .returned r ∧ RO w.heap.size w' r q ∧ Ext w w' := by
  obtain ⟨hq0, hq1⟩ := made1 ka kb hq
  have HDA := Aside.mk hu.ds
  have HDB := Aside.mk hv.ds
  obtain ⟨x, y, rfl, hxa, hya⟩ := hu
  obtain ⟨x', y', rfl, hxb, hyb⟩ := hv
  obtain ⟨f1, n1, xs, ys⟩ := a
  obtain ⟨f2, n2, xs', ys'⟩ := b
  dsimp only at *
  obtain ⟨l, hl⟩ : ∃ l, leastq f1 f2 = l := ⟨_, rfl⟩
  have HL := Aside.mk hl
  rw [hl] at hq0 hq1
  have HXA := Aside.mk hxa
  have HYA := Aside.mk hya
  have HXB := Aside.mk hxb
  have HYB := Aside.mk hyb
  obtain ⟨A, ca, rfl, _⟩ := hxa
  obtain ⟨B, cb, rfl, _⟩ := hya
  obtain ⟨C, cc, rfl, _⟩ := hxb
  obtain ⟨D, cd, rfl, _⟩ := hyb
  obtain ⟨lxa, e1⟩ : ∃ n, xs.length = n := ⟨_, rfl⟩
  obtain ⟨lya, e2⟩ : ∃ n, ys.length = n := ⟨_, rfl⟩
  obtain ⟨lxb, e3⟩ : ∃ n, xs'.length = n := ⟨_, rfl⟩
  obtain ⟨lyb, e4⟩ : ∃ n, ys'.length = n := ⟨_, rfl⟩
  rw [e1] at HXA
  rw [e2] at HYA
  rw [e3] at HXB
  rw [e4] at HYB
  rw [e1, e2, e3, e4]
  have hk0 := KeepM.init w (.int .i64 f1) (.bool n1) (.slice A lxa ca) (.slice B lya cb) (.int .i64 f2) (.bool n2) (.slice C lxb cc) (.slice D lyb cd) (.int .i64 0) (.bool false) (.slice none 0 0) (.slice none 0 0) 26 26 26
  by_cases hz : l = 0
  · subst hz
    obtain ⟨hf1, hf2⟩ := leastq_zero hl
    have ka' := okq_ds ka hf1 HDA.out
    have kb' := okq_ds kb hf2 HDB.out
    dsimp only at ka' kb'
    have HXA' : Aside (RV w (.slice A lxa ca) (dig (val xs))) := ⟨HXA.out.eq' ka'.num⟩
    have HYA' : Aside (RV w (.slice B lya cb) (dig (val ys))) := ⟨HYA.out.eq' ka'.den⟩
    have HXB' : Aside (RV w (.slice C lxb cc) (dig (val xs'))) := ⟨HXB.out.eq' kb'.num⟩
    have HYB' : Aside (RV w (.slice D lyb cd) (dig (val ys'))) := ⟨HYB.out.eq' kb'.den⟩
    have LXA := Aside.mk ka'.la
    have LYA := Aside.mk ka'.lb
    have LXB := Aside.mk kb'.la
    have LYB := Aside.mk kb'.lb
    obtain ⟨m1, hm1⟩ : ∃ m, val xs * val ys' = m := ⟨_, rfl⟩
    obtain ⟨m2, hm2⟩ : ∃ m, val ys * val xs' = m := ⟨_, rfl⟩
    have HM1 := Aside.mk hm1
    have HM2 := Aside.mk hm2
    have HL1 : Aside ((dig m1).length < 1073741824) := ⟨by rw [← hm1]; exact Nat.lt_of_le_of_lt (len_mul LXA.out LYB.out) (by decide)⟩
    have HL2 : Aside ((dig m2).length < 1073741824) := ⟨by rw [← hm2]; exact Nat.lt_of_le_of_lt (len_mul LYA.out LXB.out) (by decide)⟩
    have HQ : Aside (ratio (!n1 == n2) m1 m2 = q) := ⟨by rw [hq0 rfl, ← hm1, ← hm2]; cases n1 <;> cases n2 <;> rfl⟩
    have hk0' := hk0.ext ((Ext.refl _).drew)
    clear hq hq0 hq1 hl hf1 hf2 ka' kb' ka kb hm1 hm2 e1 e2 e3 e4
    go_enter Tryz.func42, Tryz.ntmps42
    go_wp2_with (go_at_call 65; with_reducible refine (rleast_calls HL.out).mono ?_; rintro e w' ⟨rfl, rfl⟩)
    go_region_held (fun w' => KeepM w (.int .i64 f1) (.bool n1) (.slice A lxa ca) (.slice B lya cb) (.int .i64 f2) (.bool n2) (.slice C lxb cc) (.slice D lyb cd) w') (first | assumption | exact KeepM.ext (by assumption) (by assumption) | exact (((KeepM.set (by assumption) _ _).set _ _).set _ _).set _ _) (first | (go_at_call 47; with_reducible refine (rmul_n (HXA'.out.ext (Aside.out (And.left (show KeepM w (.int .i64 f1) (.bool n1) (.slice A lxa ca) (.slice B lya cb) (.int .i64 f2) (.bool n2) (.slice C lxb cc) (.slice D lyb cd) _ from by assumption)))) (HYB'.out.ext (Aside.out (And.left (show KeepM w (.int .i64 f1) (.bool n1) (.slice A lxa ca) (.slice B lya cb) (.int .i64 f2) (.bool n2) (.slice C lxb cc) (.slice D lyb cd) _ from by assumption)))) LXA.out LYB.out HM1.out).mono ?_; rintro e w5 ⟨r, rfl, hr, he5⟩; have HR5 := Aside.mk hr; obtain ⟨A5, c5, rfl, _⟩ := hr.form; clear hr) | (go_at_call 47; with_reducible refine (rmul_n (HYA'.out.ext (Aside.out (And.left (show KeepM w (.int .i64 f1) (.bool n1) (.slice A lxa ca) (.slice B lya cb) (.int .i64 f2) (.bool n2) (.slice C lxb cc) (.slice D lyb cd) _ from by assumption)))) (HXB'.out.ext (Aside.out (And.left (show KeepM w (.int .i64 f1) (.bool n1) (.slice A lxa ca) (.slice B lya cb) (.int .i64 f2) (.bool n2) (.slice C lxb cc) (.slice D lyb cd) _ from by assumption)))) LYA.out LXB.out HM2.out).mono ?_; rintro e w6 ⟨r, rfl, hr, he6⟩; have HR6 := Aside.mk hr; have HE6 := Aside.mk he6; obtain ⟨A6, c6, rfl, _⟩ := hr.form; clear hr) | (go_at_call 24; with_reducible refine (rratio_calls (HR5.out.ext HE6.out).rv HR6.out.rv HL1.out HL2.out HQ.out).mono ?_; rintro e w7 ⟨r, rfl, hr, he7⟩; have HR7 := Aside.mk hr; obtain ⟨A7, c7, B7, d7, rfl⟩ := hr.form; clear hr))
    have hk6 := KeepM.ext he6 (KeepM.ext he5 hk0')
    have hk7 := KeepM.ext he7 hk6
    have hz : w.heap.size + 2 < w6.heap.size := World.block_lt_of_cell? _ _ hk6.2.2.2.1.1
    have HK := Aside.mk hk7
    have HZ := Aside.mk hz
    clear hk0 hk0' hk6 hz
    go_wp2
    refine bodyPost_ret (v := .agg #[.int .i64 q.f, .bool q.neg, .slice A7 q.num.length c7, .slice B7 q.den.length d7]) (by simp [results, Tryz.results42, go_sem, hk7]) rfl ⟨_, rfl, (HR7.out.set4 HZ.out _ _ _ _).mono (by have := HZ.out; omega), ext_set4 HK.out.1.out (by omega) _ _ _ _⟩
  · have HQ := Aside.mk (hq1 hz)
    have hl0 : (l == 0) = false := beq_eq_false_iff_ne.2 hz
    have hl1 : (l != 0) = true := by simp [bne, hl0]
    rw [HQ.out]
    clear hq hq0 hq1 hl hz e1 e2 e3 e4 ka kb
    go_enter Tryz.func42, Tryz.ntmps42
    go_wp2_with (first | (go_at_call 65; with_reducible refine (rleast_calls HL.out).mono ?_; rintro e w' ⟨rfl, rfl⟩) | (go_at_call 64; with_reducible refine rfault_calls.mono ?_; rintro e w1 ⟨rfl, he⟩; have hk1 := KeepM.ext he hk0; clear hk0 he))
    have HK := Aside.mk hk1
    refine bodyPost_ret (v := .agg #[.int .i64 l, .bool false, .slice none 0 0, .slice none 0 0]) (by simp [results, Tryz.results42, go_sem, hk1]) rfl ⟨_, rfl, RO.fq _ _ _, ext_set4 HK.out.1.out (by omega) _ _ _ _⟩

end Go.Proofs.YtgfkachfbnbikaaGreatDoor
