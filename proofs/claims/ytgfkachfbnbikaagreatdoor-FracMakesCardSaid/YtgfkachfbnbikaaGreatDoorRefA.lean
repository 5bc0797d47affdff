/- Contracts of package fluxionref01: Valid, Both, short, Of, digit, Compare. -/
import Derived.Test.YtgfkachfbnbikaaGreatDoorNatI
namespace Go.Proofs.YtgfkachfbnbikaaGreatDoor
open Go.RowKit

theorem rdigit_calls {w : World} {v : Value} {xs : List Nat} {i : Int} {k x : Nat} (h : RV w v xs) (hi : i = (k : Int)) (hx : xs.getD k 0 = x) :
    Calls Tryz.prog 106 #[v, .int .i64 i] w fun e w' => e = .returned (.int .u64 (x : Int)) ∧ w = w' := by
  subst hi
  obtain ⟨A, c, rfl, hc, hd, hr⟩ := h
  have hl : xs.length ≤ 1073741824 := hd.1
  rcases Nat.lt_or_ge k xs.length with hk | hk
  · obtain ⟨ad, rfl, hcell⟩ := hr.at32 k hk
    rw [hx] at hcell
    have hx4 : x < 4294967296 := hx ▸ Ds.get hd.2 k
    clear hr hx hd
    go_enter Tryz.func106, Tryz.ntmps106
    go_wp2
    go_ret
    exact ⟨rfl, rfl⟩
  · obtain rfl : x = 0 := by rw [← hx, getD_ge hk]
    clear hr hx hd
    go_enter Tryz.func106, Tryz.ntmps106
    go_wp2
    go_ret
    exact ⟨rfl, rfl⟩

set_option maxRecDepth 10000 in
theorem valid_calls {w : World} {v : Value} {xs : List Nat} {m : Nat} (h : RV w v xs) (hm : natErr xs = m) :
    Calls Tryz.prog 71 #[v] w fun e w' => e = .returned (.int .i64 (m : Int)) ∧ w = w' := by
  subst hm
  obtain ⟨A, c, rfl, hc, hd, hr⟩ := h
  have hl : xs.length ≤ 1073741824 := hd.1
  unfold natErr
  by_cases h5 : 512 < xs.length
  · rw [if_pos h5]
    clear hr hd
    go_enter Tryz.func71, Tryz.ntmps71
    go_wp2
    go_ret
    exact ⟨rfl, rfl⟩
  · rw [if_neg h5]
    rcases Nat.eq_zero_or_pos xs.length with h0 | h0
    · rw [if_neg (by omega), h0]
      rw [h0] at hc
      clear hr hd hl h5
      go_enter Tryz.func71, Tryz.ntmps71
      go_wp2
      go_ret
      exact ⟨rfl, rfl⟩
    · obtain ⟨k, hk⟩ : ∃ k, xs.length = k + 1 := ⟨xs.length - 1, by omega⟩
      obtain ⟨ad, rfl, hcell⟩ := hr.at32 k (by omega)
      obtain ⟨x, hx⟩ : ∃ x, xs.getD k 0 = x := ⟨_, rfl⟩
      rw [hx] at hcell
      rw [hk, show k + 1 - 1 = k from rfl, hx]
      rw [hk] at h5 hc hl
      have h5' : k < 512 := by omega
      by_cases hz : x = 0
      · subst hz
        rw [if_pos ⟨by omega, rfl⟩]
        clear hr hd hx hk h5 h0 hl
        go_enter Tryz.func71, Tryz.ntmps71
        go_wp2
        go_ret
        exact ⟨rfl, rfl⟩
      · rw [if_neg (by omega)]
        have hxz : ((x : Int) == 0) = false := by simp; omega
        clear hr hd hx hk h5 h0 hz hl
        go_enter Tryz.func71, Tryz.ntmps71
        go_wp2
        go_ret
        exact ⟨rfl, rfl⟩

/-- The first error of two lists. -/
def bothErr (xs ys : List Nat) : Nat := if natErr xs = 0 then natErr ys else natErr xs
set_option maxRecDepth 10000 in
theorem both_calls {w : World} {u v : Value} {xs ys : List Nat} (h : RV w u xs) (k : RV w v ys) :
    Calls Tryz.prog 21 #[u, v] w fun e w' => e = .returned (.int .i64 (bothErr xs ys : Int)) ∧ w = w' := by
  have H := Aside.mk h
  have K := Aside.mk k
  obtain ⟨A, c, rfl, hc, hd, _⟩ := h
  obtain ⟨B, d, rfl, hc', hd', _⟩ := k
  unfold bothErr
  obtain ⟨m, hm⟩ : ∃ m, natErr xs = m := ⟨_, rfl⟩
  obtain ⟨n, hn⟩ : ∃ n, natErr ys = n := ⟨_, rfl⟩
  have HM := Aside.mk hm
  have HN := Aside.mk hn
  rw [hm, hn]
  clear hd hd' hm hn
  by_cases h0 : m = 0
  · subst h0
    rw [if_pos rfl]
    go_enter Tryz.func21, Tryz.ntmps21
    go_wp2_with (first | (go_at_call 71; with_reducible refine (valid_calls H.out HM.out).mono ?_; rintro e w' ⟨rfl, rfl⟩) | (go_at_call 71; with_reducible refine (valid_calls K.out HN.out).mono ?_; rintro e w' ⟨rfl, rfl⟩))
    go_ret
    exact ⟨rfl, rfl⟩
  · rw [if_neg h0]
    have hm0 : ((m : Int) == 0) = false := by simp; omega
    have hm1 : ((m : Int) != 0) = true := by simp; omega
    clear h0
    go_enter Tryz.func21, Tryz.ntmps21
    go_wp2_with (go_at_call 71; with_reducible refine (valid_calls H.out HM.out).mono ?_; rintro e w' ⟨rfl, rfl⟩)
    go_ret
    exact ⟨rfl, rfl⟩

/-- short leaves zeros at the end out. -/
theorem rshort_calls {w : World} {b : Nat} {v : Value} {xs : List Nat} (h : OV b w v xs) :
    Calls Tryz.prog 107 #[v] w fun e w' => ∃ u, e = .returned u ∧ OV b w' u (dig (val xs)) ∧ w = w' := by
  obtain ⟨A, c, rfl, hc⟩ := h.form
  have hl : xs.length ≤ 1073741824 := h.1.1
  have H := Aside.mk h
  have hd : Ds xs := h.1.2
  have E : Aside (trimTo xs xs.length = dig (val xs)) := ⟨by rw [trimTo_dig hd _ (Nat.le_refl _), val_take_all]⟩
  clear h hd
  go_enter Tryz.func107, Tryz.ntmps107
  go_wp2
  go_loop [3] (fun n => ∃ k : Nat, k ≤ xs.length ∧ n = .int .i64 (k : Int) ∧ Aside (trimTo xs xs.length = trimTo xs k)) (fun n => (intOf n).toNat)
  case atStart => exact ⟨_, Nat.le_refl _, rfl, ⟨rfl⟩⟩
  case round =>
    obtain ⟨k, hk, rfl, HK⟩ := hrel
    cases k with
    | zero =>
      go_wp2
      go_ret
      exact ⟨.slice A 0 c, rfl, by rw [← E.out, HK.out]; exact H.out.take 0 (by omega), rfl⟩
    | succ k =>
      obtain ⟨ad, rfl, hx⟩ := (H.out.rv).at' k (by omega)
      have hkc : k ≤ c := by omega
      by_cases h0 : xs.getD k 0 = 0
      · have h00 : (((xs[k]?.getD 0 : Nat) : Int) == 0) = true := by rw [List.getD_eq_getElem?_getD] at h0; simp [h0]
        have HK' : Aside (trimTo xs xs.length = trimTo xs k) := ⟨by rw [HK.out, trimTo, if_pos h0]⟩
        clear h0 HK
        go_wp2
        go_round
        case rel => exact ⟨k, by omega, by first | rfl | (congr 1; omega), HK'⟩
        case measure => first | (simp [intOf]; done) | (simp [intOf]; omega)
      · have h00 : (((xs[k]?.getD 0 : Nat) : Int) == 0) = false := by rw [List.getD_eq_getElem?_getD] at h0; simp; omega
        have HK' : Aside (dig (val xs) = xs.take (k + 1)) := ⟨by rw [← E.out, HK.out, trimTo, if_neg h0]⟩
        clear h0 HK
        go_wp2
        go_ret
        exact ⟨.slice (some ad) (k + 1) c, rfl, by rw [HK'.out]; exact H.out.take (k + 1) hk, rfl⟩

/-- Of returns the digits of a number. -/
theorem rof_calls {w : World} {x : Nat} (hx : x < 18446744073709551616) :
    Calls Tryz.prog 68 #[.int .u64 (x : Int)] w fun e w' => ∃ r, e = .returned r ∧ OV w.heap.size w' r (dig x) ∧ Ext w w' := by
  obtain ⟨lo, hlo⟩ : ∃ lo, x % 4294967296 = lo := ⟨_, rfl⟩
  obtain ⟨hi, hhi⟩ : ∃ hi, x / 4294967296 = hi := ⟨_, rfl⟩
  have hl4 : lo < 4294967296 := by omega
  have hh4 : hi < 4294967296 := by omega
  have h1 : IntKind.u32.wrap (x : Int) = (lo : Int) := by rw [wrap_u32]; omega
  have h2 : (x : Int) / 4294967296 = (hi : Int) := by omega
  have h3 : IntKind.u32.wrap (hi : Int) = (hi : Int) := by rw [wrap_u32]; omega
  have hol := OV.lit w [lo, hi] (by simp) (Ds.cons hl4 (Ds.cons hh4 Ds.nil))
  simp only [u32s, List.map_cons, List.map_nil, List.length_cons, List.length_nil] at hol
  have HO := Aside.mk hol
  have HX : Aside (val [lo, hi] = x) := ⟨by simp [val]; omega⟩
  clear hol hl4 hh4 hlo hhi hx
  go_enter Tryz.func68, Tryz.ntmps68
  go_wp2_with (go_at_call 107; refine (rshort_calls HO.out).mono ?_; rintro e w' ⟨r, rfl, hr, rfl⟩; have HR := Aside.mk hr; clear hr)
  go_ret
  exact ⟨r, rfl, (by have h := HR.out; rw [HX.out] at h; exact h), (Ext.refl w).alloc _⟩

set_option maxHeartbeats 400000 in
/-- Compare compares numbers. -/
theorem rcompare_calls {w : World} {u v : Value} {a b : Nat} (hu : RV w u (dig a)) (hv : RV w v (dig b)) :
    Calls Tryz.prog 120 #[u, v] w fun e w' => e = .returned (.int .i64 (cmpN a b)) ∧ ∃ n, w' = w.drewN n := by
  have HC : (dig a).length = (dig b).length → Aside (cmpTo (dig a) (dig b) (dig a).length = cmpN a b) := fun e => ⟨by
    rw [cmpTo_val (ds_dig a) (ds_dig b) _ (Nat.le_refl _) (by omega), val_take_all, e, val_take_all, val_dig, val_dig]⟩
  have HL1 : (dig a).length < (dig b).length → Aside (cmpN a b = -1) := fun h => ⟨by have := cmp_len h; simp [cmpN, this]⟩
  have HL2 : (dig b).length < (dig a).length → Aside (cmpN a b = 1) := fun h => ⟨by have := cmp_len h; simp only [cmpN]; rw [if_neg (by omega), if_neg (by omega)]⟩
  generalize dig a = xs at *
  generalize dig b = ys at *
  generalize cmpN a b = cc at *
  obtain ⟨A, c, rfl, hc, hd, hr⟩ := id hu
  obtain ⟨B, d, rfl, hc', hd', hr'⟩ := id hv
  have HU := Aside.mk hu
  have HV := Aside.mk hv
  have hl : xs.length ≤ 1073741824 := hd.1
  have hl' : ys.length ≤ 1073741824 := hd'.1
  clear hu hv hd hd' hr hr'
  rcases Nat.lt_or_ge xs.length ys.length with h1 | h1
  · have HC := HL1 h1
    have hne : (((xs.length : Nat) : Int) != ((ys.length : Nat) : Int)) = true := by simp; omega
    clear HL1 HL2
    go_enter Tryz.func120, Tryz.ntmps120
    go_wp2
    go_ret
    exact ⟨by rw [HC.out]; rfl, 0, rfl⟩
  rcases Nat.lt_or_ge ys.length xs.length with h2 | h2
  · have HC := HL2 h2
    have hne : (((xs.length : Nat) : Int) != ((ys.length : Nat) : Int)) = true := by simp; omega
    clear HL1 HL2
    go_enter Tryz.func120, Tryz.ntmps120
    go_wp2
    go_ret
    exact ⟨by rw [HC.out]; rfl, 0, rfl⟩
  have HC := HC (by omega)
  have hll : xs.length = ys.length := by omega
  clear HL1 HL2
  have HLL := Aside.mk hll
  rw [← hll]
  clear hll h1 h2 hl'
  go_enter Tryz.func120, Tryz.ntmps120
  go_wp2
  go_loopw [5] (fun i wr => ∃ k : Nat, k ≤ xs.length ∧ i = .int .i64 ((k : Int) - 1) ∧ Aside (cc = cmpTo xs ys k) ∧ Aside (∃ n, wr = w.drewN n)) (fun i _ => (intOf i + 1).toNat)
  case atStart => exact ⟨xs.length, Nat.le_refl _, rfl, ⟨HC.out.symm⟩, ⟨0, rfl⟩⟩
  case round =>
    obtain ⟨k, hk, rfl, HK, HW⟩ := hrel
    cases k with
    | zero =>
      go_wp2
      go_ret
      exact ⟨by rw [HK.out]; rfl, HW.out⟩
    | succ k =>
      obtain ⟨ad, rfl, hx⟩ := HU.out.at' k (by omega)
      obtain ⟨bd, rfl, hy⟩ := HV.out.at' k (by have := HLL.out; omega)
      obtain ⟨n, rfl⟩ := HW.out
      have hK := HK.out
      simp only [cmpTo] at hK
      clear HK
      generalize xs.getD k 0 = x at hx hK
      generalize ys.getD k 0 = y at hy hK
      rcases Nat.lt_or_ge x y with hxy | hxy
      · rw [if_neg (by omega), if_pos hxy] at hK
        have HK := Aside.mk hK
        have hb : decide (x < y) = true := by simp; omega
        clear hK hxy
        go_wp2
        go_quiet (fail)
        go_wp2
        go_ret
        exact ⟨by rw [HK.out]; rfl, _, World.drewN_drewN _ _ _⟩
      · have hb : decide (x < y) = false := by simp; omega
        rcases Nat.lt_or_ge y x with hyx | hyx
        · rw [if_neg (by omega), if_neg (by omega)] at hK
          have HK := Aside.mk hK
          have hb2 : decide (y < x) = true := by simp; omega
          clear hK hxy hyx
          go_wp2
          go_quiet (fail)
          go_wp2
          go_quiet (fail)
          go_wp2
          go_ret
          exact ⟨by rw [HK.out]; rfl, drewN3 _ _ _ _⟩
        · rw [if_pos (by omega)] at hK
          have HK := Aside.mk hK
          have hb2 : decide (y < x) = false := by simp; omega
          clear hK hxy hyx
          go_wp2
          go_quiet (fail)
          go_wp2
          go_quiet (fail)
          go_wp2
          go_roundw
          case rel => exact ⟨k, by omega, rfl, HK, ⟨_, rfl⟩⟩
          case measure => simp [intOf]
end Go.Proofs.YtgfkachfbnbikaaGreatDoor
