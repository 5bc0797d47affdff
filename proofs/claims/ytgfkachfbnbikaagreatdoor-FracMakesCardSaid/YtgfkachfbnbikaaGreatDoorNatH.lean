/- Contracts of package nat: IsNat, Of, Bits, Add, Sub, Mul, Compare, Div, Gcd. -/
import Derived.Test.YtgfkachfbnbikaaGreatDoorNatC
import Derived.Test.YtgfkachfbnbikaaGreatDoorNatG
namespace Go.Proofs.YtgfkachfbnbikaaGreatDoor
open Go.RowKit

theorem cell_lit {w : World} {t : TypeId} {vs : Array Value} {j : Nat} {v : Value} (h : vs[j]? = some v) : (w.alloc (.cells vs t)).cell? ((⟨w.heap.size, 0, none⟩ : Addr).add j) = some v := by
  rw [add_plain, World.cell?_alloc_new]
  exact h

theorem form1_calls {w : World} {v : Value} {xs : List Nat} {t : TypeId} {m : Nat} (h : RV w v xs) (hm : natErr xs = m) :
    Calls Tryz.prog 122 #[.slice (some ⟨w.heap.size, 0, none⟩) 1 1] (w.alloc (.cells #[v] t)) fun e w' => e = .returned (.int .i64 (m : Int)) ∧ w.alloc (.cells #[v] t) = w' := by
  refine (form_calls (ls := [xs]) (n := 1) rfl (by decide) (by decide) ?_).mono ?_
  · intro j hj
    obtain rfl : j = 0 := by omega
    exact ⟨v, cell_lit (by simp), h.ext ((Ext.refl w).alloc _)⟩
  · rintro e w' ⟨rfl, rfl⟩
    refine ⟨?_, rfl⟩
    simp only [natErrs, hm]
    by_cases h0 : m = 0 <;> simp [h0]
theorem form2_calls {w : World} {u v : Value} {xs ys : List Nat} {t : TypeId} (h : RV w u xs) (k : RV w v ys) (hx : natErr xs = 0) (hy : natErr ys = 0) :
    Calls Tryz.prog 122 #[.slice (some ⟨w.heap.size, 0, none⟩) 2 2] (w.alloc (.cells #[u, v] t)) fun e w' => e = .returned (.int .i64 0) ∧ w.alloc (.cells #[u, v] t) = w' := by
  refine (form_calls (ls := [xs, ys]) (n := 2) rfl (by decide) (by decide) ?_).mono ?_
  · intro j hj
    obtain rfl | rfl : j = 0 ∨ j = 1 := by omega
    · exact ⟨u, cell_lit (by simp), h.ext ((Ext.refl w).alloc _)⟩
    · exact ⟨v, cell_lit (by simp), k.ext ((Ext.refl w).alloc _)⟩
  · rintro e w' ⟨rfl, rfl⟩
    exact ⟨by simp [natErrs, hx, hy], rfl⟩

theorem natErr_dig (a : Nat) : natErr (dig a) = if 512 < (dig a).length then 3 else 0 := by
  unfold natErr
  split
  · rfl
  · rw [if_neg]
    rintro ⟨h1, h2⟩
    exact nz_dig a (by intro h; rw [h] at h1; simp at h1) h2
theorem natErr_dig0 {a : Nat} (h : (dig a).length ≤ 512) : natErr (dig a) = 0 := by rw [natErr_dig, if_neg (by omega)]
theorem natErr_zero {xs : List Nat} (hd : Ds xs) (h : natErr xs = 0) : xs.length ≤ 512 ∧ xs = dig (val xs) := by
  unfold natErr at h
  split at h
  · omega
  · split at h
    · omega
    · rename_i h1 h2
      refine ⟨by omega, (dig_val hd ?_).symm⟩
      intro hx h3
      exact h2 ⟨List.length_pos_iff.2 hx, h3⟩

theorem isnat_calls {w : World} {v : Value} {xs : List Nat} (h : RV w v xs) :
    Calls Tryz.prog 70 #[v] w fun e w' => e = .returned (.bool (decide (natErr xs = 0))) ∧ Ext w w' := by
  obtain ⟨A, c, rfl, hc, _, _⟩ := id h
  have H := Aside.mk h
  have hd : (((natErr xs : Nat) : Int) == 0) = decide (natErr xs = 0) := by
    by_cases h0 : natErr xs = 0
    · simp [h0]
    · simp [h0]
  obtain ⟨m, hm⟩ : ∃ m, natErr xs = m := ⟨_, rfl⟩
  rw [hm] at hd
  have HM := Aside.mk hm
  clear h hm
  rw [HM.out]
  go_enter Tryz.func70, Tryz.ntmps70
  go_wp2_with (go_at_call 122; refine (form1_calls H.out HM.out).mono ?_; rintro e w' ⟨rfl, rfl⟩)
  go_ret
  exact ⟨by rw [← hd]; rfl, (Ext.refl w).alloc _⟩

/-- How many binary digits a number has. -/
def blen (a : Nat) : Nat := if a = 0 then 0 else a.log2 + 1
theorem blen_le {a k : Nat} : blen a ≤ k ↔ a < 2 ^ k := by
  unfold blen
  split
  · rename_i h
    subst h
    exact ⟨fun _ => Nat.two_pow_pos k, fun _ => Nat.zero_le _⟩
  · rename_i h
    rw [Nat.succ_le_iff, Nat.log2_lt h]
theorem blen_of {a b : Nat} (_h0 : 0 < a) (h1 : 2 ^ (b - 1) ≤ a) (h2 : a < 2 ^ b) : blen a = b := by
  apply Nat.le_antisymm (blen_le.2 h2)
  rcases Nat.lt_or_ge (blen a) b with h | h
  · have h3 := blen_le.1 (show blen a ≤ b - 1 by omega)
    omega
  · exact h
theorem bitLen_blen {t : Nat} (h0 : 0 < t) (h : t < 4294967296) : Lib.bitLen t = blen t := by
  have h1 := Lib.bitLenAux_bounds 64 t (by omega) (by omega)
  exact (blen_of h0 h1.2.1 h1.2.2).symm
theorem blen_dig {a k t : Nat} (hk : (dig a).length = k + 1) (ht : (dig a).getD k 0 = t) : 0 < t ∧ t < 4294967296 ∧ blen a = 32 * k + blen t := by
  have ht4 : t < 4294967296 := by rw [← ht]; exact Ds.get (ds_dig a) _
  have ht0 : 0 < t := by
    have := nz_dig a (by intro h; rw [h] at hk; simp at hk)
    rw [hk, show k + 1 - 1 = k from rfl, ht] at this
    omega
  refine ⟨ht0, ht4, ?_⟩
  have hv := val_take_step (dig a) k
  rw [ht, show k + 1 = (dig a).length from hk.symm, val_take_all, val_dig] at hv
  have hl := val_lt ((ds_dig a).take k)
  rw [List.length_take, hk, Nat.min_eq_left (by omega)] at hl
  have hb := Lib.bitLenAux_bounds 64 t (by omega) (by omega)
  have hbt : blen t = Lib.bitLenAux 64 t := blen_of ht0 hb.2.1 hb.2.2
  rw [hbt]
  have hb0 : 0 < Lib.bitLenAux 64 t := hb.1
  generalize Lib.bitLenAux 64 t = b at *
  have e : (4294967296 : Nat) ^ k = 2 ^ (32 * k) := by rw [Nat.pow_mul]
  rw [e] at hl hv
  have hp := Nat.two_pow_pos (32 * k)
  generalize val ((dig a).take k) = lo at *
  have h1 := Nat.mul_le_mul_left (2 ^ (32 * k)) hb.2.1
  have h2 : 2 ^ (32 * k) * (t + 1) ≤ 2 ^ (32 * k) * 2 ^ b := Nat.mul_le_mul_left _ hb.2.2
  rw [← Nat.pow_add] at h1 h2
  rw [Nat.mul_add, Nat.mul_one] at h2
  apply blen_of
  · rw [hv]; have := Nat.mul_pos hp ht0; omega
  · rw [show 32 * k + b - 1 = 32 * k + (b - 1) from by omega]; omega
  · omega

/-- The number of binary digits of a slice of digits. -/
theorem size_calls {w : World} {u : Value} {a : Nat} (h : RV w u (dig a)) :
    Calls Tryz.prog 175 #[u] w fun e w' => e = .returned (.int .i64 (blen a : Int)) ∧ w = w' := by
  obtain ⟨A, c, rfl, hc, hd, hr⟩ := h
  have hl : (dig a).length ≤ 1073741824 := hd.1
  rcases Nat.eq_zero_or_pos a with rfl | ha
  · have h0 : (dig 0).length = 0 := by rw [dig_zero]; rfl
    clear hr hd
    rw [h0]
    go_enter Tryz.func175, Tryz.ntmps175
    go_wp2
    go_ret
    exact ⟨rfl, rfl⟩
  · obtain ⟨k, hk⟩ : ∃ k, (dig a).length = k + 1 := ⟨(dig a).length - 1, by
      have : (dig a).length ≠ 0 := fun h => by have := dig_nil_iff.1 (List.eq_nil_of_length_eq_zero h); omega
      omega⟩
    obtain ⟨t, ht⟩ : ∃ t, (dig a).getD k 0 = t := ⟨_, rfl⟩
    obtain ⟨ht0, ht4, hb⟩ := blen_dig hk ht
    obtain ⟨bd, rfl, hcell⟩ := Rd.at32 hr k (by omega)
    rw [ht] at hcell
    obtain ⟨z, hz⟩ : ∃ z, (dig a).length = z := ⟨_, rfl⟩
    rw [hz] at hc hl hk
    rw [hz]
    have hz1 : (z : Int) - 1 = (k : Int) := by omega
    have hzne : ((z : Int) == 0) = false := by simp; omega
    have hkz : k < z := by omega
    have hbl : Lib.bitLen t = blen t := bitLen_blen ht0 ht4
    have hb32 : blen t ≤ 32 := blen_le.2 (by omega)
    have HB : Aside ((blen a : Int) = 32 * (k : Int) + (blen t : Int)) := ⟨by rw [hb]; simp⟩
    have HBT := Aside.mk hbl
    have hT : (t : Int) ≤ 4294967295 := by omega
    have HT := Aside.mk hT
    generalize hbt : blen t = b at *
    clear hr hd hk ht hz hT ht4 ht0 hbl hb hbt
    go_enter Tryz.func175, Tryz.ntmps175
    go_wp2_with (go_at_call 185; refine (Tryz.bits_Len32 (t : Int) w (by omega) HT.out).mono ?_; rintro e w' ⟨rfl, rfl⟩; rw [show ((t : Int)).toNat = t from by simp, HBT.out])
    go_ret
    exact ⟨by rw [HB.out]; rfl, rfl⟩

/-- Bits and the error of a list. -/
theorem bits_calls {w : World} {u : Value} {a : Nat} (h : RV w u (dig a)) :
    Calls Tryz.prog 152 #[u] w fun e w' => e = .returned (if (dig a).length ≤ 512 then .tuple #[.int .i64 (blen a : Int), .int .i64 0] else .tuple #[.int .i64 0, .int .i64 3]) ∧ Ext w w' := by
  obtain ⟨A, c, rfl, hc, hd, _⟩ := id h
  have hl : (dig a).length ≤ 1073741824 := hd.1
  have H := Aside.mk h
  have HE := Aside.mk (natErr_dig a)
  clear h hd
  rcases Nat.lt_or_ge 512 (dig a).length with h5 | h5
  · have HM : Aside (natErr (dig a) = 3) := ⟨by rw [HE.out, if_pos h5]⟩
    rw [if_neg (by omega)]
    go_enter Tryz.func152, Tryz.ntmps152
    go_wp2_with (go_at_call 122; refine (form1_calls H.out HM.out).mono ?_; rintro e w' ⟨rfl, rfl⟩)
    go_ret2
    exact ⟨rfl, (Ext.refl w).alloc _⟩
  · have HM : Aside (natErr (dig a) = 0) := ⟨by rw [HE.out, if_neg (by omega)]⟩
    rw [if_pos h5]
    go_enter Tryz.func152, Tryz.ntmps152
    go_wp2_with (first | (go_at_call 122; refine (form1_calls H.out HM.out).mono ?_; rintro e w' ⟨rfl, rfl⟩) | (go_at_call 175; refine (size_calls (H.out.ext ((Ext.refl w).alloc _))).mono ?_; rintro e w' ⟨rfl, rfl⟩))
    go_ret2
    exact ⟨rfl, (Ext.refl w).alloc _⟩
end Go.Proofs.YtgfkachfbnbikaaGreatDoor
