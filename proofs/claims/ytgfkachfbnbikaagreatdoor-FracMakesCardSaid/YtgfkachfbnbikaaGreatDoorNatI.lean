/- Contracts of package nat: Of, Add, Sub, Mul, Compare, Div, Gcd, for natural numbers of at most 512 digits. -/
import Derived.Test.YtgfkachfbnbikaaGreatDoorNatH
namespace Go.Proofs.YtgfkachfbnbikaaGreatDoor
open Go.RowKit

/-- A natural number that the functions of nat take. -/
def NV (w : World) (v : Value) (a : Nat) : Prop := RV w v (dig a) ∧ (dig a).length ≤ 512
theorem NV.ext {w w' : World} {v : Value} {a : Nat} (h : NV w v a) (e : Ext w w') : NV w' v a := ⟨h.1.ext e, h.2⟩
theorem NV.form {w : World} {v : Value} {a : Nat} (h : NV w v a) : ∃ A c n, v = .slice A n c ∧ n ≤ 512 ∧ Aside (n = (dig a).length) := by
  obtain ⟨A, c, rfl, _⟩ := h.1
  exact ⟨A, c, _, rfl, h.2, ⟨rfl⟩⟩

theorem form2n {w : World} {u v : Value} {a b : Nat} {t : TypeId} (h : NV w u a) (k : NV w v b) :
    Calls Tryz.prog 122 #[.slice (some ⟨w.heap.size, 0, none⟩) 2 2] (w.alloc (.cells #[u, v] t)) fun e w' => e = .returned (.int .i64 0) ∧ w.alloc (.cells #[u, v] t) = w' :=
  form2_calls h.1 k.1 (natErr_dig0 h.2) (natErr_dig0 k.2)

theorem Add_calls {w : World} {u v : Value} {a b : Nat} (hu : NV w u a) (hv : NV w v b) :
    Calls Tryz.prog 149 #[u, v] w fun e w' => ∃ r, e = .returned (.tuple #[r, .int .i64 0]) ∧ OV w.heap.size w' r (dig (a + b)) ∧ Ext w w' := by
  have HU := Aside.mk hu
  have HV := Aside.mk hv
  obtain ⟨A, c, n, rfl, _, _⟩ := hu.form
  obtain ⟨B, d, m, rfl, _, _⟩ := hv.form
  clear hu hv
  go_enter Tryz.func149, Tryz.ntmps149
  go_wp2_with (first | (go_at_call 122; refine (form2n HU.out HV.out).mono ?_; rintro e w' ⟨rfl, rfl⟩) | (go_at_call 173; refine (add_calls (HU.out.1.ext ((Ext.refl w).alloc _)) (HV.out.1.ext ((Ext.refl w).alloc _)) (by have := HU.out.2; have := HV.out.2; omega)).mono ?_; rintro e w1 ⟨r, rfl, hr, he⟩; have HR := Aside.mk hr; have HE := Aside.mk he; clear hr he))
  go_ret2
  exact ⟨r, rfl, (by simpa [val_dig] using HR.out.mono ((Ext.refl w).alloc _).size), ((Ext.refl w).alloc _).trans HE.out⟩
theorem Mul_calls {w : World} {u v : Value} {a b : Nat} (hu : NV w u a) (hv : NV w v b) :
    Calls Tryz.prog 100 #[u, v] w fun e w' => ∃ r, e = .returned (.tuple #[r, .int .i64 0]) ∧ OV w.heap.size w' r (dig (a * b)) ∧ Ext w w' := by
  have HU := Aside.mk hu
  have HV := Aside.mk hv
  obtain ⟨A, c, n, rfl, _, _⟩ := hu.form
  obtain ⟨B, d, m, rfl, _, _⟩ := hv.form
  clear hu hv
  go_enter Tryz.func100, Tryz.ntmps100
  go_wp2_with (first | (go_at_call 122; refine (form2n HU.out HV.out).mono ?_; rintro e w' ⟨rfl, rfl⟩) | (go_at_call 147; refine (mul_calls (HU.out.1.ext ((Ext.refl w).alloc _)) (HV.out.1.ext ((Ext.refl w).alloc _)) (by have := HU.out.2; have := HV.out.2; omega)).mono ?_; rintro e w1 ⟨r, rfl, hr, he⟩; have HR := Aside.mk hr; have HE := Aside.mk he; clear hr he))
  go_ret2
  exact ⟨r, rfl, (by simpa [val_dig] using HR.out.mono ((Ext.refl w).alloc _).size), ((Ext.refl w).alloc _).trans HE.out⟩
theorem Sub_calls {w : World} {u v : Value} {a b : Nat} (hu : NV w u a) (hv : NV w v b) (hle : b ≤ a) :
    Calls Tryz.prog 151 #[u, v] w fun e w' => ∃ r, e = .returned (.tuple #[r, .int .i64 0]) ∧ OV w.heap.size w' r (dig (a - b)) ∧ Ext w w' := by
  have HU := Aside.mk hu
  have HV := Aside.mk hv
  obtain ⟨A, c, n, rfl, _, _⟩ := hu.form
  obtain ⟨B, d, m, rfl, _, _⟩ := hv.form
  have hcmp : decide (cmpN a b < 0) = false := by
    unfold cmpN; rw [if_neg (by omega)]; split <;> rfl
  have HL := Aside.mk hle
  clear hu hv hle
  go_enter Tryz.func151, Tryz.ntmps151
  go_wp2_with (first | (go_at_call 167; refine (compare_calls (HU.out.1.ext ((Ext.refl w).alloc _)) (HV.out.1.ext ((Ext.refl w).alloc _))).mono ?_; rintro e w' ⟨rfl, n0, rfl⟩) | (go_at_call 122; refine (form2n HU.out HV.out).mono ?_; rintro e w' ⟨rfl, rfl⟩) | (go_at_call 174; refine (sub_calls (HU.out.1.ext (((Ext.refl w).alloc _).drewN _)) (HV.out.1.ext (((Ext.refl w).alloc _).drewN _)) (dig_len_mono HL.out) (by rw [val_dig, val_dig]; exact HL.out)).mono ?_; rintro e w1 ⟨r, rfl, hr, he⟩; have HR := Aside.mk hr; have HE := Aside.mk he; clear hr he))
  go_ret2
  exact ⟨r, rfl, (by simpa [val_dig] using HR.out.mono (((Ext.refl w).alloc _).drewN n0).size), (((Ext.refl w).alloc _).drewN n0).trans HE.out⟩
theorem Gcd_calls {w : World} {u v : Value} {a b : Nat} (hu : NV w u a) (hv : NV w v b) :
    Calls Tryz.prog 110 #[u, v] w fun e w' => ∃ r, e = .returned (.tuple #[r, .int .i64 0]) ∧ OV w.heap.size w' r (dig (Nat.gcd a b)) ∧ Ext w w' := by
  have HU := Aside.mk hu
  have HV := Aside.mk hv
  obtain ⟨A, c, n, rfl, _, _⟩ := hu.form
  obtain ⟨B, d, m, rfl, _, _⟩ := hv.form
  clear hu hv
  go_enter Tryz.func110, Tryz.ntmps110
  go_wp2_with (first | (go_at_call 122; refine (form2n HU.out HV.out).mono ?_; rintro e w' ⟨rfl, rfl⟩) | (go_at_call 153; refine (gcd_calls (HU.out.1.ext ((Ext.refl w).alloc _)) (HV.out.1.ext ((Ext.refl w).alloc _)) (by have := HU.out.2; omega) (by have := HV.out.2; omega)).mono ?_; rintro e w1 ⟨r, rfl, hr, he⟩; have HR := Aside.mk hr; have HE := Aside.mk he; clear hr he))
  go_ret2
  exact ⟨r, rfl, (by simpa [val_dig] using HR.out.mono ((Ext.refl w).alloc _).size), ((Ext.refl w).alloc _).trans HE.out⟩
theorem Compare_calls {w : World} {u v : Value} {a b : Nat} (hu : NV w u a) (hv : NV w v b) :
    Calls Tryz.prog 150 #[u, v] w fun e w' => e = .returned (.tuple #[.int .i64 (cmpN a b), .int .i64 0]) ∧ Ext w w' := by
  have HU := Aside.mk hu
  have HV := Aside.mk hv
  obtain ⟨A, c, n, rfl, _, _⟩ := hu.form
  obtain ⟨B, d, m, rfl, _, _⟩ := hv.form
  clear hu hv
  go_enter Tryz.func150, Tryz.ntmps150
  go_wp2_with (first | (go_at_call 167; refine (compare_calls (HU.out.1.ext ((Ext.refl w).alloc _)) (HV.out.1.ext ((Ext.refl w).alloc _))).mono ?_; rintro e w' ⟨rfl, n0, rfl⟩) | (go_at_call 122; refine (form2n HU.out HV.out).mono ?_; rintro e w' ⟨rfl, rfl⟩))
  go_ret2
  exact ⟨rfl, ((Ext.refl w).alloc _).drewN n0⟩
theorem Div_calls {w : World} {u v : Value} {a b : Nat} (hu : NV w u a) (hv : NV w v b) (hb : 0 < b) :
    Calls Tryz.prog 104 #[u, v] w fun e w' => ∃ q r, e = .returned (.tuple #[q, r, .int .i64 0]) ∧ OV w.heap.size w' q (dig (a / b)) ∧ OV w.heap.size w' r (dig (a % b)) ∧ Ext w w' := by
  have HU := Aside.mk hu
  have HV := Aside.mk hv
  obtain ⟨A, c, n, rfl, _, _⟩ := hu.form
  obtain ⟨B, d, m, rfl, _, hm⟩ := hv.form
  have hm0 : 0 < m := by
    rw [hm.out]
    exact List.length_pos_iff.2 (fun h => by have := dig_nil_iff.1 h; omega)
  have hmne : ((m : Int) == 0) = false := by simp; omega
  have HB := Aside.mk hb
  clear hu hv hb
  go_enter Tryz.func104, Tryz.ntmps104
  go_wp2_with (first | (go_at_call 122; refine (form2n HU.out HV.out).mono ?_; rintro e w' ⟨rfl, rfl⟩) | (go_at_call 148; refine (div_calls (HU.out.1.ext ((Ext.refl w).alloc _)) (HV.out.1.ext ((Ext.refl w).alloc _)) HB.out (by have := HU.out.2; omega) (by have := HV.out.2; omega)).mono ?_; rintro e w1 ⟨q, r, rfl, hq, hr, he⟩; have HQ := Aside.mk hq; have HR := Aside.mk hr; have HE := Aside.mk he; clear hq hr he))
  first | go_ret3 | go_ret2
  exact ⟨q, r, rfl, HQ.out.mono ((Ext.refl w).alloc _).size, HR.out.mono ((Ext.refl w).alloc _).size, ((Ext.refl w).alloc _).trans HE.out⟩

/-- Of returns the digits of a number. -/
theorem of_calls {w : World} {x : Nat} (hx : x < 18446744073709551616) :
    Calls Tryz.prog 121 #[.int .u64 (x : Int)] w fun e w' => ∃ r, e = .returned r ∧ OV w.heap.size w' r (dig x) ∧ Ext w w' := by
  obtain ⟨lo, hlo⟩ : ∃ lo, x % 4294967296 = lo := ⟨_, rfl⟩
  obtain ⟨hi, hhi⟩ : ∃ hi, x / 4294967296 = hi := ⟨_, rfl⟩
  have hl4 : lo < 4294967296 := by omega
  have hh4 : hi < 4294967296 := by omega
  have h1 : IntKind.u32.wrap (x : Int) = (lo : Int) := by rw [wrap_u32]; omega
  have h2 : (x : Int) / 4294967296 = (hi : Int) := by omega
  have h3 : IntKind.u32.wrap (hi : Int) = (hi : Int) := by rw [wrap_u32]; omega
  have hol := OV.lit w [lo, hi] (by simp) (Ds.cons hl4 (Ds.cons hh4 Ds.nil))
  simp only [u32s, List.map_cons, List.map_nil, List.length_cons, List.length_nil] at hol
  have HO := Aside.mk hol
  have HX : Aside (val [lo, hi] = x) := ⟨by simp [val]; omega⟩
  clear hol hl4 hh4 hlo hhi hx
  go_enter Tryz.func121, Tryz.ntmps121
  go_wp2_with (go_at_call 156; refine (trim_calls HO.out).mono ?_; rintro e w' ⟨r, rfl, hr, rfl⟩; have HR := Aside.mk hr; clear hr)
  go_ret
  exact ⟨r, rfl, (by have h := HR.out; rw [HX.out] at h; exact h), (Ext.refl w).alloc _⟩
end Go.Proofs.YtgfkachfbnbikaaGreatDoor
