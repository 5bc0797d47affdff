/- Contract of package nat: div, by hand of Knuth's Algorithm D. Contracts of package nat: gcd, form, IsNat, Of, size, Bits. Contracts of package nat: IsNat, Of, Bits, Add, Sub, Mul, Compare, Div, Gcd. Contracts of package nat: Of, Add, Sub, Mul, Compare, Div, Gcd, for natural numbers of at most 512 digits. -/
import Derived.Test.YtcbaipnphepbeaaGreatDoorNb
import Derived.Test.YtcbaipnphepbeaaGreatDoorShelf
import Derived.Lib.ItoaNum
import Derived.Deep.DeepCutAuto
import Derived.Deep.CutBlock
namespace Go.Proofs.YtcbaipnphepbeaaGreatDoor
open Go.RowKit

theorem lead (x : Nat) (h0 : 0 < x) (h : x < 4294967296) : ∃ n : Nat, n < 32 ∧ 2147483648 ≤ x * 2 ^ n ∧ x * 2 ^ n < 4294967296 ∧ (32 - (Lib.bitLen x : Int)) = (n : Int) := by
  have h1 := Lib.bitLenAux_bounds 64 x (by omega) (by omega)
  have h2 := Lib.bitLen_le x 32 (by omega) (by omega)
  unfold Lib.bitLen at *
  generalize Lib.bitLenAux 64 x = b at *
  have e : 2 ^ (b - 1) * 2 ^ (32 - b) = 2147483648 := by rw [← Nat.pow_add, show b - 1 + (32 - b) = 31 from by omega]
  have e' : 2 ^ b * 2 ^ (32 - b) = 4294967296 := by rw [← Nat.pow_add, show b + (32 - b) = 32 from by omega]
  refine ⟨32 - b, by omega, ?_, ?_, by omega⟩
  · have := Nat.mul_le_mul_right (2 ^ (32 - b)) h1.2.1; omega
  · have := Nat.mul_lt_mul_of_pos_right h1.2.2 (Nat.two_pow_pos (32 - b)); omega

theorem lead_calls {w : World} {x n : Nat} (h : x < 4294967296) (hn : (32 - (Lib.bitLen x : Int)) = (n : Int)) :
    Calls Tryz.prog 175 #[.int .u32 (x : Int)] w fun e w' => e = .returned (.int .i64 (n : Int)) ∧ w = w' :=
  (Tryz.bits_LeadingZeros32 (x : Int) w (by omega) (by omega)).mono fun e w' ⟨he, hw⟩ => ⟨by rw [he]; simp [hn], hw.symm⟩

theorem short_dig {w : World} {u : Value} {a y : Nat} (hu : RV w u (dig a)) (hy : y < 4294967296) (hy0 : 0 < y) :
    Calls Tryz.prog 157 #[u, .int .u32 (y : Int)] w fun e w' => ∃ r, e = .returned (.tuple #[r, .int .u32 ((a % y : Nat) : Int)]) ∧ OV w.heap.size w' r (dig (a / y)) ∧ Ext w w' := by
  have h := short_calls hu hy hy0
  rwa [val_dig] at h

/-- What is known of the rows of a division. -/
structure DivRows (w wr : World) (gu gq b2 nu ql cu : Nat) (vv : Value) (us vs os : List Nat) : Prop where
  u : OV w.heap.size wr (.slice (some ⟨gu, 0, none⟩) nu cu) us
  v : OV b2 wr vv vs
  o : OV w.heap.size wr (.slice (some ⟨gq, 0, none⟩) ql ql) os
  lu : us.length = nu
  lo : os.length = ql
  hgu : w.heap.size ≤ gu
  hgub : gu < b2
  hgq : w.heap.size ≤ gq
  ne : gu ≠ gq
  nv : vv.ownBlock ≠ some gq
  e : Ext w wr

theorem DivRows.drewN {w wr : World} {gu gq b2 nu ql cu : Nat} {vv : Value} {us vs os : List Nat} (h : DivRows w wr gu gq b2 nu ql cu vv us vs os) (n : Nat) : DivRows w (wr.drewN n) gu gq b2 nu ql cu vv us vs os :=
  { h with u := h.u.ext ((Ext.refl _).drewN n), v := h.v.ext ((Ext.refl _).drewN n), o := h.o.ext ((Ext.refl _).drewN n), e := h.e.drewN n }

theorem DivRows.store {w wr : World} {gu gq b2 nu ql cu k x : Nat} {vv : Value} {us vs os : List Nat} (h : DivRows w wr gu gq b2 nu ql cu vv us vs os) (hx : x < 4294967296) :
    DivRows w (wr.setCell ⟨gq, k, none⟩ (.int .u32 (x : Int))) gu gq b2 nu ql cu vv us vs (os.set k x) := by
  have hg : wr.grownBy (wr.setCell ⟨gq, k, none⟩ (.int .u32 (x : Int))) (some gq) := grown_set ⟨rfl, rfl, rfl, Nat.le_refl _, fun _ _ _ => rfl⟩ _ rfl _
  exact { h with
    u := h.u.other hg (.inr (by intro hh; exact h.ne (by injection hh)))
    v := h.v.other hg (.inr h.nv)
    o := h.o.store k hx
    lo := by rw [List.length_set]; exact h.lo
    e := OV.ext_grown h.o h.e (Nat.le_refl _) hg }

theorem DivRows.after {w wr w' : World} {gu gq b2 nu ql cu : Nat} {vv : Value} {us us' vs os : List Nat} (h : DivRows w wr gu gq b2 nu ql cu vv us vs os) (hu : OV w.heap.size w' (.slice (some ⟨gu, 0, none⟩) nu cu) us') (hl : us'.length = us.length) (hv : OV b2 w' vv vs) (hg : wr.grownBy w' (some gu)) :
    DivRows w w' gu gq b2 nu ql cu vv us' vs os :=
  { h with
    u := hu
    v := hv
    o := h.o.other hg (.inr (by intro hh; exact h.ne (by injection hh with hh; exact hh.symm)))
    lu := hl.trans h.lu
    e := OV.ext_grown h.u h.e (Nat.le_refl _) hg }

theorem DivRows.take {w wr : World} {gu gq b2 nu ql cu k z q S V c' : Nat} {vv : Value} {us vs os : List Nat} (h : DivRows w wr gu gq b2 nu ql cu vv us vs os) (hk : k + (z + 1) ≤ nu) (hz : vs.length = z) (hq : q < 4294967296)
    (HQ : S / V ≤ q ∧ q ≤ S / V + 1) (hS : val (us.drop k) = S) (hV : val vs = V) (hV0 : 0 < V) (hSV : S < 4294967296 ^ (z + 1)) :
    Calls Tryz.prog 177 #[.slice (some ⟨gu, k, none⟩) (z + 1) c', vv, .int .u64 (q : Int)] wr fun e w' => ∃ (l : Nat) (us' : List Nat), e = .returned (.bool (l == 0)) ∧ l ≤ 1 ∧ DivRows w w' gu gq b2 nu ql cu vv us' vs os ∧
      us'.take k = us.take k ∧ us'.drop (k + (z + 1)) = us.drop (k + (z + 1)) ∧ (l = 0 → q = S / V ∧ val (us'.drop k) = S % V) ∧ (l = 1 → q = S / V + 1 ∧ val (us'.drop k) + V = S % V + 4294967296 ^ (z + 1)) ∧ val (us'.drop k) < 4294967296 ^ (z + 1) := by
  refine (take_calls (L := z + 1) (i := k) h.u (by rw [h.lu]; exact hk) h.v h.hgub hq).mono ?_
  rintro e w' ⟨l, c, us', rfl, hl, hc, hc0, hu', hlen, ht, hdr, hval, hv', hg⟩
  have hc0' := hc0 (by rw [hz])
  subst hc0'
  rw [List.take_of_length_le (by omega), hV, Nat.zero_add] at hval
  subst hS
  have h1 := after_take hu'.1.2 hlen (by rw [h.lu]; exact hk) ht hdr hSV hval
  have h2 := taken hV0 HQ.1 HQ.2 h1.1 h1.2 hl
  exact ⟨l, us', rfl, hl, h.after hu' hlen hv' hg, ht, hdr, h2.1, h2.2, h1.2⟩

theorem DivRows.give {w wr : World} {gu gq b2 nu ql cu k z S V c' : Nat} {vv : Value} {us vs os : List Nat} (h : DivRows w wr gu gq b2 nu ql cu vv us vs os) (hk : k + (z + 1) ≤ nu) (hz : vs.length = z)
    (hS : val (us.drop k) + V = S % V + 4294967296 ^ (z + 1)) (hV : val vs = V) (hV0 : 0 < V) (hSV : val (us.drop k) < 4294967296 ^ (z + 1)) :
    Calls Tryz.prog 178 #[.slice (some ⟨gu, k, none⟩) (z + 1) c', vv] wr fun e w' => ∃ (us' : List Nat), e = .returned (.tuple #[]) ∧ DivRows w w' gu gq b2 nu ql cu vv us' vs os ∧
      us'.take k = us.take k ∧ val (us'.drop k) = S % V := by
  refine (give_calls (L := z + 1) (i := k) h.u (by rw [h.lu]; exact hk) h.v h.hgub).mono ?_
  rintro e w' ⟨c, us', rfl, hc, hu', hlen, ht, hdr, hval, hv', hg⟩
  rw [List.take_of_length_le (by omega), hV] at hval
  have h1 := after_give hu'.1.2 hlen (by rw [h.lu]; exact hk) ht hdr hSV hval
  exact ⟨us', rfl, h.after hu' hlen hv' hg, ht, given h1.1 hS h1.2 hc hV0⟩

theorem div_next {X V S k : Nat} {us us' os : List Nat} (hlo : k < os.length) (hku : k ≤ us.length) (hlu : us'.length = us.length) (ht : us'.take k = us.take k) (hS : val (us.drop k) = S) (hS' : val (us'.drop k) = S % V)
    (h : X = val (os.drop (k + 1)) * V * 4294967296 ^ (k + 1) + val us) : X = val ((os.set k (S / V)).drop k) * V * 4294967296 ^ k + val us' := by
  have h1 := val_split us k hku
  have h2 := val_split us' k (by omega)
  rw [ht, hS'] at h2
  rw [hS] at h1
  rw [val_drop _ k (by simpa using hlo), drop_set_self, List.getD_eq_getElem?_getD, List.getElem?_set_self hlo, Option.getD_some, h, h1, h2]
  have e := Nat.div_add_mod S V
  rw [Nat.pow_succ]
  generalize val (os.drop (k + 1)) = O at *
  generalize val (us.take k) = T at *
  generalize 4294967296 ^ k = P at *
  generalize S / V = Q at *
  generalize S % V = R at *
  subst e
  grind

theorem div_end {a b n O U : Nat} (h : a * 2 ^ n = O * (b * 2 ^ n) + U) (hU : U < b * 2 ^ n) : O = a / b ∧ U / 2 ^ n = a % b := by
  have hp := Nat.two_pow_pos n
  generalize 2 ^ n = P at *
  have hle : O * b ≤ a := by
    apply Nat.le_of_mul_le_mul_right _ hp
    rw [Nat.mul_assoc]; omega
  obtain ⟨r, rfl⟩ := Nat.exists_eq_add_of_le hle
  have hUr : U = r * P := by
    rw [Nat.add_mul, Nat.mul_assoc] at h; omega
  subst hUr
  have hr : r < b := Nat.lt_of_mul_lt_mul_right hU
  rw [Nat.mul_div_cancel _ hp]
  refine ⟨?_, ?_⟩
  · rw [Nat.mul_comm, Nat.mul_add_div (by omega), Nat.div_eq_of_lt hr, Nat.add_zero]
  · rw [Nat.mul_comm, Nat.mul_add_mod, Nat.mod_eq_of_lt hr]

set_option maxRecDepth 100000 in
set_option maxHeartbeats 1600000 in
theorem div_calls {w : World} {u v : Value} {a b : Nat} (hu : RV w u (dig a)) (hv : RV w v (dig b)) (hb : 0 < b) (hla : (dig a).length < 1073741823) (hlb : (dig b).length < 1073741823) :
    Calls Tryz.prog 156 #[u, v] w fun e w' => ∃ q r, e = .returned (.tuple #[q, r]) ∧ OV w.heap.size w' q (dig (a / b)) ∧ OV w.heap.size w' r (dig (a % b)) ∧ Ext w w' := by
  rcases Nat.lt_or_ge a b with hab | hab
  · have HU := Aside.mk hu
    have HV := Aside.mk hv
    have HQ := Aside.mk (show dig (a / b) = [] by rw [Nat.div_eq_of_lt hab, dig_zero])
    have HR := Aside.mk (show a % b = a from Nat.mod_eq_of_lt hab)
    have hcmp : cmpN a b = -1 := by simp [cmpN, hab]
    clear hu hv
    go_enter Tryz.func156, Tryz.ntmps156
    go_wp2_with (first | (go_at_call 173; refine (compare_calls HU.out HV.out).mono ?_; rintro e w' ⟨rfl, n, rfl⟩) | (go_at_call 129; refine (clone_calls (HU.out.ext ((Ext.refl _).drewN _))).mono ?_; rintro e w' ⟨r, rfl, hr, he⟩; have HO := Aside.mk hr; have HE := Aside.mk he; clear hr he))
    go_ret2
    exact ⟨_, _, rfl, by rw [HQ.out]; exact OV.nil _ _, by rw [HR.out]; exact HO.out, HE.out.trans' ((Ext.refl _).drewN _)⟩
  have hcmp : decide (cmpN a b < 0) = false := by
    unfold cmpN; rw [if_neg (by omega)]; split <;> rfl
  rcases Nat.lt_or_ge (dig b).length 2 with hl1 | hl2
  · have hb1 : b < 4294967296 := by have := lt_of_dig_length (n := b) (k := 1) (by omega); simpa using this
    have hdb : dig b = [b] := by rw [dig_pos (by omega), Nat.mod_eq_of_lt hb1, Nat.div_eq_of_lt hb1, dig_zero]
    have HV := Aside.mk hv
    rw [hdb] at hv
    obtain ⟨B, d, rfl, hdc, hdd, hdr⟩ := hv
    obtain ⟨bd, rfl, hcell⟩ := Rd.at32 hdr 0 (by simp)
    simp only [List.length_singleton] at HV hdc
    have hcell' : w.cell? bd = some (.int .u32 (b : Int)) := by
      have e : bd.add 0 = bd := by unfold Addr.add; split <;> simp_all
      rw [e] at hcell; simpa using hcell
    have HU := Aside.mk hu
    have hla' : (dig a).length ≤ 1073741824 := hu.dg.1
    clear hu hdd hdr hdb hcell hab hl1
    go_enter Tryz.func156, Tryz.ntmps156
    go_wp2_with (first | (go_at_call 173; refine (compare_calls HU.out HV.out).mono ?_; rintro e w' ⟨rfl, n, rfl⟩) | (go_at_call 157; refine (short_dig (HU.out.ext ((Ext.refl _).drewN n)) hb1 hb).mono ?_; rintro e w2 ⟨r, rfl, hr, he⟩; have HO := Aside.mk hr; have HE := Aside.mk he; clear hr he; have ho2 := OV.lit w2 [a % b] (by simp) (Ds.cons (Nat.lt_of_lt_of_le (Nat.mod_lt _ hb) (Nat.le_of_lt hb1)) Ds.nil); simp only [u32s, List.map_cons, List.map_nil, List.length_singleton] at ho2; have HO2 := Aside.mk ho2; clear ho2) | (go_at_call 174; refine (trim_calls HO2.out).mono ?_; rintro e w3 ⟨r3, rfl, hr3, rfl⟩; have HO3 := Aside.mk hr3; clear hr3))
    go_ret2
    have HE2 : Ext w w2 := HE.out.trans' ((Ext.refl _).drewN n)
    have HB2 := HE2.size
    refine ⟨r, r3, rfl, (HO.out.mono (Nat.le_refl _)).alloc _, ?_, HE2.alloc _⟩
    have h := HO3.out.mono HB2
    simpa [val] using h
  · obtain ⟨s, hs⟩ : ∃ s, (dig b).length = s + 2 := ⟨(dig b).length - 2, by omega⟩
    obtain ⟨t, ht⟩ : ∃ t, (dig b).getD (s + 1) 0 = t := ⟨_, rfl⟩
    have ht4 : t < 4294967296 := by rw [← ht]; exact Ds.get (ds_dig b) _
    have ht0 : 0 < t := by
      have := nz_dig b (by intro h; rw [h] at hs; simp at hs)
      rw [hs, show s + 2 - 1 = s + 1 from rfl, ht] at this
      omega
    obtain ⟨n, hn, hn1, hn2, hlead⟩ := lead t ht0 ht4
    obtain ⟨hVl, hV1⟩ := normed hs hn (by rw [ht]; exact hn1) (by rw [ht]; exact hn2)
    have hlab : (dig b).length ≤ (dig a).length := dig_length_le (Nat.lt_of_le_of_lt hab (lt_of_dig_length (Nat.le_refl _)))
    have HU := Aside.mk hu
    have HVV := Aside.mk hv
    obtain ⟨B, d, rfl, hdc, hdd, hdr⟩ := hv
    obtain ⟨s1, hs1⟩ : ∃ s1, s + 1 = s1 := ⟨_, rfl⟩
    rw [hs1] at ht hV1
    obtain ⟨bd, rfl, hcell⟩ := Rd.at32 hdr s1 (by omega)
    rw [ht] at hcell
    obtain ⟨z, hz⟩ : ∃ z, (dig b).length = z := ⟨_, rfl⟩
    rw [hz] at hdc HVV hlab
    have hz1 : (z : Int) - 1 = (s1 : Int) := by omega
    have hzne : ((z : Int) == 1) = false := by simp; omega
    have hzb : z < 1073741823 := by omega
    have hs1z : s1 < z := by omega
    have hss1 : s < s1 := by omega
    have hS1 := Aside.mk hs1
    obtain ⟨la, hla2⟩ : ∃ la, (dig a).length = la := ⟨_, rfl⟩
    rw [hla2] at hla hlab
    have HLA := Aside.mk hla2
    have HS := Aside.mk hs
    have HZS := Aside.mk (show z = s + 2 by omega)
    have HZ := Aside.mk hz
    have HVL := Aside.mk hVl
    clear hu hdd hdr hs ht hs1 hlb hl2 hn1 hn2 hz hVl hla2
    rw [HZ.out]
    go_enter Tryz.func156, Tryz.ntmps156
    go_wp2_with (first | (go_at_call 173; refine (compare_calls HU.out HVV.out).mono ?_; rintro e w' ⟨rfl, n0, rfl⟩) | (go_at_call 175; refine (lead_calls ht4 hlead).mono ?_; rintro e w' ⟨rfl, rfl⟩))
    refine (left_calls (HU.out.ext ((Ext.refl _).drewN n0)) hn (by rw [HLA.out]; omega)).mono ?_
    rintro e w1 ⟨uu, us0, rfl, hul, huv, huo, hb1⟩
    have HB1 : Aside (Ext w w1) := ⟨hb1.trans' ((Ext.refl _).drewN n0)⟩
    obtain ⟨gu, cu, rfl, hgu, hgu1, hcu, _⟩ := huo.row (by omega)
    obtain ⟨nu, hnu⟩ : ∃ nu, us0.length = nu := ⟨_, rfl⟩
    rw [hnu] at huo hcu
    have hguw : w.heap.size ≤ gu := hgu
    have HUO : Aside (OV w.heap.size w1 (.slice (some ⟨gu, 0, none⟩) nu cu) us0) := ⟨huo⟩
    have HUV := Aside.mk (show val us0 = a * 2 ^ n by rw [huv, val_dig])
    have hnula : nu = la + 1 := by rw [← hnu, hul, HLA.out]
    have HNULA := Aside.mk hnula
    have hnub : nu < 1073741824 := by omega
    have hnuz : z < nu := by omega
    have HUL := Aside.mk hnu
    clear hul huv huo hb1 hgu hnu hnula
    rw [HUL.out]
    go_wp2_with fail
    refine (left_calls (HVV.out.ext HB1.out) hn (by rw [HZ.out]; omega)).mono ?_
    rintro e w2 ⟨vv0, vs0, rfl, hvl, hvv, hvo, hb2⟩
    have HB2 : Aside (Ext w w2) := ⟨HB1.out.trans hb2⟩
    have HUO2 : Aside (OV w.heap.size w2 (.slice (some ⟨gu, 0, none⟩) nu cu) us0) := ⟨HUO.out.ext hb2⟩
    have HVO := Aside.mk hvo
    have HVV' := Aside.mk (show val vs0 = b * 2 ^ n by rw [hvv, val_dig])
    have hw12 := hb2.size
    clear hvl hvv hvo hb2
    go_wp2_with fail
    refine (trim_calls HVO.out).mono ?_
    rintro e w2' ⟨vv, rfl, hvo, rfl⟩
    rw [HVV'.out] at hvo
    have hVp : 0 < b * 2 ^ n := Nat.mul_pos hb (Nat.two_pow_pos n)
    obtain ⟨V, hV⟩ : ∃ V, b * 2 ^ n = V := ⟨_, rfl⟩
    have hvl := HVL.out
    rw [hV] at hvo hV1 hVp hvl
    obtain ⟨vs, hvs⟩ : ∃ vs, dig V = vs := ⟨_, rfl⟩
    rw [hvs] at hvo hV1 hvl
    have hvval : val vs = V := by rw [← hvs, val_dig]
    obtain ⟨gv, cv, rfl, hgv, hgv1, hcv, _⟩ := hvo.row (by omega)
    have hvlz : vs.length = z := by rw [hvl, ← HS.out, HZ.out]
    rw [hvlz] at hvo hcv
    have HVO2 := Aside.mk hvo
    have HVAL := Aside.mk hvval
    have HVLZ := Aside.mk hvlz
    have HVEQ := Aside.mk hV
    have hv1d := hvo.1.get s1
    have hv2d := hvo.1.get s
    have hcv1 := hvo.cell s1 (by omega)
    have hcv2 := hvo.cell s (by omega)
    obtain ⟨v1, hv1⟩ : ∃ v1, vs.getD s1 0 = v1 := ⟨_, rfl⟩
    obtain ⟨v2, hv2⟩ : ∃ v2, vs.getD s 0 = v2 := ⟨_, rfl⟩
    rw [hv1] at hv1d hcv1 hV1
    rw [hv2] at hv2d hcv2
    have HV1 := Aside.mk hv1
    have HV2 := Aside.mk hv2
    obtain ⟨ql, hnq⟩ : ∃ ql, nu - z = ql := ⟨_, rfl⟩
    have hnqi : (nu : Int) - (z : Int) = (ql : Int) := by omega
    have hnqp : 0 < ql := by omega
    have hnqb : ql + z = nu := by omega
    clear hvo hvl hvs hvval hvlz hV hv1 hv2 hnq HVL HVO HVV'
    rw [HVLZ.out]
    go_wp2_with (refine make_u32 _ rfl _ _ rfl ql _ _ rfl rfl rfl rfl (by omega) ?_; intro w3 gg hz0 hb3 hz1; subst hz1; have HQ0 := Aside.mk hz0; have HB3 := Aside.mk hb3; clear hz0 hb3)
    have HR0 : Aside (DivRows w w3 gu w2.heap.size w1.heap.size nu ql cu (.slice (some ⟨gv, 0, none⟩) z cv) us0 vs (List.replicate ql 0)) := ⟨{
      u := HUO2.out.ext HB3.out, v := HVO2.out.ext HB3.out, o := HQ0.out.mono HB2.out.size, lu := HUL.out, lo := by simp, hgu := hguw, hgub := hgu1, hgq := HB2.out.size, ne := by omega, nv := by intro hh; injection hh with hh; exact absurd hh (show gv ≠ w2.heap.size by omega), e := HB2.out.trans HB3.out }⟩
    have HF : Aside (val (us0.drop ql) < V) := ⟨by
      have h := first_rest (lx := la) (s := s) (V := V) (n := n) (x := a) (by rw [HUL.out, HNULA.out]) HUV.out (by have := lt_of_dig_length (n := a) (Nat.le_refl _); rwa [HLA.out] at this) hn (by have := HZS.out; omega) (by
        have h1 := top2 (xs := vs) (s := s) (by rw [HVLZ.out, ← HZ.out, HS.out])
        rw [HVAL.out, hS1.out, HV1.out, HV2.out, Nat.add_mul, Nat.mul_assoc] at h1
        have h2 := Nat.mul_le_mul_right (4294967296 * 4294967296 ^ s) hV1
        rw [Nat.pow_succ, Nat.mul_comm (4294967296 ^ s)]
        omega)
      rwa [show la + 1 - (s + 2) = ql from by have := HZS.out; have := HNULA.out; omega] at h⟩
    clear hcv1 hcv2
    go_loopw [13] (fun i wr => ∃ (k : Nat) (us os : List Nat), k ≤ ql ∧ i = .int .i64 ((k : Int) - 1) ∧ Aside (DivRows w wr gu w2.heap.size w1.heap.size nu ql cu (.slice (some ⟨gv, 0, none⟩) z cv) us vs os) ∧
      Aside (a * 2 ^ n = val (os.drop k) * V * 4294967296 ^ k + val us) ∧ Aside (val (us.drop k) < V)) (fun i _ => (intOf i + 1).toNat)
    case atStart => exact ⟨ql, us0, _, Nat.le_refl _, rfl, HR0, ⟨by rw [show (List.replicate ql 0).drop ql = [] from by simp, HUV.out]; simp [val]⟩, HF⟩
    case round =>
      obtain ⟨k, us, os, hk, rfl, HR, HE, HF⟩ := hrel
      clear HR0 HQ0 HB3
      cases k with
      | zero =>
        have HD := Aside.mk (div_end (a := a) (b := b) (n := n) (O := val os) (U := val us) (by simpa [HVEQ.out] using HE.out) (by rw [HVEQ.out]; simpa using HF.out))
        have HN := Aside.mk hn
        have hE0 := Aside.mk HR.out.e
        have hOO := Aside.mk HR.out.o
        have hUU := Aside.mk HR.out.u
        clear hab hb hcmp ht4 ht0 hn hlead hcell hdc hz1 hzne hzb hs1z hss1 hlab hla hgu1 hcu hguw hnub hnuz hw12 hVp hgv hgv1 hcv hV1 hv1d hv2d hnqi hnqp hnqb hk
        go_wp2_with (first | (go_at_call 174; with_reducible refine (trim_calls hOO.out).mono ?_; rintro e w' ⟨r, rfl, hr, rfl⟩; have HO := Aside.mk hr; clear hr) | (go_at_call 174; with_reducible refine (trim_calls hUU.out).mono ?_; rintro e w' ⟨r2, rfl, hr, rfl⟩; have HO2 := Aside.mk hr; clear hr) | (go_at_call 179; refine (right_calls HO2.out.rv HN.out).mono ?_; rintro e w5 ⟨r3, rfl, hr, he⟩; have HO3 := Aside.mk hr; have HE3 := Aside.mk he; clear hr he))
        go_ret2
        have hE := hE0.out
        have hD := HD.out
        refine ⟨_, _, rfl, ?_, ?_, hE.trans HE3.out⟩
        · have h := HO.out.ext HE3.out
          rwa [hD.1] at h
        · have h := HO3.out.mono hE.size
          rwa [val_dig, hD.2] at h
      | succ k =>
        have hkz : k + z < nu := by omega
        obtain ⟨x2, hx2⟩ : ∃ x, us.getD (k + z) 0 = x := ⟨_, rfl⟩
        obtain ⟨x1, hx1⟩ : ∃ x, us.getD (k + s1) 0 = x := ⟨_, rfl⟩
        obtain ⟨x0, hx0⟩ : ∃ x, us.getD (k + s) 0 = x := ⟨_, rfl⟩
        have hx24 : x2 < 4294967296 := hx2 ▸ HR.out.u.1.get _
        have hx14 : x1 < 4294967296 := hx1 ▸ HR.out.u.1.get _
        have hx04 : x0 < 4294967296 := hx0 ▸ HR.out.u.1.get _
        have hc2 := HR.out.u.cell (k + z) (by rw [HR.out.lu]; omega)
        have hc1 := HR.out.u.cell (k + s1) (by rw [HR.out.lu]; omega)
        have hc0 := HR.out.u.cell (k + s) (by rw [HR.out.lu]; omega)
        have hcv1 := HR.out.v.cell s1 (by rw [HVLZ.out]; omega)
        have hcv2 := HR.out.v.cell s (by rw [HVLZ.out]; omega)
        rw [hx2] at hc2
        rw [hx1] at hc1
        rw [hx0] at hc0
        rw [HV1.out] at hcv1
        rw [HV2.out] at hcv2
        have hks1 : (k : Int) + (z : Int) - 1 = (k : Int) + (s1 : Int) := by omega
        have hks : (k : Int) + (z : Int) - 2 = (k : Int) + (s : Int) := by have := HZS.out; omega
        have hzs2 : (z : Int) - 2 = (s : Int) := by have := HZS.out; omega
        have hor := or_shift32 x2 x1 hx24 hx14
        obtain ⟨two, htwo⟩ : ∃ two, x2 * 4294967296 + x1 = two := ⟨_, rfl⟩
        rw [htwo] at hor
        have htwob : two < 18446744073709551616 := by omega
        obtain ⟨S, hS⟩ : ∃ S, val (us.drop k) = S := ⟨_, rfl⟩
        have HRD : Aside (Round S V (4294967296 ^ s) v1 v2 (val (vs.take s)) two x0 (val ((us.drop k).take s))) := ⟨by
          have hr := round_of (us := us) (vs := vs) (i := k) (s := s) HR.out.u.1.2 HR.out.v.1.2 (by rw [HVLZ.out, ← HZ.out, HS.out]) (by rw [hS1.out, HV1.out]; exact hV1) (by
            rw [HVAL.out, val_drop us k (by rw [HR.out.lu]; omega)]
            have h1 := HF.out
            have h2 : us.getD k 0 < 4294967296 := HR.out.u.1.get _
            omega) (by rw [HR.out.lu]; have := HZS.out; omega)
          rw [hS, HVAL.out, hS1.out, HV1.out, HV2.out, hx0, hx1, show k + (s + 2) = k + z from by have := HZS.out; omega, hx2, htwo] at hr
          exact hr⟩
        have HSS := Aside.mk hS
        have hv10 : ((v1 : Int) == 0) = false := by simp; omega
        obtain ⟨q0, hq0⟩ : ∃ q, two / v1 = q := ⟨_, rfl⟩
        obtain ⟨r0, hr0⟩ : ∃ r, two % v1 = r := ⟨_, rfl⟩
        have hdiv : (two : Int) / (v1 : Int) = (q0 : Int) := by rw [← hq0]; simp
        have hmod : (two : Int) % (v1 : Int) = (r0 : Int) := by rw [← hr0]; simp
        have HG0 : Aside (Round.Guess S V v1 two q0 r0) := ⟨by rw [← hq0, ← hr0]; exact HRD.out.start⟩
        have hr0b : r0 < v1 := by rw [← hr0]; exact Nat.mod_lt _ (by omega)
        have HX0 := Aside.mk hx0
        clear htwo hS hq0 hr0 hx2 hx1 hx0
        go_wp2
        go_quiet (fail)
        go_wp2
        go_quiet (fail)
        have hq0w : IntKind.u64.wrap (q0 : Int) = (q0 : Int) := by
          have h1 := HRD.out.guess_le HG0.out
          rw [wrap_u64]; omega
        simp only [hmod, hq0w]
        clear hq0w hmod hdiv hor hc2 hc1 hcv1
        go_upto_block 2 with (fail)
        go_cut [15, 16] (fun qv rv wx => ∃ q : Nat, qv = .int .u64 (q : Int) ∧ q < 4294967296 ∧ Aside (S / V ≤ q ∧ q ≤ S / V + 1) ∧ Aside (DivRows w wx gu w2.heap.size w1.heap.size nu ql cu (.slice (some ⟨gv, 0, none⟩) z cv) us vs os))
        case first =>
          have hr0B : r0 < 4294967296 := by omega
          have hksn : k + s < nu := by omega
          have hsz : s < z := by omega
          have hw1 : IntKind.i64.wrap (s1 : Int) = (s1 : Int) := wrap_i64 _ (by omega) (by omega)
          have hw0 : IntKind.i64.wrap (s : Int) = (s : Int) := wrap_i64 _ (by omega) (by omega)
          have hwkz : IntKind.i64.wrap ((k : Int) + (z : Int)) = (k : Int) + (z : Int) := wrap_i64 _ (by omega) (by omega)
          have hwks : IntKind.i64.wrap ((k : Int) + (s : Int)) = (k : Int) + (s : Int) := wrap_i64 _ (by omega) (by omega)
          clear hb hab hcmp ht4 ht0 hn hlead HU hcell HVV hdc hzne hzb hlab hla HLA HS HZS HZ HB1 hcu hguw HUO HUV HNULA hnub hnuz HUL HB2 HUO2 hw12 hgv hgv1 HVO2 HVAL HVEQ hnqi hnqp hk HE HF hkz hx24 hx14 htwob HSS hv10 hr0b hss1 hS1
          go_wp2
          go_loopw [15, 16] (fun qv rv wx => ∃ q r : Nat, qv = .int .u64 (q : Int) ∧ rv = .int .u64 (r : Int) ∧ r < 4294967296 ∧ Aside (Round.Guess S V v1 two q r) ∧ Aside (DivRows w wx gu w2.heap.size w1.heap.size nu ql cu (.slice (some ⟨gv, 0, none⟩) z cv) us vs os)) (fun qv _ _ => (intOf qv).toNat)
          case atStart => exact ⟨q0, r0, rfl, rfl, hr0B, HG0, ⟨(HR.out.drewN _).drewN _⟩⟩
          case round =>
            obtain ⟨q, r, rfl, rfl, hr, HG, HR'⟩ := hrel
            have hqb := HRD.out.guess_le HG.out
            have hcv1 := HR'.out.v.cell s1 (by rw [HVLZ.out]; omega)
            have hcv2 := HR'.out.v.cell s (by rw [HVLZ.out]; omega)
            have hc0 := HR'.out.u.cell (k + s) (by rw [HR'.out.lu]; omega)
            rw [HV1.out] at hcv1
            rw [HV2.out] at hcv2
            clear HR HG0
            rcases Nat.lt_or_ge q 4294967296 with hqB | hqB
            · have hx0 : us.getD (k + s) 0 = x0 := HX0.out
              rw [hx0] at hc0
              have hqv : q * v2 ≤ 4294967295 * 4294967295 := Nat.mul_le_mul (by omega) (by omega)
              obtain ⟨pr, hpr⟩ : ∃ pr, q * v2 = pr := ⟨_, rfl⟩
              have hpri : (q : Int) * (v2 : Int) = (pr : Int) := by rw [← hpr]; simp
              rw [hpr] at hqv
              have hprw : IntKind.u64.wrap (pr : Int) = (pr : Int) := by rw [wrap_u64]; omega
              have hv2w : IntKind.u64.wrap (v2 : Int) = (v2 : Int) := by rw [wrap_u64]; omega
              have hx0w : IntKind.u64.wrap (x0 : Int) = (x0 : Int) := by rw [wrap_u64]; omega
              have hrw : IntKind.u64.wrap ((r : Int) * 4294967296) = (r : Int) * 4294967296 := by rw [wrap_u64]; omega
              have hor := or_shift32 r x0 hr hx04
              obtain ⟨rx, hrx⟩ : ∃ rx, r * 4294967296 + x0 = rx := ⟨_, rfl⟩
              rw [hrx] at hor
              have HQB := Aside.mk hqB
              rcases Nat.lt_or_ge rx pr with hlt | hlt
              · have hgt : decide ((rx : Int) < (pr : Int)) = true := by simp; omega
                have hgt' : decide (rx < pr) = true := by simp; omega
                clear hx0
                obtain ⟨hq0, hG'⟩ := HRD.out.less HG.out (.inr (by rw [hpr, hrx]; exact hlt))
                obtain ⟨q', hq'⟩ : ∃ q', q - 1 = q' := ⟨_, rfl⟩
                obtain ⟨r', hr'⟩ : ∃ r', r + v1 = r' := ⟨_, rfl⟩
                have hq1 : IntKind.u64.wrap ((q : Int) - 1) = (q' : Int) := by rw [wrap_u64]; omega
                have hrv : IntKind.u64.wrap ((r : Int) + (v1 : Int)) = (r' : Int) := by rw [wrap_u64]; omega
                have hv1w : IntKind.u64.wrap (v1 : Int) = (v1 : Int) := by rw [wrap_u64]; omega
                rw [hq', hr'] at hG'
                have hqq : q' < q := by omega
                have HG' := Aside.mk hG'
                rcases Nat.lt_or_ge r' 4294967296 with hrB | hrB
                · skip
                  have HRB := Aside.mk hrB
                  clear hG' hq' hr' hqb hrB hr hv1d hv2d hV1 hx04 hr0B hgu1 hqB hqv hpr hrx hlt
                  go_wp2
                  have hge : ¬ ((4294967296 : Int) ≤ (q : Int)) := by have := HQB.out; omega
                  go_quiet (fail)
                  clear hge hgt hgt' hor hpri hprw hv2w hx0w hrw
                  have hge2 : ¬ ((4294967296 : Int) ≤ (r' : Int)) := by have := HRB.out; omega
                  go_wp2
                  go_roundw
                  case rel => exact ⟨q', r', rfl, rfl, HRB.out, HG', ⟨HR'.out.drewN _⟩⟩
                  case measure => simp [intOf]; omega
                · have hge2 : (4294967296 : Int) ≤ (r' : Int) := by omega
                  have HF : Aside (q' < 4294967296 ∧ S / V ≤ q' ∧ q' ≤ S / V + 1) := ⟨by
                    have h1 := HRD.out.small hG' hrB
                    exact ⟨h1, hG'.ge, HRD.out.stay hG' h1 (.inl hrB)⟩⟩
                  clear hG' hq' hr' hqb hrB hr hv1d hv2d hV1 hx04 hr0B hgu1 hqB hqv hpr hrx hlt
                  go_wp2
                  have hge : ¬ ((4294967296 : Int) ≤ (q : Int)) := by have := HQB.out; omega
                  go_quiet (fail)
                  clear hge hgt hgt' hor hpri hprw hv2w hx0w hrw
                  go_wp2
                  go_meet
                  exact ⟨q', rfl, HF.out.1, ⟨HF.out.2⟩, ⟨HR'.out.drewN _⟩⟩
              · have hgt : decide ((rx : Int) > (pr : Int)) = false ∨ True := .inr trivial
                have hng : decide ((rx : Int) < (pr : Int)) = false := by simp; omega
                have hng' : decide (rx < pr) = false := by simp; omega
                have HF : Aside (q < 4294967296 ∧ S / V ≤ q ∧ q ≤ S / V + 1) := ⟨⟨hqB, HG.out.ge, HRD.out.stay HG.out hqB (.inr (by rw [hpr, hrx]; exact hlt))⟩⟩
                clear hgt hx0 hqb hr hv1d hv2d hV1 hx04 hr0B hgu1 hqB hqv hpr hrx hlt
                go_wp2
                have hge : ¬ ((4294967296 : Int) ≤ (q : Int)) := by have := HQB.out; omega
                go_quiet (fail)
                clear hge hor
                go_wp2
                go_meet
                exact ⟨q, rfl, HF.out.1, ⟨HF.out.2⟩, ⟨HR'.out.drewN _⟩⟩
            · have hge : (4294967296 : Int) ≤ (q : Int) := by omega
              obtain ⟨hq0, hG'⟩ := HRD.out.less HG.out (.inl hqB)
              obtain ⟨q', hq'⟩ : ∃ q', q - 1 = q' := ⟨_, rfl⟩
              obtain ⟨r', hr'⟩ : ∃ r', r + v1 = r' := ⟨_, rfl⟩
              have hq1 : IntKind.u64.wrap ((q : Int) - 1) = (q' : Int) := by rw [wrap_u64]; omega
              have hrv : IntKind.u64.wrap ((r : Int) + (v1 : Int)) = (r' : Int) := by rw [wrap_u64]; omega
              have hv1w : IntKind.u64.wrap (v1 : Int) = (v1 : Int) := by rw [wrap_u64]; omega
              rw [hq', hr'] at hG'
              have hqq : q' < q := by omega
              have HG' := Aside.mk hG'
              have HQB := Aside.mk hqB
              rcases Nat.lt_or_ge r' 4294967296 with hrB | hrB
              · skip
                have HRB := Aside.mk hrB
                clear hG' hq' hr' hqb hrB hr hv1d hv2d hV1 hx04 hr0B hgu1 hqB
                go_wp2
                go_quiet (fail)
                clear hge
                have hge2 : ¬ ((4294967296 : Int) ≤ (r' : Int)) := by have := HRB.out; omega
                go_wp2
                go_roundw
                case rel => exact ⟨q', r', rfl, rfl, HRB.out, HG', ⟨HR'.out.drewN _⟩⟩
                case measure => simp [intOf]; omega
              · have hge2 : (4294967296 : Int) ≤ (r' : Int) := by omega
                have HF : Aside (q' < 4294967296 ∧ S / V ≤ q' ∧ q' ≤ S / V + 1) := ⟨by
                  have h1 := HRD.out.small hG' hrB
                  exact ⟨h1, hG'.ge, HRD.out.stay hG' h1 (.inl hrB)⟩⟩
                clear hG' hq' hr' hqb hrB hr hv1d hv2d hV1 hx04 hr0B hgu1 hqB
                go_wp2
                go_quiet (fail)
                clear hge
                go_wp2
                go_meet
                exact ⟨q', rfl, HF.out.1, ⟨HF.out.2⟩, ⟨HR'.out.drewN _⟩⟩
        case rest =>
          obtain ⟨q, rfl, hq, HQ, HRr⟩ := hcut
          have hwkz : IntKind.i64.wrap ((k : Int) + (z : Int)) = (k : Int) + (z : Int) := wrap_i64 _ (by omega) (by omega)
          have hwkz1 : IntKind.i64.wrap ((k : Int) + (z : Int) + 1) = (k : Int) + (z : Int) + 1 := wrap_i64 _ (by omega) (by omega)
          have HQw : Aside (IntKind.u32.wrap (q : Int) = (q : Int)) := ⟨by rw [wrap_u32]; omega⟩
          have HKZ := Aside.mk hkz
          have HKQ := Aside.mk (show k < ql by omega)
          have HQB := Aside.mk hq
          have HVP := Aside.mk hVp
          have HSV : Aside (S < 4294967296 ^ (z + 1)) := ⟨by
            have h1 := HRD.out.hSV
            have h2 := val_lt HRr.out.v.1.2
            rw [HVLZ.out, HVAL.out] at h2
            rw [Nat.pow_succ]; omega⟩
          clear hdc hzne hlab hla hw12 hgv hgv1 hV1 hv1d hv2d hnqi hnqp hx24 hx14 hx04 htwob hr0b hv10 hc0 hcv2 hq
          go_wp2_with fail
          rw [show k + z + 1 - k = z + 1 from by omega]
          refine (HRr.out.take (by have := HKZ.out; omega) HVLZ.out HQB.out HQ.out HSS.out HVAL.out HVP.out HSV.out).mono ?_
          rintro e w4 ⟨l, us4, rfl, hl, hr4, ht4', hdr4, hl0, hl1, hsm⟩
          have HR4 := Aside.mk hr4
          have HT4 := Aside.mk ht4'
          have HSM := Aside.mk hsm
          have HL0 := Aside.mk hl0
          have HL1 := Aside.mk hl1
          clear hr4 ht4' hdr4 hsm hl0 hl1
          obtain rfl | rfl : l = 0 ∨ l = 1 := by omega
          · have H0 := Aside.mk (HL0.out rfl)
            have hqw := HQw.out
            have hkq := HKQ.out
            have hcell := HR4.out.o.cell k (by rw [HR4.out.lo]; exact hkq)
            have hfree := HR4.out.o.free k
            have hk1 : ((k + 1 : Nat) : Int) - 1 = (k : Int) := by omega
            clear HL0 HL1
            go_wp2
            refine ⟨⟨k, us4, os.set k q, Nat.le_of_lt hkq, rfl, ⟨HR4.out.store HQB.out⟩, ⟨?_⟩, ⟨?_⟩⟩, ?_⟩
            · rw [H0.out.1]
              exact div_next (by rw [HR.out.lo]; exact hkq) (by rw [HR.out.lu]; omega) (by rw [HR4.out.lu, HR.out.lu]) HT4.out HSS.out H0.out.2 HE.out
            · rw [H0.out.2]; exact Nat.mod_lt _ HVP.out
            · simp [intOf] <;> omega
          · have H0 := Aside.mk (HL1.out rfl)
            obtain ⟨q1, hq1⟩ : ∃ q1, q - 1 = q1 := ⟨_, rfl⟩
            have hqe := H0.out.1
            have HQE : Aside (q1 = S / V) := ⟨by generalize S / V = t at *; omega⟩
            have hq1q : q = q1 + 1 := by generalize S / V = t at *; omega
            clear hqe
            have HQ1B : Aside (q1 < 4294967296) := ⟨by have := HQB.out; omega⟩
            have hq1w : IntKind.u64.wrap ((q : Int) - 1) = (q1 : Int) := by rw [wrap_u64]; have := HQB.out; omega
            have HQW1 : Aside (IntKind.u32.wrap (q1 : Int) = (q1 : Int)) := ⟨by rw [wrap_u32]; have := HQ1B.out; omega⟩
            have hk1 : ((k + 1 : Nat) : Int) - 1 = (k : Int) := by omega
            have hwkz : IntKind.i64.wrap ((k : Int) + (z : Int)) = (k : Int) + (z : Int) := wrap_i64 _ (by omega) (by omega)
            have hwkz1 : IntKind.i64.wrap ((k : Int) + (z : Int) + 1) = (k : Int) + (z : Int) + 1 := wrap_i64 _ (by omega) (by omega)
            have hkz := HKZ.out
            clear HL0 HL1 hq1 hq1q
            go_wp2_with fail
            rw [show k + z + 1 - k = z + 1 from by omega]
            refine (HR4.out.give (by have := HKZ.out; omega) HVLZ.out H0.out.2 HVAL.out HVP.out HSM.out).mono ?_
            rintro e w5 ⟨us5, rfl, hr5, ht5, hs5⟩
            have HR5 := Aside.mk hr5
            have HT5 := Aside.mk ht5
            have HS5 := Aside.mk hs5
            clear hr5 ht5 hs5
            have hqw := HQW1.out
            have hkq := HKQ.out
            have hcell := HR5.out.o.cell k (by rw [HR5.out.lo]; exact hkq)
            have hfree := HR5.out.o.free k
            have hk1 : ((k + 1 : Nat) : Int) - 1 = (k : Int) := by omega
            go_wp2
            refine ⟨⟨k, us5, os.set k q1, Nat.le_of_lt hkq, rfl, ⟨HR5.out.store HQ1B.out⟩, ⟨?_⟩, ⟨?_⟩⟩, ?_⟩
            · rw [HQE.out]
              exact div_next (by rw [HR.out.lo]; exact hkq) (by rw [HR.out.lu]; omega) (by rw [HR5.out.lu, HR.out.lu]) (HT5.out.trans HT4.out) HSS.out HS5.out HE.out
            · rw [HS5.out]; exact Nat.mod_lt _ HVP.out
            · simp [intOf] <;> omega
end Go.Proofs.YtcbaipnphepbeaaGreatDoor

namespace Go.Proofs.YtcbaipnphepbeaaGreatDoor
open Go.RowKit

theorem RV.uniq {w : World} {v : Value} {xs ys : List Nat} (h : RV w v xs) (k : RV w v ys) : xs = ys := by
  obtain ⟨A, c, rfl, _, _, h4⟩ := h
  obtain ⟨A', c', e, _, _, k4⟩ := k
  injection e with e1 e2 e3
  subst e1
  apply List.ext_getElem e2
  intro j hj hj'
  obtain ⟨ad, ha, hc⟩ := h4.at32 j hj
  obtain ⟨ad', ha', hc'⟩ := k4.at32 j hj'
  rw [ha] at ha'
  cases ha'
  rw [hc] at hc'
  simp only [Option.some.injEq, Value.int.injEq, true_and, List.getD_eq_getElem?_getD, List.getElem?_eq_getElem hj, List.getElem?_eq_getElem hj', Option.getD_some] at hc'
  omega

open Classical in
/-- The number that a slice of digits is. -/
noncomputable def numOf (w : World) (v : Value) : Nat := if h : ∃ b, RV w v (dig b) then h.choose else 0
theorem numOf_eq {w : World} {v : Value} {b : Nat} (h : RV w v (dig b)) : numOf w v = b := by
  have h' : ∃ b, RV w v (dig b) := ⟨b, h⟩
  unfold numOf
  rw [dif_pos h']
  exact dig_inj (RV.uniq h'.choose_spec h)

theorem dig_len_mono {a b : Nat} (h : a ≤ b) : (dig a).length ≤ (dig b).length := dig_length_le (Nat.lt_of_le_of_lt h (lt_of_dig_length (Nat.le_refl _)))

set_option maxHeartbeats 400000 in
/-- gcd is the greatest common divisor. -/
theorem gcd_calls {w : World} {u v : Value} {a b : Nat} (hu : RV w u (dig a)) (hv : RV w v (dig b)) (hla : (dig a).length < 1073741823) (hlb : (dig b).length < 1073741823) :
    Calls Tryz.prog 138 #[u, v] w fun e w' => ∃ r, e = .returned r ∧ OV w.heap.size w' r (dig (Nat.gcd a b)) ∧ Ext w w' := by
  have H0 : Aside (RV w u (dig a) ∧ RV w v (dig b) ∧ (dig a).length < 1073741823 ∧ (dig b).length < 1073741823) := ⟨hu, hv, hla, hlb⟩
  clear hu hv hla hlb
  go_enter Tryz.func138, Tryz.ntmps138
  go_wp2
  go_loopw [0, 1] (fun x y wr => ∃ a' b' : Nat, Aside (RV wr x (dig a') ∧ RV wr y (dig b') ∧ (dig a').length < 1073741823 ∧ (dig b').length < 1073741823) ∧ Aside (Nat.gcd a' b' = Nat.gcd a b) ∧ Aside (Ext w wr)) (fun _ y wr => numOf wr y)
  case atStart => exact ⟨a, b, H0, ⟨rfl⟩, ⟨Ext.refl w⟩⟩
  case round =>
    obtain ⟨a', b', H, HG, HE⟩ := hrel
    obtain ⟨B, d, rfl, hdc, hdd, hdr⟩ := id H.out.2.1
    have hl1 : (dig b').length ≤ 1073741824 := hdd.1
    clear hdd hdr
    rcases Nat.eq_zero_or_pos b' with rfl | hb
    · have hz : (dig 0).length = 0 := by rw [dig_zero]; rfl
      have HZ : Aside (a' = Nat.gcd a b) := ⟨by rw [← HG.out, Nat.gcd_zero_right]⟩
      go_wp2_with (go_at_call 129; refine (clone_calls H.out.1).mono ?_; rintro e w' ⟨r, rfl, hr, he⟩; have HO := Aside.mk hr; have HE1 := Aside.mk he; clear hr he)
      go_ret
      exact ⟨r, rfl, by rw [← HZ.out]; exact HO.out.mono HE.out.size, HE.out.trans HE1.out⟩
    · obtain ⟨z, hz⟩ : ∃ z, (dig b').length = z := ⟨_, rfl⟩
      have hz0 : 0 < z := by
        rcases Nat.eq_zero_or_pos z with h0 | h0
        · rw [h0] at hz
          have := dig_nil_iff.1 (List.eq_nil_of_length_eq_zero hz)
          omega
        · exact h0
      have H' := H
      rw [hz] at hdc hl1 H'
      have HZ := Aside.mk hz
      have HB := Aside.mk hb
      rw [hz]
      clear hz hb H
      go_wp2_with (go_at_call 156; refine (div_calls (b := b') (a := a') H'.out.1 (by have := H'.out.2.1; exact this) HB.out H'.out.2.2.1 (by have := H'.out.2.2.2; rw [HZ.out]; exact this)).mono ?_; rintro e w1 ⟨q, r, rfl, hq, hr, he⟩; have HR := Aside.mk hr; have HE1 := Aside.mk he; clear hq hr he)
      go_roundw
      case rel =>
        refine ⟨b', a' % b', ⟨H'.out.2.1.ext HE1.out, HR.out.rv, by rw [HZ.out]; exact H'.out.2.2.2, ?_⟩, ⟨?_⟩, ⟨HE.out.trans HE1.out⟩⟩
        · exact Nat.lt_of_le_of_lt (dig_len_mono (Nat.le_of_lt (Nat.mod_lt _ HB.out))) (by rw [HZ.out]; exact H'.out.2.2.2)
        · rw [← HG.out, Nat.gcd_comm, ← Nat.gcd_rec, Nat.gcd_comm]
      case measure =>
        rw [numOf_eq HR.out.rv, numOf_eq H'.out.2.1]
        exact Nat.mod_lt _ HB.out

/-- The error of a list that is to be a natural number. -/
def natErr (xs : List Nat) : Nat := if 512 < xs.length then 3 else if 0 < xs.length ∧ xs.getD (xs.length - 1) 0 = 0 then 5 else 0
/-- The first error of some. -/
def natErrs : List (List Nat) → Nat
  | [] => 0
  | xs :: ls => if natErr xs = 0 then natErrs ls else natErr xs

theorem natErrs_drop (ls : List (List Nat)) (k : Nat) (h : k < ls.length) : natErrs (ls.drop k) = if natErr (ls.getD k []) = 0 then natErrs (ls.drop (k + 1)) else natErr (ls.getD k []) := by
  rw [List.drop_eq_getElem_cons h, natErrs, List.getD_eq_getElem?_getD, List.getElem?_eq_getElem h]; rfl

set_option maxHeartbeats 800000 in
/-- form looks at numbers. -/
theorem form_calls {w : World} {A : Addr} {n c : Nat} {ls : List (List Nat)} (hl : ls.length = n) (hn : n ≤ 1000) (hc : n ≤ c) (hv : ∀ j, j < n → ∃ v, w.cell? (A.add j) = some v ∧ RV w v (ls.getD j [])) :
    Calls Tryz.prog 136 #[.slice (some A) n c] w fun e w' => e = .returned (.int .i64 (natErrs ls : Int)) ∧ w = w' := by
  have HV := Aside.mk hv
  have HL := Aside.mk hl
  clear hv hl
  go_enter Tryz.func136, Tryz.ntmps136
  go_wp2
  go_loop [7] (fun i => ∃ k : Nat, k ≤ n ∧ i = .int .i64 (k : Int) ∧ Aside (natErrs (ls.drop k) = natErrs ls)) (fun i => n - (intOf i).toNat)
  case atStart => exact ⟨0, by omega, rfl, ⟨by simp⟩⟩
  case round =>
    obtain ⟨k, hk, rfl, HK⟩ := hrel
    rcases Nat.lt_or_ge k n with hkn | hkn
    · obtain ⟨v, hcell, hrv⟩ := HV.out k hkn
      obtain ⟨xs, hxs⟩ : ∃ xs, ls.getD k [] = xs := ⟨_, rfl⟩
      rw [hxs] at hrv
      have HD : Aside (natErrs (ls.drop k) = if natErr xs = 0 then natErrs (ls.drop (k + 1)) else natErr xs) := ⟨by rw [natErrs_drop ls k (by rw [HL.out]; exact hkn), hxs]⟩
      obtain ⟨B, d, rfl, hdc, hdd, hdr⟩ := hrv
      have hl1 : xs.length ≤ 1073741824 := hdd.1
      have HRV := Aside.mk hdr
      obtain ⟨m, hm⟩ : ∃ m, xs.length = m := ⟨_, rfl⟩
      have hne : natErr xs = if 512 < m then 3 else if 0 < m ∧ xs.getD (m - 1) 0 = 0 then 5 else 0 := by rw [natErr, hm]
      rw [hm] at hcell hdc hl1
      have HM := Aside.mk hm
      clear hdd hdr hm
      rcases Nat.lt_or_ge 512 m with h512 | h512
      · have HE : Aside ((natErr xs : Int) = 3) := ⟨by rw [hne, if_pos h512]; rfl⟩
        clear hne hxs
        go_wp2
        go_ret
        refine ⟨?_, rfl⟩
        show Ending.returned (.int .i64 3) = _
        rw [← HK.out, HD.out, if_neg (by have := HE.out; omega), HE.out]
      · rcases Nat.eq_zero_or_pos m with rfl | h0
        · have HE : Aside (natErr xs = 0) := ⟨by rw [hne, if_neg (by omega), if_neg (by omega)]⟩
          clear hne hxs
          go_wp2
          go_round
          case rel => exact ⟨k + 1, hkn, by simp, ⟨by rw [← HK.out, HD.out, if_pos HE.out]⟩⟩
          case measure => simp [intOf]; omega
        · obtain ⟨z, hz⟩ : ∃ z, m = z + 1 := ⟨m - 1, by omega⟩
          obtain ⟨t, ht⟩ : ∃ t, xs.getD z 0 = t := ⟨_, rfl⟩
          obtain ⟨bd, rfl, hcl⟩ := Rd.at32 HRV.out z (by rw [HM.out]; omega)
          rw [ht] at hcl
          have hlen : (m : Int) - 1 = (z : Int) := by omega
          have hzl : z < m := by omega
          have HT : Aside (natErr xs = if t = 0 then 5 else 0) := ⟨by
            rw [hne, if_neg (by omega), hz, show z + 1 - 1 = z from rfl, ht]
            simp⟩
          clear hne hxs hz ht
          rcases Nat.eq_zero_or_pos t with rfl | ht0
          · have HE : Aside ((natErr xs : Int) = 5) := ⟨by rw [HT.out, if_pos rfl]; rfl⟩
            go_wp2
            go_ret
            refine ⟨?_, rfl⟩
            show Ending.returned (.int .i64 5) = _
            rw [← HK.out, HD.out, if_neg (by have := HE.out; omega), HE.out]
          · have HE : Aside (natErr xs = 0) := ⟨by rw [HT.out, if_neg (by omega)]⟩
            have ht1 : ((t : Int) == 0) = false := by simp; omega
            go_wp2
            go_round
            case rel => exact ⟨k + 1, hkn, by simp, ⟨by rw [← HK.out, HD.out, if_pos HE.out]⟩⟩
            case measure => simp [intOf]; omega
    · obtain rfl : k = n := by omega
      have HE : Aside ((natErrs ls : Int) = 0) := ⟨by rw [← HK.out, List.drop_of_length_le (by rw [HL.out]; omega)]; rfl⟩
      go_wp2
      go_ret
      exact ⟨by rw [HE.out]; rfl, rfl⟩

end Go.Proofs.YtcbaipnphepbeaaGreatDoor

namespace Go.Proofs.YtcbaipnphepbeaaGreatDoor
open Go.RowKit

theorem cell_lit {w : World} {t : TypeId} {vs : Array Value} {j : Nat} {v : Value} (h : vs[j]? = some v) : (w.alloc (.cells vs t)).cell? ((⟨w.heap.size, 0, none⟩ : Addr).add j) = some v := by
  rw [add_plain, World.cell?_alloc_new]
  exact h

theorem form1_calls {w : World} {v : Value} {xs : List Nat} {t : TypeId} {m : Nat} (h : RV w v xs) (hm : natErr xs = m) :
    Calls Tryz.prog 136 #[.slice (some ⟨w.heap.size, 0, none⟩) 1 1] (w.alloc (.cells #[v] t)) fun e w' => e = .returned (.int .i64 (m : Int)) ∧ w.alloc (.cells #[v] t) = w' := by
  refine (form_calls (ls := [xs]) (n := 1) rfl (by decide) (by decide) ?_).mono ?_
  · intro j hj
    obtain rfl : j = 0 := by omega
    exact ⟨v, cell_lit (by simp), h.ext ((Ext.refl w).alloc _)⟩
  · rintro e w' ⟨rfl, rfl⟩
    refine ⟨?_, rfl⟩
    simp only [natErrs, hm]
    by_cases h0 : m = 0 <;> simp [h0]
theorem form2_calls {w : World} {u v : Value} {xs ys : List Nat} {t : TypeId} (h : RV w u xs) (k : RV w v ys) (hx : natErr xs = 0) (hy : natErr ys = 0) :
    Calls Tryz.prog 136 #[.slice (some ⟨w.heap.size, 0, none⟩) 2 2] (w.alloc (.cells #[u, v] t)) fun e w' => e = .returned (.int .i64 0) ∧ w.alloc (.cells #[u, v] t) = w' := by
  refine (form_calls (ls := [xs, ys]) (n := 2) rfl (by decide) (by decide) ?_).mono ?_
  · intro j hj
    obtain rfl | rfl : j = 0 ∨ j = 1 := by omega
    · exact ⟨u, cell_lit (by simp), h.ext ((Ext.refl w).alloc _)⟩
    · exact ⟨v, cell_lit (by simp), k.ext ((Ext.refl w).alloc _)⟩
  · rintro e w' ⟨rfl, rfl⟩
    exact ⟨by simp [natErrs, hx, hy], rfl⟩

theorem natErr_dig (a : Nat) : natErr (dig a) = if 512 < (dig a).length then 3 else 0 := by
  unfold natErr
  split
  · rfl
  · rw [if_neg]
    rintro ⟨h1, h2⟩
    exact nz_dig a (by intro h; rw [h] at h1; simp at h1) h2
theorem natErr_dig0 {a : Nat} (h : (dig a).length ≤ 512) : natErr (dig a) = 0 := by rw [natErr_dig, if_neg (by omega)]
theorem natErr_zero {xs : List Nat} (hd : Ds xs) (h : natErr xs = 0) : xs.length ≤ 512 ∧ xs = dig (val xs) := by
  unfold natErr at h
  split at h
  · omega
  · split at h
    · omega
    · rename_i h1 h2
      refine ⟨by omega, (dig_val hd ?_).symm⟩
      intro hx h3
      exact h2 ⟨List.length_pos_iff.2 hx, h3⟩

theorem isnat_calls {w : World} {v : Value} {xs : List Nat} (h : RV w v xs) :
    Calls Tryz.prog 104 #[v] w fun e w' => e = .returned (.bool (decide (natErr xs = 0))) ∧ Ext w w' := by
  obtain ⟨A, c, rfl, hc, _, _⟩ := id h
  have H := Aside.mk h
  have hd : (((natErr xs : Nat) : Int) == 0) = decide (natErr xs = 0) := by
    by_cases h0 : natErr xs = 0
    · simp [h0]
    · simp [h0]
  obtain ⟨m, hm⟩ : ∃ m, natErr xs = m := ⟨_, rfl⟩
  rw [hm] at hd
  have HM := Aside.mk hm
  clear h hm
  rw [HM.out]
  go_enter Tryz.func104, Tryz.ntmps104
  go_wp2_with (go_at_call 136; refine (form1_calls H.out HM.out).mono ?_; rintro e w' ⟨rfl, rfl⟩)
  go_ret
  exact ⟨by rw [← hd]; rfl, (Ext.refl w).alloc _⟩

/-- How many binary digits a number has. -/
def blen (a : Nat) : Nat := if a = 0 then 0 else a.log2 + 1
theorem blen_le {a k : Nat} : blen a ≤ k ↔ a < 2 ^ k := by
  unfold blen
  split
  · rename_i h
    subst h
    exact ⟨fun _ => Nat.two_pow_pos k, fun _ => Nat.zero_le _⟩
  · rename_i h
    rw [Nat.succ_le_iff, Nat.log2_lt h]
theorem blen_of {a b : Nat} (_h0 : 0 < a) (h1 : 2 ^ (b - 1) ≤ a) (h2 : a < 2 ^ b) : blen a = b := by
  apply Nat.le_antisymm (blen_le.2 h2)
  rcases Nat.lt_or_ge (blen a) b with h | h
  · have h3 := blen_le.1 (show blen a ≤ b - 1 by omega)
    omega
  · exact h
theorem bitLen_blen {t : Nat} (h0 : 0 < t) (h : t < 4294967296) : Lib.bitLen t = blen t := by
  have h1 := Lib.bitLenAux_bounds 64 t (by omega) (by omega)
  exact (blen_of h0 h1.2.1 h1.2.2).symm
theorem blen_dig {a k t : Nat} (hk : (dig a).length = k + 1) (ht : (dig a).getD k 0 = t) : 0 < t ∧ t < 4294967296 ∧ blen a = 32 * k + blen t := by
  have ht4 : t < 4294967296 := by rw [← ht]; exact Ds.get (ds_dig a) _
  have ht0 : 0 < t := by
    have := nz_dig a (by intro h; rw [h] at hk; simp at hk)
    rw [hk, show k + 1 - 1 = k from rfl, ht] at this
    omega
  refine ⟨ht0, ht4, ?_⟩
  have hv := val_take_step (dig a) k
  rw [ht, show k + 1 = (dig a).length from hk.symm, val_take_all, val_dig] at hv
  have hl := val_lt ((ds_dig a).take k)
  rw [List.length_take, hk, Nat.min_eq_left (by omega)] at hl
  have hb := Lib.bitLenAux_bounds 64 t (by omega) (by omega)
  have hbt : blen t = Lib.bitLenAux 64 t := blen_of ht0 hb.2.1 hb.2.2
  rw [hbt]
  have hb0 : 0 < Lib.bitLenAux 64 t := hb.1
  generalize Lib.bitLenAux 64 t = b at *
  have e : (4294967296 : Nat) ^ k = 2 ^ (32 * k) := by rw [Nat.pow_mul]
  rw [e] at hl hv
  have hp := Nat.two_pow_pos (32 * k)
  generalize val ((dig a).take k) = lo at *
  have h1 := Nat.mul_le_mul_left (2 ^ (32 * k)) hb.2.1
  have h2 : 2 ^ (32 * k) * (t + 1) ≤ 2 ^ (32 * k) * 2 ^ b := Nat.mul_le_mul_left _ hb.2.2
  rw [← Nat.pow_add] at h1 h2
  rw [Nat.mul_add, Nat.mul_one] at h2
  apply blen_of
  · rw [hv]; have := Nat.mul_pos hp ht0; omega
  · rw [show 32 * k + b - 1 = 32 * k + (b - 1) from by omega]; omega
  · omega

/-- The number of binary digits of a slice of digits. -/
theorem size_calls {w : World} {u : Value} {a : Nat} (h : RV w u (dig a)) :
    Calls Tryz.prog 155 #[u] w fun e w' => e = .returned (.int .i64 (blen a : Int)) ∧ w = w' := by
  obtain ⟨A, c, rfl, hc, hd, hr⟩ := h
  have hl : (dig a).length ≤ 1073741824 := hd.1
  rcases Nat.eq_zero_or_pos a with rfl | ha
  · have h0 : (dig 0).length = 0 := by rw [dig_zero]; rfl
    clear hr hd
    rw [h0]
    go_enter Tryz.func155, Tryz.ntmps155
    go_wp2
    go_ret
    exact ⟨rfl, rfl⟩
  · obtain ⟨k, hk⟩ : ∃ k, (dig a).length = k + 1 := ⟨(dig a).length - 1, by
      have : (dig a).length ≠ 0 := fun h => by have := dig_nil_iff.1 (List.eq_nil_of_length_eq_zero h); omega
      omega⟩
    obtain ⟨t, ht⟩ : ∃ t, (dig a).getD k 0 = t := ⟨_, rfl⟩
    obtain ⟨ht0, ht4, hb⟩ := blen_dig hk ht
    obtain ⟨bd, rfl, hcell⟩ := Rd.at32 hr k (by omega)
    rw [ht] at hcell
    obtain ⟨z, hz⟩ : ∃ z, (dig a).length = z := ⟨_, rfl⟩
    rw [hz] at hc hl hk
    rw [hz]
    have hz1 : (z : Int) - 1 = (k : Int) := by omega
    have hzne : ((z : Int) == 0) = false := by simp; omega
    have hkz : k < z := by omega
    have hbl : Lib.bitLen t = blen t := bitLen_blen ht0 ht4
    have hb32 : blen t ≤ 32 := blen_le.2 (by omega)
    have HB : Aside ((blen a : Int) = 32 * (k : Int) + (blen t : Int)) := ⟨by rw [hb]; simp⟩
    have HBT := Aside.mk hbl
    have hT : (t : Int) ≤ 4294967295 := by omega
    have HT := Aside.mk hT
    generalize hbt : blen t = b at *
    clear hr hd hk ht hz hT ht4 ht0 hbl hb hbt
    go_enter Tryz.func155, Tryz.ntmps155
    go_wp2_with (go_at_call 172; refine (Tryz.bits_Len32 (t : Int) w (by omega) HT.out).mono ?_; rintro e w' ⟨rfl, rfl⟩; rw [show ((t : Int)).toNat = t from by simp, HBT.out])
    go_ret
    exact ⟨by rw [HB.out]; rfl, rfl⟩

/-- Bits and the error of a list. -/
theorem bits_calls {w : World} {u : Value} {a : Nat} (h : RV w u (dig a)) :
    Calls Tryz.prog 137 #[u] w fun e w' => e = .returned (if (dig a).length ≤ 512 then .tuple #[.int .i64 (blen a : Int), .int .i64 0] else .tuple #[.int .i64 0, .int .i64 3]) ∧ Ext w w' := by
  obtain ⟨A, c, rfl, hc, hd, _⟩ := id h
  have hl : (dig a).length ≤ 1073741824 := hd.1
  have H := Aside.mk h
  have HE := Aside.mk (natErr_dig a)
  clear h hd
  rcases Nat.lt_or_ge 512 (dig a).length with h5 | h5
  · have HM : Aside (natErr (dig a) = 3) := ⟨by rw [HE.out, if_pos h5]⟩
    rw [if_neg (by omega)]
    go_enter Tryz.func137, Tryz.ntmps137
    go_wp2_with (go_at_call 136; refine (form1_calls H.out HM.out).mono ?_; rintro e w' ⟨rfl, rfl⟩)
    go_ret2
    exact ⟨rfl, (Ext.refl w).alloc _⟩
  · have HM : Aside (natErr (dig a) = 0) := ⟨by rw [HE.out, if_neg (by omega)]⟩
    rw [if_pos h5]
    go_enter Tryz.func137, Tryz.ntmps137
    go_wp2_with (first | (go_at_call 136; refine (form1_calls H.out HM.out).mono ?_; rintro e w' ⟨rfl, rfl⟩) | (go_at_call 155; refine (size_calls (H.out.ext ((Ext.refl w).alloc _))).mono ?_; rintro e w' ⟨rfl, rfl⟩))
    go_ret2
    exact ⟨rfl, (Ext.refl w).alloc _⟩
end Go.Proofs.YtcbaipnphepbeaaGreatDoor

namespace Go.Proofs.YtcbaipnphepbeaaGreatDoor
open Go.RowKit

/-- A natural number that the functions of nat take. -/
def NV (w : World) (v : Value) (a : Nat) : Prop := RV w v (dig a) ∧ (dig a).length ≤ 512
theorem NV.ext {w w' : World} {v : Value} {a : Nat} (h : NV w v a) (e : Ext w w') : NV w' v a := ⟨h.1.ext e, h.2⟩
theorem NV.form {w : World} {v : Value} {a : Nat} (h : NV w v a) : ∃ A c n, v = .slice A n c ∧ n ≤ 512 ∧ Aside (n = (dig a).length) := by
  obtain ⟨A, c, rfl, _⟩ := h.1
  exact ⟨A, c, _, rfl, h.2, ⟨rfl⟩⟩

theorem form2n {w : World} {u v : Value} {a b : Nat} {t : TypeId} (h : NV w u a) (k : NV w v b) :
    Calls Tryz.prog 136 #[.slice (some ⟨w.heap.size, 0, none⟩) 2 2] (w.alloc (.cells #[u, v] t)) fun e w' => e = .returned (.int .i64 0) ∧ w.alloc (.cells #[u, v] t) = w' :=
  form2_calls h.1 k.1 (natErr_dig0 h.2) (natErr_dig0 k.2)




theorem Gcd_calls {w : World} {u v : Value} {a b : Nat} (hu : NV w u a) (hv : NV w v b) :
    Calls Tryz.prog 106 #[u, v] w fun e w' => ∃ r, e = .returned (.tuple #[r, .int .i64 0]) ∧ OV w.heap.size w' r (dig (Nat.gcd a b)) ∧ Ext w w' := by
  have HU := Aside.mk hu
  have HV := Aside.mk hv
  obtain ⟨A, c, n, rfl, _, _⟩ := hu.form
  obtain ⟨B, d, m, rfl, _, _⟩ := hv.form
  clear hu hv
  go_enter Tryz.func106, Tryz.ntmps106
  go_wp2_with (first | (go_at_call 136; refine (form2n HU.out HV.out).mono ?_; rintro e w' ⟨rfl, rfl⟩) | (go_at_call 138; refine (gcd_calls (HU.out.1.ext ((Ext.refl w).alloc _)) (HV.out.1.ext ((Ext.refl w).alloc _)) (by have := HU.out.2; omega) (by have := HV.out.2; omega)).mono ?_; rintro e w1 ⟨r, rfl, hr, he⟩; have HR := Aside.mk hr; have HE := Aside.mk he; clear hr he))
  go_ret2
  exact ⟨r, rfl, (by simpa [val_dig] using HR.out.mono ((Ext.refl w).alloc _).size), ((Ext.refl w).alloc _).trans HE.out⟩



end Go.Proofs.YtcbaipnphepbeaaGreatDoor
