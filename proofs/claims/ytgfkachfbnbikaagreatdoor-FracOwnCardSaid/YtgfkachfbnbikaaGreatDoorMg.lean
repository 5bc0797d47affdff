/- Contract of fluxionref01.Div. append of a row that is read, nil or not. Contract of fluxionref01.Gcd. -/
import Derived.Test.YtgfkachfbnbikaaGreatDoorMe
import Derived.Shelf.RegionOpenPlain
import Derived.Test.YtgfkachfbnbikaaGreatDoorMa
import Derived.Deep.LoopGhost
namespace Go.Proofs.YtgfkachfbnbikaaGreatDoor
open Go.RowKit

theorem rtwice_n {w : World} {u : Value} {a b0 m : Nat} (hu : RV w u (dig a)) (hb0 : b0 ≤ 1) (hl : (dig a).length < 1073741824) (hm : 2 * a + b0 = m) :
    Calls Tryz.prog 129 #[u, .int .u32 (b0 : Int)] w fun e w' => ∃ r, e = .returned r ∧ OV w.heap.size w' r (dig m) ∧ Ext w w' := by
  have h := rtwice_calls hu hb0 hl
  rw [val_dig, hm] at h
  exact h
theorem rsub_n {w : World} {u v : Value} {a b : Nat} (hu : RV w u (dig a)) (hv : RV w v (dig b)) (hle : b ≤ a) :
    Calls Tryz.prog 128 #[u, v] w fun e w' => ∃ r, e = .returned r ∧ OV w.heap.size w' r (dig (a - b)) ∧ Ext w w' := by
  have h := rsub_calls hu hv (dig_len_mono hle) (by rw [val_dig, val_dig]; exact hle)
  rw [val_dig, val_dig] at h
  exact h
theorem shift_even (q j : Nat) : q * 2 ^ (j + 1) = (2 * q + 0) * 2 ^ j := by rw [Nat.pow_succ, Nat.add_zero, Nat.mul_comm 2 q, Nat.mul_assoc, Nat.mul_comm 2]
theorem cmpN_ge {a b : Nat} : decide ((0 : Int) ≤ cmpN a b) = decide (b ≤ a) := by
  unfold cmpN
  rcases Nat.lt_trichotomy a b with h | h | h
  · rw [if_pos h]; simp; omega
  · rw [if_neg (by omega), if_pos h]; simp; omega
  · rw [if_neg (by omega), if_neg (by omega)]; simp; omega
theorem OV.len {b : Nat} {w : World} {A : Option Addr} {n c : Nat} {xs : List Nat} (h : OV b w (.slice A n c) xs) : n = xs.length := by
  obtain ⟨A', c', e, _⟩ := h.form
  injection e
set_option maxRecDepth 10000 in
set_option maxHeartbeats 2000000 in
theorem rdiv_calls {w : World} {u v : Value} {a b : Nat} (hu : RV w u (dig a)) (hv : RV w v (dig b)) (hb : 0 < b) (hbl : (dig b).length < 1073741824) :
    Calls Tryz.prog 112 #[u, v] w fun e w' => ∃ q r, e = .returned (.tuple #[q, r]) ∧ OV w.heap.size w' q (dig (a / b)) ∧ OV w.heap.size w' r (dig (a % b)) ∧ Ext w w' := by
  have mixed : Tryz.prog.follows Departure.mixedOrders = true := by kernel_rfl
  have HX := Aside.mk hu
  have HY := Aside.mk hv
  obtain ⟨A, c, rfl, hc, hd, hr⟩ := hu
  obtain ⟨B, d, rfl, hc', hd', hr'⟩ := hv
  have hl : (dig a).length ≤ 1073741824 := hd.1
  have HBP := Aside.mk hb
  have HBL := Aside.mk hbl
  obtain ⟨n, hn⟩ : ∃ n, (dig a).length = n := ⟨_, rfl⟩
  have HN := Aside.mk hn
  rw [hn] at hc hl HX ⊢
  have hbb : blen a ≤ 32 * n := by
    apply blen_le.2
    have := lt_of_dig_length (show (dig a).length ≤ n by rw [hn]; exact Nat.le_refl _)
    rwa [B_pow] at this
  obtain ⟨m, hm⟩ : ∃ m, blen a = m := ⟨_, rfl⟩
  rw [hm] at hbb
  have HM := Aside.mk hm
  have HBR : Aside (∀ r, r < b → (dig r).length < 1073741824) := ⟨fun r hr => Nat.lt_of_le_of_lt (dig_len_mono (Nat.le_of_lt hr)) hbl⟩
  generalize (dig b).length = lb at *
  clear hd hr hd' hr' hb hn hm hbl
  go_enter Tryz.func112, Tryz.ntmps112
  go_wp2_with (first | (refine make_u32 _ rfl _ _ rfl n _ _ rfl rfl rfl rfl hl ?_; intro w1 z hz0 hb1 hz1; subst hz1; have HZ0 := Aside.mk hz0; have HB0 := Aside.mk hb1; clear hz0 hb1) | (go_at_call 154; with_reducible refine (rbits_calls (HX.out.ext HB0.out) HM.out).mono ?_; rintro e w' ⟨rfl, rfl⟩))
  go_loopw [7, 8] (fun rest i wr => ∃ (k : Nat) (zs : List Nat), k ≤ m ∧ i = .int .i64 ((k : Int) - 1) ∧ Aside (OV (w.heap.size + 1) wr rest (dig (a / 2 ^ k % b))) ∧ Aside (OV w.heap.size wr (.slice (some ⟨w.heap.size, 0, none⟩) n n) zs) ∧ Aside (Ext w wr) ∧ Aside (zs.length = n) ∧ Aside (val zs = a / 2 ^ k / b * 2 ^ k)) (fun _ i _ => (intOf i + 1).toNat)
  case atStart =>
    have h0 : a / 2 ^ m = 0 := Nat.div_eq_of_lt (blen_le.1 (by rw [HM.out]; exact Nat.le_refl _))
    exact ⟨m, _, Nat.le_refl _, rfl, ⟨by rw [h0, Nat.zero_mod, dig_zero]; exact OV.nil _ _⟩, HZ0, HB0, ⟨by simp⟩, ⟨by rw [h0, val_zeros]; simp⟩⟩
  case round =>
    obtain ⟨k, zs, hk, rfl, HR, HZ, HB, HL, HS⟩ := hrel
    cases k with
    | zero =>
      have HR' : Aside (OV (w.heap.size + 1) wr u7 (dig (a % b))) := ⟨by have := HR.out; rw [Nat.pow_zero, Nat.div_one] at this; exact this⟩
      obtain ⟨A1, c1, rfl, _⟩ := HR'.out.form
      generalize (dig (a % b)).length = l1 at *
      have HV : Aside (val zs = a / b) := ⟨by have := HS.out; rw [Nat.pow_zero, Nat.mul_one, Nat.div_one] at this; exact this⟩
      clear HR
      go_wp2_with (go_at_call 107; with_reducible refine (rshort_calls HZ.out).mono ?_; rintro e w' ⟨r, rfl, hr, rfl⟩; have HQ := Aside.mk hr; clear hr)
      go_ret2
      exact ⟨r, _, rfl, by rw [← HV.out]; exact HQ.out, HR'.out.mono (Nat.le_succ _), HB.out⟩
    | succ j =>
      have HJB : Aside (j < blen a) := ⟨by rw [HM.out]; omega⟩
      have HJL : Aside (j / 32 < zs.length) := ⟨by rw [HL.out, ← HN.out]; exact bit_lt HJB.out⟩
      have hjn : j / 32 < n := by have := HJL.out; rw [HL.out] at this; exact this
      obtain ⟨t, ht⟩ : ∃ t, a / 2 ^ j % 2 = t := ⟨_, rfl⟩
      have HT1 : Aside (t ≤ 1) := ⟨by omega⟩
      obtain ⟨r, hr⟩ : ∃ r, a / 2 ^ (j + 1) % b = r := ⟨_, rfl⟩
      obtain ⟨q, hq⟩ : ∃ q, a / 2 ^ (j + 1) / b = q := ⟨_, rfl⟩
      have hst := div_step HBP.out hr.symm
      rw [ht, hq] at hst
      have hrb : r < b := by rw [← hr]; exact Nat.mod_lt _ HBP.out
      rw [hr] at HR
      rw [hq] at HS
      have HRL : Aside ((dig r).length < 1073741824) := ⟨HBR.out r hrb⟩
      have HT := Aside.mk ht
      obtain ⟨R, hRR⟩ : ∃ R, 2 * r + t = R := ⟨_, rfl⟩
      have HRR := Aside.mk hRR
      rw [hRR] at hst
      have HST := Aside.mk hst
      have HSZ : Aside (w.heap.size + 1 ≤ wr.heap.size) := ⟨by
        obtain ⟨g, c', e, _, h2, _⟩ := HZ.out.row (by have := HJL.out; omega)
        injection e with e
        injection e with e
        injection e with e
        omega⟩
      obtain ⟨A1, c1, rfl, _⟩ := HR.out.form
      have hcg := @cmpN_ge R b
      clear ht hr hq hst hrb hRR
      rcases Nat.lt_or_ge R b with hlt | hge
      · have hcf : decide ((0 : Int) ≤ cmpN R b) = false := by rw [hcg]; simp; omega
        have HRB := Aside.mk hlt
        clear hcg hlt hjn
        go_wp2_with (first | (go_at_call 155; with_reducible refine (rbit_calls (HX.out.ext HB.out) HJB.out HT.out).mono ?_; rintro e w2 ⟨rfl, rfl⟩) | (go_at_call 129; with_reducible refine (rtwice_n HR.out.rv HT1.out HRL.out HRR.out).mono ?_; rintro e w3 ⟨r3, rfl, hr, he⟩; have HB3 := Aside.mk (HB.out.trans he); have HZ3 := Aside.mk (HZ.out.ext he); have HR3 := Aside.mk (hr.mono HSZ.out); have HSZ3 := Aside.mk (Nat.le_trans HSZ.out he.size); obtain ⟨A3, c3, rfl, _⟩ := HR3.out.form; clear hr he) | (go_at_call 120; with_reducible refine (rcompare_calls HR3.out.rv (HY.out.ext HB3.out)).mono ?_; rintro e w4 ⟨rfl, he⟩; have HE4 := Aside.mk (Ext.of_drewN he); have HB4 := Aside.mk (HB3.out.trans HE4.out); have HZ4 := Aside.mk (HZ3.out.ext HE4.out); have HR4 := Aside.mk (HR3.out.ext HE4.out); have HS4 := Aside.mk (Nat.le_trans HSZ3.out HE4.out.size); clear he))
        go_roundw
        case rel => exact ⟨j, zs, by omega, rfl, ⟨by rw [HST.out.1, if_neg (by have := HRB.out; omega)]; exact HR4.out⟩, HZ4, HB4, HL, ⟨by rw [HS.out, HST.out.2, if_neg (by have := HRB.out; omega)]; exact shift_even q j⟩⟩
        case measure => simp [intOf]
      · have hcf : decide ((0 : Int) ≤ cmpN R b) = true := by rw [hcg]; simp; omega
        have HLE := Aside.mk hge
        obtain ⟨dd, hdd⟩ : ∃ d, zs.getD (j / 32) 0 = d := ⟨_, rfl⟩
        have HD := Aside.mk hdd
        obtain ⟨hs1, hs2, hs3⟩ := set_bit HZ.out.1.2 HS.out HJL.out
        rw [hdd] at hs1 hs2 hs3
        have hor := or_bit hs2
        have HSB := Aside.mk hs1
        have HS3 := Aside.mk hs3
        have h1 := tdiv_32 (i := j) rfl
        have h2 := tmod_32 (i := j) rfl
        have hr32 : j % 32 < 32 := Nat.mod_lt _ (by decide)
        obtain ⟨jq, hjq⟩ : ∃ x, j / 32 = x := ⟨_, rfl⟩
        obtain ⟨jr, hjr⟩ : ∃ x, j % 32 = x := ⟨_, rfl⟩
        rw [hjq] at h1 hjn
        rw [hjr] at h2 hr32 hor
        have HJQ := Aside.mk hjq
        have HJR := Aside.mk hjr
        have hw1 : wrap64 (jq : Int) = (jq : Int) := wrap64_small (by omega)
        have hw2 : wrap64 (jr : Int) = (jr : Int) := wrap64_small (by omega)
        obtain ⟨P, hP⟩ : ∃ P, 2 ^ jr = P := ⟨_, rfl⟩
        have hP2 : ((2 : Int) ^ jr) = (P : Int) := by rw [← hP]; simp
        rw [hjr, hP] at HS3
        rw [hP] at hor
        have hP4 : P < 4294967296 := by have := HS3.out; omega
        have hP5 : (P : Int) % 4294967296 = (P : Int) := by omega
        obtain ⟨o, ho⟩ : ∃ o, dd + P = o := ⟨_, rfl⟩
        have hor2 : bits .or .u32 (dd : Int) (P : Int) = (o : Int) := by
          rw [u32_or_nat _ _ (by have := HS3.out; omega) hP4, hor, ho]
        rw [hjq, hjr, hP, ho] at HSB
        have HO : Aside (o < 4294967296) := ⟨by rw [← ho]; exact HS3.out⟩
        have H1 := Aside.mk h1
        have H2 := Aside.mk h2
        have H3 := Aside.mk hw1
        have H4 := Aside.mk hw2
        have H5 := Aside.mk hor2
        have H6 := Aside.mk hP2
        clear h1 h2 hw1 hw2 hor2 hP2
        have h1 : ∀ [Inhabited Nat], (j : Int).tdiv 32 = (jq : Int) := H1.out
        have h2 : ∀ [Inhabited Nat], (j : Int).tmod 32 = (jr : Int) := H2.out
        have hw1 : ∀ [Inhabited Nat], wrap64 (jq : Int) = (jq : Int) := H3.out
        have hw2 : ∀ [Inhabited Nat], wrap64 (jr : Int) = (jr : Int) := H4.out
        have hor2 : ∀ [Inhabited Nat], bits .or .u32 (dd : Int) (P : Int) = (o : Int) := H5.out
        have hP2 : ∀ [Inhabited Nat], ((2 : Int) ^ jr) = (P : Int) := H6.out
        clear hcg hge hs1 hs2 hs3 hdd hjq hjr hP hor HS3 ho
        go_wp2_with (first | (go_at_call 155; with_reducible refine (rbit_calls (HX.out.ext HB.out) HJB.out HT.out).mono ?_; rintro e w2 ⟨rfl, rfl⟩) | (go_at_call 129; with_reducible refine (rtwice_n HR.out.rv HT1.out HRL.out HRR.out).mono ?_; rintro e w3 ⟨r3, rfl, hr, he⟩; have HB3 := Aside.mk (HB.out.trans he); have HZ3 := Aside.mk (HZ.out.ext he); have HR3 := Aside.mk (hr.mono HSZ.out); have HSZ3 := Aside.mk (Nat.le_trans HSZ.out he.size); obtain ⟨A3, c3, rfl, _⟩ := HR3.out.form; clear hr he) | (go_at_call 120; with_reducible refine (rcompare_calls HR3.out.rv (HY.out.ext HB3.out)).mono ?_; rintro e w4 ⟨rfl, he⟩; have HE4 := Aside.mk (Ext.of_drewN he); have HB4 := Aside.mk (HB3.out.trans HE4.out); have HZ4 := Aside.mk (HZ3.out.ext HE4.out); have HR4 := Aside.mk (HR3.out.ext HE4.out); have HS4 := Aside.mk (Nat.le_trans HSZ3.out HE4.out.size); clear he) | (go_at_call 128; with_reducible refine (rsub_n HR4.out.rv (HY.out.ext HB4.out) HLE.out).mono ?_; rintro e w5 ⟨r5, rfl, hr, he⟩; have HB5 := Aside.mk (HB4.out.trans he); have HZ5 := Aside.mk (HZ4.out.ext he); have HR5 := Aside.mk (hr.mono HS4.out); have hcell := HZ5.out.cell (j / 32) HJL.out; have hfree := HZ5.out.free (j / 32); rw [HD.out, HJQ.out] at hcell; rw [HJQ.out] at hfree; clear hr he))
        go_region_o
        go_wp2
        go_roundw
        case rel => exact ⟨j, zs.set jq o, by omega, rfl, ⟨by rw [HST.out.1, if_pos HLE.out]; exact (HR5.out.set (show w.heap.size < w.heap.size + 1 from Nat.lt_succ_self _) _).ext (Ext.refl _).drew⟩, ⟨(HZ5.out.store jq HO.out).ext (Ext.refl _).drew⟩, ⟨(HB5.out.set (Nat.le_refl _) _).drew⟩, ⟨by simp [HL.out]⟩, ⟨by rw [HSB.out, HST.out.2, if_pos HLE.out]⟩⟩
        case measure => simp [intOf]
end Go.Proofs.YtgfkachfbnbikaaGreatDoor

namespace Go.Proofs.YtgfkachfbnbikaaGreatDoor
open Go.RowKit

theorem run_append_none {w : World} (base : Nat) (t ty e : TypeId) (i : TypeInfo) (size : Nat) (ht : Tryz.prog.underlying t = some (.slice e)) (hi : Tryz.prog.info? e = some i)
    (v : Value) (n c : Nat) (xs : List Value) (hown : w.ownsRow base e size v n xs) :
    (Builtin.append_ #[t, t] ty #[v, .slice none 0 c]).run Tryz.prog w = .ok v w := by
  rcases hown.2 with ⟨rfl, rfl⟩ | ⟨g, cap, cur, rfl, _, _, hnc, _⟩
  · simp [Builtin.append_, run_underlying ht, sizeOf, typeInfo, hi, Builtin.lenOf, Builtin.firstCells]
  · simp [Builtin.append_, run_underlying ht, sizeOf, typeInfo, hi, Builtin.lenOf, Builtin.firstCells, hnc, storeCells]

section
variable {ops : Array Oper} {rest : List Oper} {o : Oper} {a : Act} {Q : Exit → Act → World → Prop}
/-- `append(v, ys...)` -/
theorem append_rv {W : World} (base : Nat) (hgd : o.guard = none) (s x : Operand)
    (ho : o.op = .call { callee := .builtin .append, args := #[s, x], argTypes := #[22, 22] })
    (v y : Value) (xs ys : List Nat) (HO : OV base W v xs) (HR : RV W y ys) (hs : a.eval s = v) (hx : a.eval x = y)
    (hbase : base ≤ W.heap.size) (hl : xs.length + ys.length ≤ 1073741824)
    (h : ∀ v1 w1, OV base w1 v1 (xs ++ ys) → W.grownBy w1 v.ownBlock → wpList Tryz.prog ops Q rest (a.put o.dst v1) w1) :
    wpList Tryz.prog ops Q (o :: rest) a W := by
  obtain ⟨A, c, rfl, hc, hd, hr⟩ := id HR
  cases A with
  | some ad => exact append_row_u32 base hgd s x ho v xs ys ad ys.length c HO HR hs hx hbase hl h
  | none =>
    have hy : ys = [] := by
      cases ys with
      | nil => rfl
      | cons z zs => obtain ⟨ad, e, _⟩ := hr 0 _ (u32s_get (z :: zs) 0 (by simp)); cases e
    subst hy
    obtain ⟨i0, hi, hz0, hz1, hz2⟩ := info_parts Tryz.info_u32
    have hrun := run_append_none base 22 o.type 46 i0 1 Tryz.underlying22 hi v xs.length c (u32s xs) HO.2
    refine wpList_plain hgd fun K hK => ?_
    unfold Oper.wp execOp
    simp only [ho, resolve, invoke, builtin, Sem.run_bind, Sem.run_pure, Result.andThen_ok, List.map_toArray, List.map_cons, List.map_nil, hs, hx]
    have e0 : ([] : List Nat).length = 0 := rfl
    rw [e0, hrun]
    exact hK _ _ (h v W (by rw [List.append_nil]; exact HO) ⟨rfl, rfl, rfl, Nat.le_refl _, fun _ _ _ => rfl⟩)
/-- `append([]uint32{}, ys...)`, behind the empty literal. -/
theorem copy_rv {w : World} (hgd : o.guard = none) (s x : Operand)
    (ho : o.op = .call { callee := .builtin .append, args := #[s, x], argTypes := #[22, 22] })
    (y : Value) (ys : List Nat) (HR : RV w y ys) (hs : a.eval s = .slice (some ⟨w.heap.size, 0, none⟩) 0 0) (hx : a.eval x = y)
    (h : ∀ v1 w1, OV w.heap.size w1 v1 ys → Ext w w1 → wpList Tryz.prog ops Q rest (a.put o.dst v1) w1) :
    wpList Tryz.prog ops Q (o :: rest) a (w.alloc (.cells #[] 46)) := by
  have h0 : OV w.heap.size (w.alloc (.cells #[] 46)) (.slice (some ⟨w.heap.size, 0, none⟩) 0 0) [] := OV.lit w [] (by simp) Ds.nil
  refine append_rv w.heap.size hgd s x ho _ y [] ys h0 (HR.ext ((Ext.refl w).alloc _)) hs hx (by simp) (by simpa using HR.dg.1) ?_
  intro v1 w1 h1 h2
  exact h v1 w1 h1 (h0.ext_grown ((Ext.refl w).alloc _) (Nat.le_refl _) h2)
end
end Go.Proofs.YtgfkachfbnbikaaGreatDoor

namespace Go.Proofs.YtgfkachfbnbikaaGreatDoor
open Go.RowKit

theorem rhalf_n {w : World} {u : Value} {a : Nat} (hu : RV w u (dig a)) :
    Calls Tryz.prog 127 #[u] w fun e w' => ∃ r, e = .returned r ∧ OV w.heap.size w' r (dig (a / 2)) ∧ Ext w w' := by
  have h := rhalf_calls hu
  rw [val_dig] at h
  exact h
theorem rtwice_0 {w : World} {u : Value} {a m : Nat} (hu : RV w u (dig a)) (hl : (dig a).length < 1073741824) (hm : 2 * a + 0 = m) :
    Calls Tryz.prog 129 #[u, .int .u32 0] w fun e w' => ∃ r, e = .returned r ∧ OV w.heap.size w' r (dig m) ∧ Ext w w' := rtwice_n (b0 := 0) hu (Nat.zero_le _) hl hm
theorem cmpN_gt {a b : Nat} : decide ((0 : Int) < cmpN a b) = decide (b < a) := by
  unfold cmpN
  rcases Nat.lt_trichotomy a b with h | h | h
  · rw [if_pos h]; simp; omega
  · rw [if_neg (by omega), if_pos h]; simp; omega
  · rw [if_neg (by omega), if_neg (by omega)]; simp; omega
/-- The first digit of a number that is not 0. -/
theorem RV.first {w : World} {v : Value} {X : Nat} (h : RV w v (dig X)) (h0 : 0 < X) : ∃ ad n c x, v = .slice (some ad) (n + 1) c ∧ w.cell? ad = some (.int .u32 ((x : Nat) : Int)) ∧ x % 2 = X % 2 ∧ x < 4294967296 ∧ n + 1 ≤ c ∧ (dig X).length = n + 1 := by
  obtain ⟨A, c, rfl, hc, hd, hr⟩ := h
  have hl := dig_length_pos h0
  obtain ⟨ad, rfl, hcell⟩ := hr.at32 0 hl
  have e : ad.add 0 = ad := by simp [Addr.add]
  rw [e] at hcell
  exact ⟨ad, (dig X).length - 1, c, _, by congr 1; omega, hcell, val_mod2 X, Ds.get (ds_dig X) 0, by omega, by omega⟩
theorem gcd_pos_of {X Y : Nat} (h : 0 < X) : 0 < Nat.gcd X Y := Nat.gcd_pos_of_pos_left _ h

set_option maxRecDepth 10000 in
set_option maxHeartbeats 4000000 in
theorem rgcd_calls {w : World} {u v : Value} {a b g : Nat} (hu : RV w u (dig a)) (hv : RV w v (dig b)) (hbl : (dig b).length < 1073741824) (hg : Nat.gcd a b = g) :
    Calls Tryz.prog 76 #[u, v] w fun e w' => ∃ r, e = .returned r ∧ OV w.heap.size w' r (dig g) ∧ Ext w w' := by
  have HU := Aside.mk hu
  have HV := Aside.mk hv
  have HG := Aside.mk hg
  rcases Nat.eq_zero_or_pos a with rfl | ha
  · obtain ⟨A, c, rfl, hc, _⟩ := hu
    obtain ⟨B, d, rfl, hc', _⟩ := hv
    have h0 : (dig 0).length = 0 := by rw [dig_zero]; rfl
    rw [h0] at hc HU ⊢
    have HG' : Aside (b = g) := ⟨by have := HG.out; rwa [Nat.gcd_zero_left] at this⟩
    generalize (dig b).length = lb at *
    clear h0 hg hbl
    go_enter Tryz.func76, Tryz.ntmps76
    go_wp2_with (at_builtin; (refine copy_rv rfl _ _ rfl _ _ HV.out rfl rfl ?_; intro v1 w9 h9 e9; have HV9 := Aside.mk h9; have HE9 := Aside.mk e9; clear h9 e9))
    go_ret
    exact ⟨_, rfl, by rw [← HG'.out]; exact HV9.out, HE9.out⟩
  rcases Nat.eq_zero_or_pos b with rfl | hb
  · obtain ⟨ad, n, c, x, rfl, _, _, _, hc, hn⟩ := hu.first ha
    obtain ⟨B, d, rfl, hc', _⟩ := hv
    have h0 : (dig 0).length = 0 := by rw [dig_zero]; rfl
    rw [h0] at hc' HV ⊢
    have HG' : Aside (a = g) := ⟨by have := HG.out; rwa [Nat.gcd_zero_right] at this⟩
    have hne : ((n : Int) + 1 == 0) = false := beq_eq_false_iff_ne.2 (by omega)
    clear h0 hg hbl hn ha
    go_enter Tryz.func76, Tryz.ntmps76
    go_wp2_with (at_builtin; (refine copy_rv rfl _ _ rfl _ _ HU.out rfl rfl ?_; intro v1 w9 h9 e9; have HV9 := Aside.mk h9; have HE9 := Aside.mk e9; clear h9 e9))
    go_ret
    exact ⟨_, rfl, by rw [← HG'.out]; exact HV9.out, HE9.out⟩
  · obtain ⟨ad, n, c, x, rfl, _, _, _, hc, hn⟩ := hu.first ha
    obtain ⟨bd, n', c', x', rfl, _, _, _, hc', hn'⟩ := hv.first hb
    have hne : ((n : Int) + 1 == 0) = false := beq_eq_false_iff_ne.2 (by omega)
    have hne' : ((n' : Int) + 1 == 0) = false := beq_eq_false_iff_ne.2 (by omega)
    have HA := Aside.mk ha
    have HBB := Aside.mk hb
    obtain ⟨m, hm⟩ : ∃ m, blen b = m := ⟨_, rfl⟩
    have hmn : m ≤ 32 * (n' + 1) := by
      rw [← hm]
      apply blen_le.2
      have := lt_of_dig_length (show (dig b).length ≤ n' + 1 by omega)
      rwa [B_pow] at this
    have hn1 : n' + 1 ≤ 1073741823 := by omega
    have HM := Aside.mk hm
    have HBL : Aside (∀ z, z ≤ b → (dig z).length < 1073741824) := ⟨fun z hz => Nat.lt_of_le_of_lt (dig_len_mono hz) hbl⟩
    have HMN := Aside.mk hmn
    have HN1 := Aside.mk hn1
    have hm40 : m ≤ 68719476736 := by omega
    clear hg hbl hn hn' ha hb hm hmn hn1
    go_enter Tryz.func76, Tryz.ntmps76
    go_wp2
    go_loopg [0, 1, 5] a (fun X x y tw wr => ∃ (Y t : Nat), 0 < X ∧ 0 < Y ∧ t ≤ m ∧ tw = .int .i64 (t : Int) ∧ Aside (RV wr x (dig X)) ∧ Aside (RV wr y (dig Y)) ∧ Aside (Ext w wr) ∧ Aside (g = Nat.gcd X Y * 2 ^ t) ∧ Aside (Y * 2 ^ t ≤ b))
    case atStart => exact ⟨b, 0, HA.out, HBB.out, Nat.zero_le _, rfl, HU, HV, ⟨Ext.refl w⟩, ⟨by rw [HG.out]; simp⟩, ⟨by simp⟩⟩
    case round =>
      obtain ⟨Y, t, hX0, hY0, ht, rfl, HX, HY, HB, HS, HT⟩ := hrel
      obtain ⟨ad1, n1, c1, x1, rfl, hcx, hxm, hx4, hcn, _⟩ := HX.out.first hX0
      obtain ⟨bd1, n2, c2, y1, rfl, hcy, hym, hy4, hcn2, _⟩ := HY.out.first hY0
      have HX0 := Aside.mk hX0
      have HY0 := Aside.mk hY0
      have hyy : (((y1 % 2 : Nat) : Int) == 0) = decide (Y % 2 = 0) := by
        rw [hym]; by_cases h : Y % 2 = 0
        · simp [h]
        · rw [decide_eq_false h]; exact beq_eq_false_iff_ne.2 (by omega)
      have hcond : ¬ (gk % 2 = 0 ∧ Y % 2 = 0) ∨ (gk % 2 = 0 ∧ Y % 2 = 0) := (Decidable.em _).symm
      rcases Nat.mod_two_eq_zero_or_one gk with hxe | hxe
      · have hxb : (((x1 : Nat) : Int) % 2 == 0) = true := beq_iff_eq.2 (by omega)
        rcases Nat.mod_two_eq_zero_or_one Y with hye | hye
        · have hyb : (((y1 : Nat) : Int) % 2 == 0) = true := beq_iff_eq.2 (by omega)
          have HE := Aside.mk (gcd_halves hxe hye)
          have HYE : Aside (Y / 2 * 2 = Y ∧ 0 < Y / 2 ∧ 0 < gk / 2 ∧ gk / 2 < gk) := ⟨by omega⟩
          have hcy1 : ∀ w', Ext wr w' → w'.cell? bd1 = some (.int .u32 ((y1 : Nat) : Int)) := fun w' e => e.cell hcy
          clear hxe hye hxm hym hyy hcond hX0 hY0
          go_wp2_with (first | (go_at_call 127; with_reducible refine (rhalf_n HX.out).mono ?_; rintro e w1 ⟨r1, rfl, hr, he⟩; have HX1 := Aside.mk hr.rv; have HB1 := Aside.mk (HB.out.trans he); have HY1 := Aside.mk (HY.out.ext he); clear hr he) | (go_at_call 127; with_reducible refine (rhalf_n HY1.out).mono ?_; rintro e w2 ⟨r2, rfl, hr, he⟩; have HY2 := Aside.mk hr.rv; have HB2 := Aside.mk (HB1.out.trans he); have HX2 := Aside.mk (HX1.out.ext he); clear hr he))
          go_roundg (gk / 2)
          case measure => exact HYE.out.2.2.2
          case rel =>
            have hb2 : Y / 2 * 2 ^ (t + 1) ≤ b := by
              rw [Nat.pow_succ', ← Nat.mul_assoc, HYE.out.1]; exact HT.out
            refine ⟨Y / 2, t + 1, HYE.out.2.2.1, HYE.out.2.1, ?_, by go_num, HX2, HY2, HB2, ⟨by rw [HS.out, HE.out, Nat.pow_succ', ← Nat.mul_assoc, Nat.mul_comm (Nat.gcd (gk / 2) (Y / 2)) 2]⟩, ⟨hb2⟩⟩
            have h1 : 2 ^ (t + 1) ≤ b := Nat.le_trans (Nat.le_mul_of_pos_left _ HYE.out.2.1) hb2
            have h2 : ¬ blen b ≤ t + 1 := fun h => by have := blen_le.1 h; omega
            rw [HM.out] at h2; omega
        · have hyb : (((y1 : Nat) : Int) % 2 == 0) = false := beq_eq_false_iff_ne.2 (by omega)
          have hodd : Nat.gcd gk Y % 2 = 1 := gcd_odd (by omega)
          obtain ⟨h, hh⟩ : ∃ h, Nat.gcd gk Y = h := ⟨_, rfl⟩
          rw [hh] at hodd HS
          have HH := Aside.mk hh
          have HO := Aside.mk hodd
          have HHB : Aside (h * 2 ^ t ≤ b) := ⟨Nat.le_trans (Nat.mul_le_mul_right _ (by rw [← hh]; exact Nat.le_of_dvd hY0 (Nat.gcd_dvd_right _ _))) HT.out⟩
          clear hodd hh hxe hxm hym hyy hcond hX0 hY0
          go_wp2
          go_loopg [0, 1] (gk + Y) (fun k x y wr2 => ∃ (X2 Y2 : Nat), k = X2 + Y2 ∧ 0 < X2 ∧ Aside (RV wr2 x (dig X2)) ∧ Aside (RV wr2 y (dig Y2)) ∧ Aside (Ext w wr2) ∧ Aside (Nat.gcd X2 Y2 = h))
          case atStart => exact ⟨gk, Y, rfl, HX0.out, HX, HY, HB, HH⟩
          case round =>
            obtain ⟨gk2, ek2⟩ : ∃ z, z = gk := ⟨_, rfl⟩
            subst ek2
            obtain ⟨wr2, ew2⟩ : ∃ z, z = wr := ⟨_, rfl⟩
            subst ew2
            obtain ⟨X2, Y2, hk2, hX2, HX2, HY2, HB2, HH2⟩ := hrel
            obtain ⟨K, hK⟩ : ∃ K, K = X2 + Y2 := ⟨_, rfl⟩
            have HK2 := Aside.mk hk2
            have HXP := Aside.mk hX2
            clear hk2 hX2 hK
            rcases Nat.eq_zero_or_pos Y2 with rfl | hY2
            · obtain ⟨A2, c2', rfl, _⟩ := HX2.out
              obtain ⟨B2, d2, rfl, _⟩ := HY2.out
              have h0 : (dig 0).length = 0 := by rw [dig_zero]; rfl
              rw [h0]
              have HXH : Aside (X2 = h) := ⟨by have := HH2.out; rwa [Nat.gcd_zero_right] at this⟩
              rw [HXH.out] at HX2 ⊢
              clear h0
              go_wp2
              go_loopw [0, 7] (fun x i wr3 => ∃ k : Nat, k ≤ t ∧ i = .int .i64 (k : Int) ∧ Aside (RV wr3 x (dig (h * 2 ^ k))) ∧ Aside (Ext w wr3)) (fun _ i _ => t - (intOf i).toNat)
              case atStart => exact ⟨0, Nat.zero_le _, rfl, ⟨by simpa using HX2.out⟩, HB2⟩
              case round =>
                obtain ⟨k, hk, rfl, HX3, HB3⟩ := hrel
                by_cases hkt : k < t
                · have HLEN : Aside ((dig (h * 2 ^ k)).length < 1073741824) := ⟨HBL.out _ (Nat.le_trans (Nat.mul_le_mul_left _ (Nat.pow_le_pow_right (by decide) hk)) HHB.out)⟩
                  have HTW : Aside (2 * (h * 2 ^ k) + 0 = h * 2 ^ (k + 1)) := ⟨by rw [Nat.add_zero, Nat.pow_succ', Nat.mul_left_comm]⟩
                  go_wp2_with (go_at_call 129; with_reducible refine (rtwice_0 HX3.out HLEN.out HTW.out).mono ?_; rintro e w5 ⟨r5, rfl, hr, he⟩; have HX5 := Aside.mk hr.rv; have HB5 := Aside.mk (HB3.out.trans he); clear hr he)
                  go_roundw
                  case rel => exact ⟨k + 1, by omega, by go_num, HX5, HB5⟩
                  case measure => simp [intOf]; omega
                · have hkt' : k = t := by omega
                  subst hkt'
                  rw [← HS.out] at HX3
                  go_wp2_with (at_builtin; (refine copy_rv rfl _ _ rfl _ _ HX3.out rfl rfl ?_; intro v1 w9 h9 e9; have HV9 := Aside.mk h9; have HE9 := Aside.mk e9; clear h9 e9))
                  go_ret
                  exact ⟨_, rfl, HV9.out.mono HB3.out.size, HB3.out.trans HE9.out⟩
            · have HYP := Aside.mk hY2
              obtain ⟨bd2, n3, c3, y2, rfl, hcy2, _, _, hcn3, _⟩ := HY2.out.first hY2
              clear hY2
              go_wp2
              go_loopg [0] X2 (fun k x wr3 => 0 < k ∧ k ≤ X2 ∧ Aside (RV wr3 x (dig k)) ∧ Aside (RV wr3 (.slice (some bd2) (n3 + 1) c3) (dig Y2)) ∧ Aside (Ext w wr3) ∧ Aside (Nat.gcd k Y2 = h))
              case atStart => exact ⟨HXP.out, Nat.le_refl _, HX2, HY2, HB2, HH2⟩
              case round =>
                obtain ⟨gk3, ek3⟩ : ∃ z, z = gk := ⟨_, rfl⟩
                subst ek3
                obtain ⟨wr3, ew3⟩ : ∃ z, z = wr := ⟨_, rfl⟩
                subst ew3
                obtain ⟨hk0, hkX, HX3, HY3, HB3, HH3⟩ := hrel
                obtain ⟨ad3, n4, c4, x3, rfl, hcx3, hxm3, hx43, hcn4, _⟩ := HX3.out.first hk0
                have HKX := Aside.mk hkX
                have HK0 := Aside.mk hk0
                rcases Nat.mod_two_eq_zero_or_one gk3 with hx | hx
                · have hxb3 : (((x3 : Nat) : Int) % 2 == 0) = true := beq_iff_eq.2 (by omega)
                  have HQ : Aside (0 < gk3 / 2 ∧ gk3 / 2 ≤ X2 ∧ gk3 / 2 < gk3) := ⟨by omega⟩
                  have HH4 := Aside.mk (gcd_half_left HH3.out HO.out hx)
                  clear hx hk0 hkX hxm3
                  go_wp2_with (go_at_call 127; with_reducible refine (rhalf_n HX3.out).mono ?_; rintro e w5 ⟨r5, rfl, hr, he⟩; have HX5 := Aside.mk hr.rv; have HB5 := Aside.mk (HB3.out.trans he); have HY5 := Aside.mk (HY3.out.ext he); clear hr he)
                  go_roundg (gk3 / 2)
                  case measure => exact HQ.out.2.2
                  case rel => exact ⟨HQ.out.1, HQ.out.2.1, HX5, HY5, HB5, HH4⟩
                · have hxb3 : (((x3 : Nat) : Int) % 2 == 0) = false := beq_eq_false_iff_ne.2 (by omega)
                  clear hx hk0 hkX hxm3
                  go_wp2
                  go_loopg [1] Y2 (fun k y wr4 => 0 < k ∧ k ≤ Y2 ∧ Aside (RV wr4 y (dig k)) ∧ Aside (RV wr4 (.slice (some ad3) (n4 + 1) c4) (dig gk3)) ∧ Aside (Ext w wr4) ∧ Aside (Nat.gcd gk3 k = h))
                  case atStart => exact ⟨HYP.out, Nat.le_refl _, HY3, HX3, HB3, HH3⟩
                  case round =>
                    obtain ⟨gk4, ek4⟩ : ∃ z, z = gk := ⟨_, rfl⟩
                    subst ek4
                    obtain ⟨wr4, ew4⟩ : ∃ z, z = wr := ⟨_, rfl⟩
                    subst ew4
                    obtain ⟨hk04, hkY, HY4, HX4, HB4, HH4⟩ := hrel
                    obtain ⟨bd4, n5, c5, y4, rfl, hcy4, hym4, hy44, hcn5, _⟩ := HY4.out.first hk04
                    have HKY := Aside.mk hkY
                    rcases Nat.mod_two_eq_zero_or_one gk4 with hy | hy
                    · have hyb4 : (((y4 : Nat) : Int) % 2 == 0) = true := beq_iff_eq.2 (by omega)
                      have HQ : Aside (0 < gk4 / 2 ∧ gk4 / 2 ≤ Y2 ∧ gk4 / 2 < gk4) := ⟨by omega⟩
                      have HH5 := Aside.mk (gcd_half_right HH4.out HO.out hy)
                      clear hy hk04 hkY hym4
                      go_wp2_with (go_at_call 127; with_reducible refine (rhalf_n HY4.out).mono ?_; rintro e w5 ⟨r5, rfl, hr, he⟩; have HY5 := Aside.mk hr.rv; have HB5 := Aside.mk (HB4.out.trans he); have HX5 := Aside.mk (HX4.out.ext he); clear hr he)
                      go_roundg (gk4 / 2)
                      case measure => exact HQ.out.2.2
                      case rel => exact ⟨HQ.out.1, HQ.out.2.1, HY5, HX5, HB5, HH5⟩
                    · have hyb4 : (((y4 : Nat) : Int) % 2 == 0) = false := beq_eq_false_iff_ne.2 (by omega)
                      have HK4 := Aside.mk hk04
                      have hcg := @cmpN_gt gk3 gk4
                      clear hy hk04 hkY hym4
                      rcases Nat.lt_or_ge gk4 gk3 with hgt | hle
                      · have hcf : decide ((0 : Int) < cmpN gk3 gk4) = true := by rw [hcg]; simp; omega
                        have HGT := Aside.mk hgt
                        clear hcg hgt
                        go_wp2_with (first | (go_at_call 120; with_reducible refine (rcompare_calls HX4.out HY4.out).mono ?_; rintro e w5 ⟨rfl, he⟩; have HE5 := Aside.mk (Ext.of_drewN he); have HX5 := Aside.mk (HX4.out.ext HE5.out); have HY5 := Aside.mk (HY4.out.ext HE5.out); have HB5 := Aside.mk (HB4.out.trans HE5.out); clear he) | (go_at_call 128; with_reducible refine (rsub_n HX5.out HY5.out (Nat.le_of_lt HGT.out)).mono ?_; rintro e w6 ⟨r6, rfl, hr, he⟩; have HZ6 := Aside.mk hr.rv; have HY6 := Aside.mk (HY5.out.ext he); have HB6 := Aside.mk (HB5.out.trans he); clear hr he))
                        go_roundg (gk4 + (gk3 - gk4))
                        case measure => have := HK2.out; have := HGT.out; have := HKX.out; have := HYP.out; omega
                        case rel => exact ⟨gk4, gk3 - gk4, rfl, HK4.out, HY6, HZ6, HB6, ⟨by rw [← HH4.out, Nat.gcd_comm gk3 gk4]; exact Nat.gcd_sub_self_right (Nat.le_of_lt HGT.out)⟩⟩
                      · have hcf : decide ((0 : Int) < cmpN gk3 gk4) = false := by rw [hcg]; simp; omega
                        have HLE := Aside.mk hle
                        clear hcg hle
                        go_wp2_with (first | (go_at_call 120; with_reducible refine (rcompare_calls HX4.out HY4.out).mono ?_; rintro e w5 ⟨rfl, he⟩; have HE5 := Aside.mk (Ext.of_drewN he); have HX5 := Aside.mk (HX4.out.ext HE5.out); have HY5 := Aside.mk (HY4.out.ext HE5.out); have HB5 := Aside.mk (HB4.out.trans HE5.out); clear he) | (go_at_call 128; with_reducible refine (rsub_n HY5.out HX5.out HLE.out).mono ?_; rintro e w6 ⟨r6, rfl, hr, he⟩; have HZ6 := Aside.mk hr.rv; have HX6 := Aside.mk (HX5.out.ext he); have HB6 := Aside.mk (HB5.out.trans he); clear hr he))
                        go_roundg (gk3 + (gk4 - gk3))
                        case measure => have := HK2.out; have := HLE.out; have := HKY.out; have := HXP.out; omega
                        case rel => exact ⟨gk3, gk4 - gk3, rfl, HK0.out, HX6, HZ6, HB6, ⟨gcd_sub HH4.out HLE.out⟩⟩
      · have hxb : (((x1 : Nat) : Int) % 2 == 0) = false := beq_eq_false_iff_ne.2 (by omega)
        have hodd : Nat.gcd gk Y % 2 = 1 := gcd_odd (by omega)
        obtain ⟨h, hh⟩ : ∃ h, Nat.gcd gk Y = h := ⟨_, rfl⟩
        rw [hh] at hodd HS
        have HH := Aside.mk hh
        have HO := Aside.mk hodd
        have HHB : Aside (h * 2 ^ t ≤ b) := ⟨Nat.le_trans (Nat.mul_le_mul_right _ (by rw [← hh]; exact Nat.le_of_dvd hY0 (Nat.gcd_dvd_right _ _))) HT.out⟩
        clear hodd hh hxe hxm hym hyy hcond hX0 hY0
        go_wp2
        go_loopg [0, 1] (gk + Y) (fun k x y wr2 => ∃ (X2 Y2 : Nat), k = X2 + Y2 ∧ 0 < X2 ∧ Aside (RV wr2 x (dig X2)) ∧ Aside (RV wr2 y (dig Y2)) ∧ Aside (Ext w wr2) ∧ Aside (Nat.gcd X2 Y2 = h))
        case atStart => exact ⟨gk, Y, rfl, HX0.out, HX, HY, HB, HH⟩
        case round =>
          obtain ⟨gk2, ek2⟩ : ∃ z, z = gk := ⟨_, rfl⟩
          subst ek2
          obtain ⟨wr2, ew2⟩ : ∃ z, z = wr := ⟨_, rfl⟩
          subst ew2
          obtain ⟨X2, Y2, hk2, hX2, HX2, HY2, HB2, HH2⟩ := hrel
          obtain ⟨K, hK⟩ : ∃ K, K = X2 + Y2 := ⟨_, rfl⟩
          have HK2 := Aside.mk hk2
          have HXP := Aside.mk hX2
          clear hk2 hX2 hK
          rcases Nat.eq_zero_or_pos Y2 with rfl | hY2
          · obtain ⟨A2, c2', rfl, _⟩ := HX2.out
            obtain ⟨B2, d2, rfl, _⟩ := HY2.out
            have h0 : (dig 0).length = 0 := by rw [dig_zero]; rfl
            rw [h0]
            have HXH : Aside (X2 = h) := ⟨by have := HH2.out; rwa [Nat.gcd_zero_right] at this⟩
            rw [HXH.out] at HX2 ⊢
            clear h0
            go_wp2
            go_loopw [0, 7] (fun x i wr3 => ∃ k : Nat, k ≤ t ∧ i = .int .i64 (k : Int) ∧ Aside (RV wr3 x (dig (h * 2 ^ k))) ∧ Aside (Ext w wr3)) (fun _ i _ => t - (intOf i).toNat)
            case atStart => exact ⟨0, Nat.zero_le _, rfl, ⟨by simpa using HX2.out⟩, HB2⟩
            case round =>
              obtain ⟨k, hk, rfl, HX3, HB3⟩ := hrel
              by_cases hkt : k < t
              · have HLEN : Aside ((dig (h * 2 ^ k)).length < 1073741824) := ⟨HBL.out _ (Nat.le_trans (Nat.mul_le_mul_left _ (Nat.pow_le_pow_right (by decide) hk)) HHB.out)⟩
                have HTW : Aside (2 * (h * 2 ^ k) + 0 = h * 2 ^ (k + 1)) := ⟨by rw [Nat.add_zero, Nat.pow_succ', Nat.mul_left_comm]⟩
                go_wp2_with (go_at_call 129; with_reducible refine (rtwice_0 HX3.out HLEN.out HTW.out).mono ?_; rintro e w5 ⟨r5, rfl, hr, he⟩; have HX5 := Aside.mk hr.rv; have HB5 := Aside.mk (HB3.out.trans he); clear hr he)
                go_roundw
                case rel => exact ⟨k + 1, by omega, by go_num, HX5, HB5⟩
                case measure => simp [intOf]; omega
              · have hkt' : k = t := by omega
                subst hkt'
                rw [← HS.out] at HX3
                go_wp2_with (at_builtin; (refine copy_rv rfl _ _ rfl _ _ HX3.out rfl rfl ?_; intro v1 w9 h9 e9; have HV9 := Aside.mk h9; have HE9 := Aside.mk e9; clear h9 e9))
                go_ret
                exact ⟨_, rfl, HV9.out.mono HB3.out.size, HB3.out.trans HE9.out⟩
          · have HYP := Aside.mk hY2
            obtain ⟨bd2, n3, c3, y2, rfl, hcy2, _, _, hcn3, _⟩ := HY2.out.first hY2
            clear hY2
            go_wp2
            go_loopg [0] X2 (fun k x wr3 => 0 < k ∧ k ≤ X2 ∧ Aside (RV wr3 x (dig k)) ∧ Aside (RV wr3 (.slice (some bd2) (n3 + 1) c3) (dig Y2)) ∧ Aside (Ext w wr3) ∧ Aside (Nat.gcd k Y2 = h))
            case atStart => exact ⟨HXP.out, Nat.le_refl _, HX2, HY2, HB2, HH2⟩
            case round =>
              obtain ⟨gk3, ek3⟩ : ∃ z, z = gk := ⟨_, rfl⟩
              subst ek3
              obtain ⟨wr3, ew3⟩ : ∃ z, z = wr := ⟨_, rfl⟩
              subst ew3
              obtain ⟨hk0, hkX, HX3, HY3, HB3, HH3⟩ := hrel
              obtain ⟨ad3, n4, c4, x3, rfl, hcx3, hxm3, hx43, hcn4, _⟩ := HX3.out.first hk0
              have HKX := Aside.mk hkX
              have HK0 := Aside.mk hk0
              rcases Nat.mod_two_eq_zero_or_one gk3 with hx | hx
              · have hxb3 : (((x3 : Nat) : Int) % 2 == 0) = true := beq_iff_eq.2 (by omega)
                have HQ : Aside (0 < gk3 / 2 ∧ gk3 / 2 ≤ X2 ∧ gk3 / 2 < gk3) := ⟨by omega⟩
                have HH4 := Aside.mk (gcd_half_left HH3.out HO.out hx)
                clear hx hk0 hkX hxm3
                go_wp2_with (go_at_call 127; with_reducible refine (rhalf_n HX3.out).mono ?_; rintro e w5 ⟨r5, rfl, hr, he⟩; have HX5 := Aside.mk hr.rv; have HB5 := Aside.mk (HB3.out.trans he); have HY5 := Aside.mk (HY3.out.ext he); clear hr he)
                go_roundg (gk3 / 2)
                case measure => exact HQ.out.2.2
                case rel => exact ⟨HQ.out.1, HQ.out.2.1, HX5, HY5, HB5, HH4⟩
              · have hxb3 : (((x3 : Nat) : Int) % 2 == 0) = false := beq_eq_false_iff_ne.2 (by omega)
                clear hx hk0 hkX hxm3
                go_wp2
                go_loopg [1] Y2 (fun k y wr4 => 0 < k ∧ k ≤ Y2 ∧ Aside (RV wr4 y (dig k)) ∧ Aside (RV wr4 (.slice (some ad3) (n4 + 1) c4) (dig gk3)) ∧ Aside (Ext w wr4) ∧ Aside (Nat.gcd gk3 k = h))
                case atStart => exact ⟨HYP.out, Nat.le_refl _, HY3, HX3, HB3, HH3⟩
                case round =>
                  obtain ⟨gk4, ek4⟩ : ∃ z, z = gk := ⟨_, rfl⟩
                  subst ek4
                  obtain ⟨wr4, ew4⟩ : ∃ z, z = wr := ⟨_, rfl⟩
                  subst ew4
                  obtain ⟨hk04, hkY, HY4, HX4, HB4, HH4⟩ := hrel
                  obtain ⟨bd4, n5, c5, y4, rfl, hcy4, hym4, hy44, hcn5, _⟩ := HY4.out.first hk04
                  have HKY := Aside.mk hkY
                  rcases Nat.mod_two_eq_zero_or_one gk4 with hy | hy
                  · have hyb4 : (((y4 : Nat) : Int) % 2 == 0) = true := beq_iff_eq.2 (by omega)
                    have HQ : Aside (0 < gk4 / 2 ∧ gk4 / 2 ≤ Y2 ∧ gk4 / 2 < gk4) := ⟨by omega⟩
                    have HH5 := Aside.mk (gcd_half_right HH4.out HO.out hy)
                    clear hy hk04 hkY hym4
                    go_wp2_with (go_at_call 127; with_reducible refine (rhalf_n HY4.out).mono ?_; rintro e w5 ⟨r5, rfl, hr, he⟩; have HY5 := Aside.mk hr.rv; have HB5 := Aside.mk (HB4.out.trans he); have HX5 := Aside.mk (HX4.out.ext he); clear hr he)
                    go_roundg (gk4 / 2)
                    case measure => exact HQ.out.2.2
                    case rel => exact ⟨HQ.out.1, HQ.out.2.1, HY5, HX5, HB5, HH5⟩
                  · have hyb4 : (((y4 : Nat) : Int) % 2 == 0) = false := beq_eq_false_iff_ne.2 (by omega)
                    have HK4 := Aside.mk hk04
                    have hcg := @cmpN_gt gk3 gk4
                    clear hy hk04 hkY hym4
                    rcases Nat.lt_or_ge gk4 gk3 with hgt | hle
                    · have hcf : decide ((0 : Int) < cmpN gk3 gk4) = true := by rw [hcg]; simp; omega
                      have HGT := Aside.mk hgt
                      clear hcg hgt
                      go_wp2_with (first | (go_at_call 120; with_reducible refine (rcompare_calls HX4.out HY4.out).mono ?_; rintro e w5 ⟨rfl, he⟩; have HE5 := Aside.mk (Ext.of_drewN he); have HX5 := Aside.mk (HX4.out.ext HE5.out); have HY5 := Aside.mk (HY4.out.ext HE5.out); have HB5 := Aside.mk (HB4.out.trans HE5.out); clear he) | (go_at_call 128; with_reducible refine (rsub_n HX5.out HY5.out (Nat.le_of_lt HGT.out)).mono ?_; rintro e w6 ⟨r6, rfl, hr, he⟩; have HZ6 := Aside.mk hr.rv; have HY6 := Aside.mk (HY5.out.ext he); have HB6 := Aside.mk (HB5.out.trans he); clear hr he))
                      go_roundg (gk4 + (gk3 - gk4))
                      case measure => have := HK2.out; have := HGT.out; have := HKX.out; have := HYP.out; omega
                      case rel => exact ⟨gk4, gk3 - gk4, rfl, HK4.out, HY6, HZ6, HB6, ⟨by rw [← HH4.out, Nat.gcd_comm gk3 gk4]; exact Nat.gcd_sub_self_right (Nat.le_of_lt HGT.out)⟩⟩
                    · have hcf : decide ((0 : Int) < cmpN gk3 gk4) = false := by rw [hcg]; simp; omega
                      have HLE := Aside.mk hle
                      clear hcg hle
                      go_wp2_with (first | (go_at_call 120; with_reducible refine (rcompare_calls HX4.out HY4.out).mono ?_; rintro e w5 ⟨rfl, he⟩; have HE5 := Aside.mk (Ext.of_drewN he); have HX5 := Aside.mk (HX4.out.ext HE5.out); have HY5 := Aside.mk (HY4.out.ext HE5.out); have HB5 := Aside.mk (HB4.out.trans HE5.out); clear he) | (go_at_call 128; with_reducible refine (rsub_n HY5.out HX5.out HLE.out).mono ?_; rintro e w6 ⟨r6, rfl, hr, he⟩; have HZ6 := Aside.mk hr.rv; have HX6 := Aside.mk (HX5.out.ext he); have HB6 := Aside.mk (HB5.out.trans he); clear hr he))
                      go_roundg (gk3 + (gk4 - gk3))
                      case measure => have := HK2.out; have := HLE.out; have := HKY.out; have := HXP.out; omega
                      case rel => exact ⟨gk3, gk4 - gk3, rfl, HK0.out, HX6, HZ6, HB6, ⟨gcd_sub HH4.out HLE.out⟩⟩
end Go.Proofs.YtgfkachfbnbikaaGreatDoor
