/- The law ShapeBacks: it returns true. ShapeBacks: of every input the call returns true, and each argument reads behind it as it read before. ShapeBacks: the tied card holds: for any Types and Rats Back returns the values of the specification, or its errors. Conditions: the package-level variables that the row lists start as the program's text lays them (the tie is given). -/
import Derived.Test.YtcbaipnphepbeaaGreatDoorNy
import Derived.Test.YtcbaipnphepbeaaGreatDoorNr
import Derived.Test.YtcbaipnphepbeaaGreatDoorNu
import Derived.Test.YtcbaipnphepbeaaGreatDoorCards
import Derived.Test.YtcbaipnphepbeaaGreatDoorTie
import Derived.SevenTiedAt
namespace Go.Proofs.YtcbaipnphepbeaaGreatDoor
open Go.RowKit
attribute [local go_sem ↓] Go.wp_at_zero Go.wp_at_succ

/-- The error of a list of types. -/
def tyE (l : List (Int × List Int)) : Int := if 64 < l.length then 3 else match l.find? (fun q => errT q != 0) with | some q => errT q | none => 0
theorem tyE_long {l : List (Int × List Int)} (h : 64 < l.length) : tyE l = 3 := if_pos h
theorem tyE_at {l : List (Int × List Int)} {j : Nat} {q : Int × List Int} (h : ¬ 64 < l.length) (hj : l[j]? = some q) (hq : errT q ≠ 0) (hb : ∀ x ∈ l.take j, errT x = 0) : tyE l = errT q := by
  unfold tyE
  rw [if_neg h, find_first hj (by simp [bne, hq]) (fun x hx => by simp [bne, hb x hx])]
theorem tyE_ok {l : List (Int × List Int)} (h : ¬ 64 < l.length) (hb : ∀ x ∈ l, errT x = 0) : tyE l = 0 := by
  unfold tyE
  rw [if_neg h, List.find?_eq_none.2 (fun x hx => by simp [bne, hb x hx])]
theorem tyE_zero {l : List (Int × List Int)} (h : tyE l = 0) : ¬ 64 < l.length ∧ ∀ x ∈ l, errT x = 0 := by
  unfold tyE at h
  split at h
  · cases h
  · rename_i h64
    refine ⟨h64, ?_⟩
    split at h
    · rename_i q hq
      have := List.find?_some hq
      simp [bne, h] at this
    · rename_i hn
      intro x hx
      have := List.find?_eq_none.1 hn x hx
      simpa [bne] using this
theorem backR_tyE {l : List (Int × List Int)} {ns : List Rq} (h : tyE l ≠ 0) : backR l ns = ([], tyE l) := by
  unfold tyE at h ⊢
  unfold backR
  by_cases h64 : 64 < l.length
  · rw [if_pos h64, if_pos h64]
  · rw [if_neg h64] at h ⊢
    rw [if_neg h64]
    cases hf : l.find? (fun q => errT q != 0) with
    | none => rw [hf] at h; exact absurd rfl h
    | some q => rfl
/-- And of their numbers. -/
def maE (l : List (Int × List Int)) (N : Nat) : Int := if tyE l ≠ 0 then tyE l else if manyN l ≠ N then 2 else 0
theorem backR_maE {l : List (Int × List Int)} {ns : List Rq} (h : maE l ns.length ≠ 0) : backR l ns = ([], maE l ns.length) := by
  unfold maE at h ⊢
  by_cases ht : tyE l ≠ 0
  · rw [if_pos ht]; exact backR_tyE ht
  · rw [if_neg ht] at h ⊢
    obtain ⟨h1, h2⟩ := tyE_zero (Classical.not_not.1 ht)
    rw [backR_good h1 h2]
    by_cases hm : manyN l ≠ ns.length
    · rw [if_pos hm, if_pos hm]
    · rw [if_neg hm] at h; exact absurd rfl h
theorem backR_nums {l : List (Int × List Int)} {ns : List Rq} (h : maE l ns.length = 0) : (¬ 64 < l.length ∧ (∀ x ∈ l, errT x = 0) ∧ manyN l = ns.length) ∧ backR l ns = if (ns.any fun q => !okq q) = true then ([], 5) else (fillV l ns, 0) := by
  unfold maE at h
  by_cases ht : tyE l ≠ 0
  · rw [if_pos ht] at h; exact absurd h ht
  · rw [if_neg ht] at h
    obtain ⟨h1, h2⟩ := tyE_zero (Classical.not_not.1 ht)
    by_cases hm : manyN l ≠ ns.length
    · rw [if_pos hm] at h; cases h
    · rw [backR_good h1 h2, if_neg hm]
      exact ⟨⟨h1, h2, Classical.not_not.1 hm⟩, rfl⟩
theorem errT_eq (q : Int × List Int) : errT q = if tyOk q.1 q.2 = true then (if q.1 = 3 then 12 else 0) else 5 := by
  unfold errT sizeR
  split
  · split <;> rfl
  · rfl
theorem errT_dims {q : Int × List Int} (h : errT q = 0) : Dims q.2 := by
  rw [errT_eq] at h
  split at h
  · rename_i ht; exact tyOk_dims ht
  · cases h
theorem manyQ_N {l : List (Int × List Int)} (h : ∀ q ∈ l, Dims q.2) : manyQ l = (manyN l : Int) := by
  have : ∀ (l : List (Int × List Int)) (a : Int), (∀ q ∈ l, Dims q.2) → l.foldl (fun a q => a + (if q.1 = 1 then prodI q.2 else 0)) a = a + (manyN l : Int) := by
    intro l
    induction l with
    | nil => intro a _; simp [manyN]
    | cons q l ih =>
      intro a h
      rw [List.foldl_cons, ih _ fun x hx => h x (List.mem_cons_of_mem _ hx), manyN_cons]
      have hp := (h q List.mem_cons_self).prod
      unfold nQ
      split <;> omega
  have := this l 0 h
  rw [Int.zero_add] at this
  exact this
/-- Where the loop over the types stands. -/
def St1 (l : List (Int × List Int)) (j : Nat) (b : Int) : Prop := (b = 0 ∧ ¬ 64 < l.length ∧ ∀ x ∈ l.take j, errT x = 0) ∨ (b ≠ 0 ∧ b = tyE l)
theorem St1.start {l : List (Int × List Int)} : St1 l 0 (if 64 < l.length then 3 else 0) := by
  by_cases h : 64 < l.length
  · rw [if_pos h]; exact .inr ⟨by decide, (tyE_long h).symm⟩
  · rw [if_neg h]; exact .inl ⟨rfl, h, by simp⟩
theorem St1.go {l : List (Int × List Int)} {j : Nat} {q : Int × List Int} (h : St1 l j 0) (hj : l[j]? = some q) : St1 l (j + 1) (errT q) := by
  rcases h with ⟨_, h1, h2⟩ | ⟨h, _⟩
  · by_cases hq : errT q = 0
    · rw [hq]
      refine .inl ⟨rfl, h1, fun x hx => ?_⟩
      rw [List.take_add_one, hj] at hx
      rcases List.mem_append.1 hx with hx | hx
      · exact h2 x hx
      · rw [show x = q from by simpa using hx]; exact hq
    · exact .inr ⟨hq, (tyE_at h1 hj hq h2).symm⟩
  · exact absurd rfl h
theorem St1.fin {l : List (Int × List Int)} {j : Nat} {b : Int} (h : St1 l j b) (hj : b ≠ 0 ∨ j = l.length) : b = tyE l := by
  rcases h with ⟨h0, h1, h2⟩ | ⟨_, h⟩
  · rcases hj with hj | hj
    · exact absurd h0 hj
    · rw [hj, List.take_length] at h2
      rw [h0, tyE_ok h1 h2]
  · exact h
/-- Where the loop over the numbers stands. -/
def St2 (ns : List Rq) (e3 e4 : Int) (j : Nat) (b : Int) : Prop := (b = 0 ∧ e3 = 0 ∧ ((ns.take j).any fun q => !okq q) = false) ∨ (b ≠ 0 ∧ b = e4)
theorem St2.start {l : List (Int × List Int)} {ns : List Rq} {vs : List Vq} {e4 : Int} (h : backR l ns = (vs, e4)) : St2 ns (maE l ns.length) e4 0 (maE l ns.length) := by
  by_cases he : maE l ns.length = 0
  · exact .inl ⟨he, he, by simp⟩
  · refine .inr ⟨he, ?_⟩
    rw [backR_maE he] at h
    injection h
theorem St2.go {l : List (Int × List Int)} {ns : List Rq} {vs : List Vq} {e4 : Int} {j : Nat} {x : Rq} (hb : backR l ns = (vs, e4)) (h : St2 ns (maE l ns.length) e4 j 0) (hj : ns[j]? = some x) : St2 ns (maE l ns.length) e4 (j + 1) (if okq x = true then 0 else 5) := by
  rcases h with ⟨_, h1, h2⟩ | ⟨h, _⟩
  · cases hx : okq x with
    | true =>
      refine .inl ⟨rfl, h1, ?_⟩
      rw [List.take_add_one, hj, List.any_append, h2]
      simp [hx]
    | false =>
      refine .inr ⟨by decide, ?_⟩
      rw [(backR_nums h1).2, if_pos (List.any_eq_true.2 ⟨x, List.mem_of_getElem? hj, by rw [hx]; rfl⟩)] at hb
      injection hb
  · exact absurd rfl h
theorem St2.fin {l : List (Int × List Int)} {ns : List Rq} {vs : List Vq} {e4 : Int} {j : Nat} {b : Int} (hb : backR l ns = (vs, e4)) (h : St2 ns (maE l ns.length) e4 j b) (hj : b ≠ 0 ∨ j = ns.length) : b = e4 := by
  rcases h with ⟨h0, h1, h2⟩ | ⟨_, h⟩
  · rcases hj with hj | hj
    · exact absurd h0 hj
    · rw [hj, List.take_length] at h2
      rw [(backR_nums h1).2, h2, if_neg (by decide)] at hb
      injection hb with _ hb
      rw [h0, ← hb]
  · exact h
theorem backR_err {l : List (Int × List Int)} {ns : List Rq} {vs : List Vq} {e4 : Int} (h : backR l ns = (vs, e4)) (he : e4 ≠ 0) : vs = [] := by
  by_cases h0 : maE l ns.length = 0
  · rw [(backR_nums h0).2] at h
    split at h
    · injection h with h; exact h.symm
    · injection h with _ h; exact absurd h.symm he
  · rw [backR_maE h0] at h
    injection h with h; exact h.symm
theorem backR_fine {l : List (Int × List Int)} {ns : List Rq} {vs : List Vq} (h : backR l ns = (vs, 0)) : vs = fillV l ns ∧ manyN l = ns.length ∧ ∀ q ∈ l, Dims q.2 := by
  by_cases h0 : maE l ns.length = 0
  · obtain ⟨⟨_, h2, h3⟩, h4⟩ := backR_nums h0
    rw [h4] at h
    split at h
    · injection h with _ h; cases h
    · injection h with h; exact ⟨h.symm, h3, fun q hq => errT_dims (h2 q hq)⟩
  · rw [backR_maE h0] at h
    injection h with _ h; exact absurd h h0
theorem rats2000 {w : World} {v : Value} {l : List Rq} {xs : List Rq} (h : RawL 4 RatL w v l) (hx : (l.take 2000).map cutq = xs) :
    Calls Tryz.prog 48 #[v, .int .i64 2000] w fun e w' => ∃ A c, e = .returned (.slice A xs.length c) ∧ QV w' (.slice A xs.length c) xs ∧ Ext w w' := by
  subst hx
  refine (rats_calls (most := 2000) h (by decide)).mono ?_
  rintro e w' ⟨r, rfl, hr, he⟩
  have hv := hr.sv.mono (fun _ _ h => RatO.c h)
  obtain ⟨A, c, rfl, _⟩ := hv.form
  exact ⟨A, c, rfl, hv, he⟩
theorem back_to {w : World} {tv nv : Value} {l : List (Int × List Int)} {ns : List Rq} {vs : List Vq} {e0 : Int} {k : Nat} (ht : LT w tv l) (hn : QV w nv ns) (hm : backR l ns = (vs, e0)) (hk : vs.length = k) :
    Calls Tryz.prog 49 #[tv, nv] w fun e w' => ∃ A c, e = .returned (.tuple #[.slice A k c, .int .i64 e0]) ∧ LV w' (.slice A k c) vs ∧ Ext w w' := by
  subst hk
  refine (shBack_calls ht hn hm).mono ?_
  rintro e w' ⟨⟨A, c, rfl, h⟩, he⟩
  exact ⟨A, c, rfl, h, he⟩
set_option maxRecDepth 10000 in
set_option maxHeartbeats 8000000 in
theorem lwBacks_calls {w : World} {s1 s2 : Value} {lr : List (Int × List Int)} {nr : List Rq} (hg : Glob3 w) (h1 : RawL 2 TyR w s1 lr) (h2 : RawL 4 RatL w s2 nr) :
    Calls Tryz.prog 10 #[s1, s2] w fun e w' => e = .returned (.bool true) ∧ Ext w w' := by
  have HG := Aside.mk hg
  have HL1 := Aside.mk h1
  have HL2 := Aside.mk h2
  obtain ⟨A1, c1, rfl, _⟩ := h1.form
  obtain ⟨A2, c2, rfl, _⟩ := h2.form
  obtain ⟨l, hl⟩ : ∃ l, (lr.take 66).map cutT = l := ⟨_, rfl⟩
  have HLL := Aside.mk hl
  obtain ⟨ns, hns⟩ : ∃ l, (nr.take 2000).map cutq = l := ⟨_, rfl⟩
  have HNS := Aside.mk hns
  obtain ⟨n, hn⟩ : ∃ n, l.length = n := ⟨_, rfl⟩
  have HLN := Aside.mk hn
  obtain ⟨N, hN⟩ : ∃ n, ns.length = n := ⟨_, rfl⟩
  have HNN := Aside.mk hN
  have hn66 : n ≤ 66 := by rw [← hn, ← hl, List.length_map]; exact List.length_take_le _ _
  have hN2 : N ≤ 2000 := by rw [← hN, ← hns, List.length_map]; exact List.length_take_le _ _
  obtain ⟨vs, e4, hbk⟩ : ∃ vs e, backR l ns = (vs, e) := ⟨_, _, rfl⟩
  have HBK := Aside.mk hbk
  obtain ⟨kv, hkv⟩ : ∃ n, vs.length = n := ⟨_, rfl⟩
  have HVN := Aside.mk hkv
  have HL66 : Aside (l.length ≤ 66) := ⟨by omega⟩
  obtain ⟨e1, he1⟩ : ∃ e : Int, (if 64 < l.length then 3 else 0) = e := ⟨_, rfl⟩
  have HE1 := Aside.mk he1
  obtain ⟨e2, he2⟩ : ∃ e : Int, tyE l = e := ⟨_, rfl⟩
  have HT2E := Aside.mk he2
  obtain ⟨e3, he3⟩ : ∃ e : Int, maE l ns.length = e := ⟨_, rfl⟩
  have HT3E := Aside.mk he3
  have HS2 : Aside (St2 ns e3 e4 0 e3) := ⟨by rw [← he3]; exact St2.start hbk⟩
  generalize lr.length = n1 at *
  generalize nr.length = n2 at *
  clear hg h1 h2 hl hns hn hN hbk hkv he1 he2 he3
  go_enter Tryz.func10, Tryz.ntmps10
  go_upto_if 24 with (first | (go_at_call 47; (with_reducible refine (types_calls HL1.out HLL.out).mono ?_); rw [HLN.out]; rintro e w1 ⟨TA, tc, rfl, hr, he⟩; have HT1 := Aside.mk (hr.sv.mono fun _ _ h => h.c); have E1 := Aside.mk he; clear hr he) | (go_at_call 48; (with_reducible refine (rats2000 (HL2.out.ext RatL.ext E1.out) HNS.out).mono ?_); rw [HNN.out]; rintro e w2 ⟨XA, xc, rfl, hr, he⟩; have HN2 := Aside.mk hr; have HT2 := Aside.mk (HT1.out.ext TypC.ext he); have E2 := Aside.mk (E1.out.trans he); clear hr he) | (go_at_call 49; (with_reducible refine (back_to HT2.out HN2.out HBK.out HVN.out).mono ?_); rintro e w3 ⟨VA, vc, rfl, hr, he⟩; have HV3 := Aside.mk hr; have HT3 := Aside.mk (HT2.out.ext TypC.ext he); have HN3 := Aside.mk (HN2.out.ext RatC.ext he); have E3 := Aside.mk (E2.out.trans he); clear hr he))
  go_cut [9] from 22 to 24 (fun b wx => b = .int .i64 e1 ∧ wx = w3)
  case first =>
    by_cases h64 : 64 < n
    · have h64' : (64 : Int) < (n : Int) := by omega
      have HX : Aside (e1 = 3) := ⟨by rw [← HE1.out, if_pos (by rw [HLN.out]; exact h64)]⟩
      clear h64
      go_wp2_with fail
      go_meet
      exact ⟨by rw [HX.out], rfl⟩
    · have h64' : ¬ (64 : Int) < (n : Int) := by omega
      have HX : Aside (e1 = 0) := ⟨by rw [← HE1.out, if_neg (by rw [HLN.out]; exact h64)]⟩
      clear h64
      go_wp2_with fail
      go_meet
      exact ⟨by rw [HX.out], rfl⟩
  case rest =>
    obtain ⟨rfl, rfl⟩ := hcut
    obtain ⟨w3, rfl⟩ : ∃ x, x = wc := ⟨wc, rfl⟩
    have HS1 : Aside (St1 l 0 e1) := ⟨by rw [← HE1.out]; exact St1.start⟩
    go_upto_block 0 with fail
    go_cut [9] from 10 to 46 (fun b wx => b = .int .i64 e2 ∧ Aside (Ext w3 wx))
    case first =>
      go_wp2
      go_loopw [9, 10] (fun bb i wr => ∃ (j : Nat) (b : Int), j ≤ n ∧ bb = .int .i64 b ∧ i = .int .i64 (j : Int) ∧ Aside (St1 l j b) ∧ Aside (Ext w3 wr)) (fun _ i _ => n - (intOf i).toNat)
      case atStart => exact ⟨0, e1, by omega, rfl, rfl, HS1, ⟨Ext.refl _⟩⟩
      case round =>
        clear HS1
        obtain ⟨j, b, hj, rfl, rfl, HS, HE⟩ := hrel
        by_cases hc : j < n ∧ b = 0
        · obtain ⟨hlt, rfl⟩ := hc
          obtain ⟨q, hq⟩ : ∃ q, l[j]? = some q := ⟨l[j]'(by rw [HLN.out]; exact hlt), List.getElem?_eq_getElem _⟩
          obtain ⟨b1, o1, D, d, rfl, hq0, hq1, htq⟩ := LT.at' (SV.ext TypC.ext HT3.out HE.out) j hq
          have HTQ := Aside.mk htq
          have HSN := Aside.mk (HS.out.go hq)
          have hEE := errT_eq q
          obtain ⟨lq, hlq⟩ : ∃ n, q.2.length = n := ⟨_, rfl⟩
          rw [hlq] at hq1 HTQ
          obtain ⟨t, ht⟩ : ∃ t, tyOk q.1 q.2 = t := ⟨_, rfl⟩
          have HTO := Aside.mk ht
          rw [ht] at hEE
          have hp0 : (0 : Int) ≤ (j : Int) := Int.natCast_nonneg _
          have hp1 : (j : Int) < (n : Int) := by omega
          clear hq htq hlq ht
          cases t
          · have HX : Aside (errT q = 5) := ⟨hEE⟩
            clear hEE
            go_wp2_with (go_at_call 36; (with_reducible refine (rIsType_calls HTQ.out HTO.out).mono ?_); rintro e w4 ⟨rfl, he⟩; have HE4 := Aside.mk (HE.out.trans he); have hq4 := he.cell hq0; clear he)
            go_roundw
            case rel => exact ⟨j + 1, 5, by omega, rfl, by go_num, ⟨by have := HSN.out; rwa [HX.out] at this⟩, HE4⟩
            case measure => simp [intOf]; omega
          · rw [if_pos rfl] at hEE
            by_cases hk : q.1 = 3
            · have hk1 : (q.1 == 3) = true := by simp [hk]
              have HX : Aside (errT q = 12) := ⟨by rw [hEE, if_pos hk]⟩
              clear hEE hk
              go_wp2_with (go_at_call 36; (with_reducible refine (rIsType_calls HTQ.out HTO.out).mono ?_); rintro e w4 ⟨rfl, he⟩; have HE4 := Aside.mk (HE.out.trans he); have hq4 := he.cell hq0; clear he)
              go_roundw
              case rel => exact ⟨j + 1, 12, by omega, rfl, by go_num, ⟨by have := HSN.out; rwa [HX.out] at this⟩, HE4⟩
              case measure => simp [intOf]; omega
            · have hk1 : (q.1 == 3) = false := beq_eq_false_iff_ne.2 hk
              have HX : Aside (errT q = 0) := ⟨by rw [hEE, if_neg hk]⟩
              clear hEE hk
              go_wp2_with (go_at_call 36; (with_reducible refine (rIsType_calls HTQ.out HTO.out).mono ?_); rintro e w4 ⟨rfl, he⟩; have HE4 := Aside.mk (HE.out.trans he); have hq4 := he.cell hq0; clear he)
              go_roundw
              case rel => exact ⟨j + 1, 0, by omega, rfl, by go_num, ⟨by have := HSN.out; rwa [HX.out] at this⟩, HE4⟩
              case measure => simp [intOf]; omega
        · have HF : Aside (b = e2) := ⟨by rw [HS.out.fin (by rw [HLN.out]; omega), HT2E.out]⟩
          by_cases hlt : j < n
          · have hb : (b == 0) = false := beq_eq_false_iff_ne.2 (by omega)
            have hp1 : (j : Int) < (n : Int) := by omega
            clear hc
            go_wp2_with fail
            go_meet
            exact ⟨by rw [HF.out], HE⟩
          · have hp1 : ¬ (j : Int) < (n : Int) := by omega
            clear hc
            go_wp2_with fail
            go_meet
            exact ⟨by rw [HF.out], HE⟩
    case rest =>
      clear HS1
      obtain ⟨rfl, HE⟩ := hcut
      go_upto_region 13 with fail
      go_cut [55] from 47 to 55 (fun v wx => ∃ b3, v = .bool b3 ∧ Aside (e3 = if b3 = true then 2 else e2) ∧ Aside (Ext w3 wx))
      case first =>
        by_cases he : e2 = 0
        · have hz := tyE_zero (HT2E.out.trans he)
          have HDA : Aside (∀ q ∈ l, Dims q.2) := ⟨fun q hq => errT_dims (hz.2 q hq)⟩
          obtain ⟨M, hM⟩ : ∃ M, manyN l = M := ⟨_, rfl⟩
          have HMQ : Aside (manyQ l = (M : Int)) := ⟨by rw [manyQ_N HDA.out, hM]⟩
          have H3 : Aside (e3 = if M ≠ N then 2 else 0) := ⟨by rw [← HT3E.out]; unfold maE; rw [if_neg (by rw [HT2E.out]; simp [he]), hM, HNN.out]⟩
          subst he
          clear hz hM
          by_cases hMN : M = N
          · subst hMN
            have hcc : ((M : Int) == (M : Int)) = true := by simp
            have H4 : Aside (e3 = 0) := ⟨by rw [H3.out, if_neg (by simp)]⟩
            clear H3
            go_wp2_with (go_at_call 50; (with_reducible refine (rMany_calls (HT3.out.ext TypC.ext HE.out) HL66.out HDA.out HMQ.out).mono ?_); rintro e w4 ⟨rfl, he⟩; have HE4 := Aside.mk (HE.out.trans he); clear he)
            go_meet
            exact ⟨false, rfl, H4, HE4⟩
          · have hc1 : ((N : Int) == (M : Int)) = false := beq_eq_false_iff_ne.2 (by omega)
            have hc2 : ((N : Int) != (M : Int)) = true := by simp [bne, hc1]
            have H4 : Aside (e3 = 2) := ⟨by rw [H3.out, if_pos hMN]⟩
            clear H3 hMN
            go_wp2_with (go_at_call 50; (with_reducible refine (rMany_calls (HT3.out.ext TypC.ext HE.out) HL66.out HDA.out HMQ.out).mono ?_); rintro e w4 ⟨rfl, he⟩; have HE4 := Aside.mk (HE.out.trans he); clear he)
            go_meet
            exact ⟨true, rfl, H4, HE4⟩
        · have hb : (e2 == 0) = false := beq_eq_false_iff_ne.2 he
          have H4 : Aside (e3 = e2) := ⟨by rw [← HT3E.out]; unfold maE; rw [if_pos (by rw [HT2E.out]; exact he), HT2E.out]⟩
          clear he
          go_wp2_with fail
          go_meet
          exact ⟨false, rfl, H4, HE⟩
      case rest =>
        clear HE
        obtain ⟨b3, rfl, HB3, HE⟩ := hcut
        go_upto_if 55 with fail
        go_cut [9] from 47 to 55 (fun b wx => b = .int .i64 e3 ∧ Aside (Ext w3 wx))
        case first =>
          cases b3
          · have H4 : Aside (e3 = e2) := HB3
            clear HB3
            go_wp2_with fail
            go_meet
            exact ⟨by rw [H4.out], HE⟩
          · have H4 : Aside (e3 = 2) := HB3
            clear HB3
            go_wp2_with fail
            go_meet
            exact ⟨by rw [H4.out], HE⟩
        case rest =>
          clear HE HB3
          obtain ⟨rfl, HE⟩ := hcut
          have HE0 := HE
          go_upto_block 2 with fail
          go_cut [9] from 11 to 71 (fun b wx => b = .int .i64 e4 ∧ Aside (Ext w3 wx))
          case first =>
            clear HE0
            go_wp2
            go_loopw [9, 11] (fun bb i wr => ∃ (j : Nat) (b : Int), j ≤ N ∧ bb = .int .i64 b ∧ i = .int .i64 (j : Int) ∧ Aside (St2 ns e3 e4 j b) ∧ Aside (Ext w3 wr)) (fun _ i _ => N - (intOf i).toNat)
            case atStart => exact ⟨0, e3, by omega, rfl, rfl, HS2, HE⟩
            case round =>
              clear HE HS2
              obtain ⟨j, b, hj, rfl, rfl, HS, HE⟩ := hrel
              have HS3 : Aside (St2 ns (maE l ns.length) e4 j b) := ⟨by rw [HT3E.out]; exact HS.out⟩
              by_cases hc : j < N ∧ b = 0
              · obtain ⟨hlt, rfl⟩ := hc
                obtain ⟨x, hx⟩ : ∃ x, ns[j]? = some x := ⟨ns[j]'(by rw [HNN.out]; exact hlt), List.getElem?_eq_getElem _⟩
                obtain ⟨b1, o1, y1, z1, rfl, hx0, hx1, hx2, hx3, hrx⟩ := QV.at' (HN3.out.ext RatC.ext HE.out) j hx
                have HRX := Aside.mk hrx
                have HSN : Aside (St2 ns e3 e4 (j + 1) (if okq x = true then 0 else 5)) := ⟨by rw [← HT3E.out]; exact HS3.out.go HBK.out hx⟩
                obtain ⟨t, ht⟩ : ∃ t, okq x = t := ⟨_, rfl⟩
                have HOX := Aside.mk ht
                rw [ht] at HSN
                have hp0 : (0 : Int) ≤ (j : Int) := Int.natCast_nonneg _
                have hp1 : (j : Int) < (N : Int) := by omega
                clear hx hrx ht
                cases t
                · have HSF : Aside (St2 ns e3 e4 (j + 1) 5) := HSN
                  clear HSN
                  go_wp2_with (go_at_call 51; (with_reducible refine (risrat_calls HRX.out HOX.out).mono ?_); rintro e w4 ⟨rfl, he⟩; have HE4 := Aside.mk (HE.out.trans he); clear he)
                  go_roundw
                  case rel => exact ⟨j + 1, 5, by omega, rfl, by go_num, HSF, HE4⟩
                  case measure => simp [intOf]; omega
                · have HSF : Aside (St2 ns e3 e4 (j + 1) 0) := HSN
                  clear HSN
                  go_wp2_with (go_at_call 51; (with_reducible refine (risrat_calls HRX.out HOX.out).mono ?_); rintro e w4 ⟨rfl, he⟩; have HE4 := Aside.mk (HE.out.trans he); clear he)
                  go_roundw
                  case rel => exact ⟨j + 1, 0, by omega, rfl, by go_num, HSF, HE4⟩
                  case measure => simp [intOf]; omega
              · have HF : Aside (b = e4) := ⟨HS3.out.fin HBK.out (by rw [HNN.out]; omega)⟩
                by_cases hlt : j < N
                · have hb : (b == 0) = false := beq_eq_false_iff_ne.2 (by omega)
                  have hp1 : (j : Int) < (N : Int) := by omega
                  clear hc
                  go_wp2_with fail
                  go_meet
                  exact ⟨by rw [HF.out], HE⟩
                · have hp1 : ¬ (j : Int) < (N : Int) := by omega
                  clear hc
                  go_wp2_with fail
                  go_meet
                  exact ⟨by rw [HF.out], HE⟩
          case rest =>
            clear HE HE0 HS2
            obtain ⟨rfl, HE⟩ := hcut
            by_cases he : e4 = 0
            · subst he
              obtain ⟨hf1, hf2, hf3⟩ := backR_fine HBK.out
              rw [hf1] at HV3
              have HMN : Aside (manyN l ≤ ns.length) := ⟨Nat.le_of_eq hf2⟩
              have HDA := Aside.mk hf3
              clear hf1 hf2 hf3
              go_wp2_with (first | (go_at_call 53; (with_reducible refine (rBack_calls (HT3.out.ext TypC.ext HE.out) (HN3.out.ext RatC.ext HE.out) HL66.out HDA.out HMN.out).mono ?_); rw [HLN.out]; rintro e w5 ⟨RA, rc, rfl, hr, he⟩; have HR5 := Aside.mk hr; have HE5 := Aside.mk (HE.out.trans he); clear hr he) | (go_at_call 52; (with_reducible refine (rEquals_same (HV3.out.ext ValC.ext HE5.out) HR5.out).mono ?_); rintro e w6 ⟨rfl, he⟩; have HE6 := Aside.mk (HE5.out.trans he); clear he) | (go_at_call 19; (with_reducible refine (alive3_calls (HG.out.ext (E3.out.trans HE6.out))).mono ?_); rintro e w8 ⟨rfl, f8⟩; have HEND := Aside.mk (E3.out.trans (HE6.out.trans f8)); clear f8))
              go_ret
              exact ⟨rfl, HEND.out⟩
            · have hv := backR_err HBK.out he
              have hk0 : kv = 0 := by rw [← HVN.out, hv]; rfl
              have h1 : (e4 == 0) = false := beq_eq_false_iff_ne.2 he
              have h2 : (e4 != 0) = true := by simp [bne, h1]
              have h3 : (e4 == e4) = true := by simp
              subst hk0
              clear hv he
              go_wp2_with (go_at_call 19; (with_reducible refine (alive3_calls (HG.out.ext (E3.out.trans HE.out))).mono ?_); rintro e w8 ⟨rfl, f8⟩; have HEND := Aside.mk (E3.out.trans (HE.out.trans f8)); clear f8)
              go_ret
              exact ⟨rfl, HEND.out⟩
end Go.Proofs.YtcbaipnphepbeaaGreatDoor

namespace Go.Proofs.YtcbaipnphepbeaaGreatDoor
open Go.RowKit Go.ChangeShapes Go.WideShapes Go.ChangeAt

set_option maxRecDepth 100000 in
/-- An argument that is a list of types. -/
theorem types_of {H : Type} {enc : TypeId × Value → H} {W : World} {n base : Nat} {v : Value} {x : DataW H × List MemPlace} {held : Bool} (hv : Value.okWide Tryz.prog W .any base 74 v)
    (h : DataW.trod enc Tryz.prog W 0 (fun _ => true) held n 74 v.cells.toList = some x) : ∃ l, RawL 2 TyR W v l := by
  obtain ⟨s, l, e, hx⟩ := rows_of (R := TyR) (W := W) Tryz.underlying74 Tryz.cType h fun _ _ _ hl ht => typC_of hl ht
  have hs := hx
  simp only [Value.okWide, Tryz.underlying74] at hv
  have : v = s := by
    cases v <;> first | (simp [Value.cells] at e; exact e) | (simp [Cell.okWide, Cell.ok, Tryz.underlying74] at hv)
  exact ⟨l, this ▸ hs⟩
set_option maxRecDepth 100000 in
/-- An argument that is a list of Rats. -/
theorem ratl_of {H : Type} {enc : TypeId × Value → H} {W : World} {n base : Nat} {v : Value} {x : DataW H × List MemPlace} {held : Bool} (hv : Value.okWide Tryz.prog W .any base 26 v)
    (h : DataW.trod enc Tryz.prog W 0 (fun _ => true) held n 26 v.cells.toList = some x) : ∃ l, RawL 4 RatL W v l := by
  obtain ⟨s, l, e, hx⟩ := rats_of (W := W) h
  have hs := hx
  simp only [Value.okWide, Tryz.underlying26] at hv
  have : v = s := by
    cases v <;> first | (simp [Value.cells] at e; exact e) | (simp [Cell.okWide, Cell.ok, Tryz.underlying26] at hv)
  exact ⟨l, this ▸ hs⟩
set_option maxRecDepth 100000 in
theorem lwBacks_lifted (os : Os) (started : os.Started) (H : Type) (enc : TypeId × Value → H) :
    ReturnsInHanded {} Tryz.checked os 10 .any (fun w args => (Rows.shapeBacksSpec.pre enc Tryz.prog Tryz.f10 [] false w args ∧ laidMetH Tryz.prog Rows.shapeBacksRow.laid w) ∧ sizedMet enc Tryz.prog Tryz.f10 (OpenSpec.ofChange Rows.shapeBacksSpec) false w args)
      (Rows.shapeBacksSpec.post enc Tryz.prog Tryz.f10 false true false false) := by
  refine returns_law (C := Tryz.checked) (X := fun w _ => laidMetH Tryz.prog Rows.shapeBacksRow.laid w) (fun _ _ _ hh h => h.of_heap hh) Tryz.own started (by kernel_rfl) Tryz.func10
    (ChangeSpec.witness_shaped (enc := enc) (C := Tryz.checked) (os := os) (X := fun w _ => laidMetH Tryz.prog Rows.shapeBacksRow.laid w) false (World.laidAll Tryz.prog os Rows.shapeBacksRow.laid) #[.slice none 0 0, .slice none 0 0] 8 (World.laidAll_os _ _ _)
      (World.shaped_of_ZipB (by kernel_rfl) (by kernel_rfl)) (by kernel_rfl) (by kernel_rfl) (by kernel_rfl)
      (by rw [MakeChecks.laidMetH_plain _ _ _ (by kernel_rfl)]; exact laidMet_laidAll _ (by kernel_rfl) (by kernel_rfl))) ?_
  intro W base args ds gs before hval0 hW hL hsh
  have hval : ∀ (j : Nat) t v, Tryz.f10.params[j]? = some t → args[j]? = some v → Value.okWide Tryz.prog W .any base t v := hval0
  have hW' := hW
  obtain ⟨p, q, hA0, hV, rfl, hfz, hnd⟩ := hW
  have hA : DataW.TrodAll enc Tryz.prog W 0 (fun _ => true) true Tryz.f10.params.toList args.toList ds p := hA0
  have hA' := hA
  rw [Tryz.params10] at hA hval
  obtain ⟨v0, v1, d0, d1, p0, p1, rfl, rfl, rfl, ⟨k0, h0⟩, ⟨k1, h1⟩⟩ := trodAll_two hA
  obtain ⟨rfl, rfl⟩ := trodVars_none hV
  have hG := glob3_of (by kernel_rfl) rfl hL hsh
  obtain ⟨lr, hl⟩ := types_of (hval 0 74 v0 rfl rfl) h0
  obtain ⟨nr, hn⟩ := ratl_of (hval 1 26 v1 rfl rfl) h1
  refine (lwBacks_calls hG hl hn).mono fun e W' ⟨he, hw⟩ => ?_
  subst he
  refine ⟨_, rfl, law_post (ts := Tryz.f10.params.toList) rfl rfl rfl ?_ ⟨rfl, rfl, rfl⟩ hW' (by simpa using hA') hw⟩
  rw [Tryz.params10]
  exact read_all (by kernel_rfl)

theorem shapeBacks_holds : Rows.ShapeBacksSaid :=
  OpenClaim.holds_of_wide 10 Tryz.f10 rfl rfl rfl rfl rfl rfl rfl ⟨rfl, rfl, rfl, rfl, rfl⟩ rfl rfl rfl rfl rfl (by kernel_rfl) Tryz.func10 (by kernel_rfl)
    (of_decide_eq_true (by kernel_rfl)) (by unfold Func.isWrapper; first | (rw [if_neg (by decide +kernel)]; exact ⟨rfl, rfl⟩) | (rw [if_pos (by decide +kernel)]; kernel_rfl))
    (fun os started H enc _ => lwBacks_lifted os started H enc)
end Go.Proofs.YtcbaipnphepbeaaGreatDoor

namespace Go.Proofs.YtcbaipnphepbeaaGreatDoor
open Go

set_option maxRecDepth 100000 in
theorem shapeBacks_card : Rows.ShapeBacksCardSaid :=
  Claim7.holds_tied_plain_at .later [] [.data, .data, .data, .data, .data] true (true, "74a4f590cf19fe5091db46413e7db25a7b9d51dc5c5273584579c29297515e2e") false
    shapeBacks_holds (fun _ h => by cases h) (by kernel_rfl) (fun _ h => by cases h) shapeBacks_row_tie rfl ⟨rfl, rfl⟩ (by kernel_rfl) rfl
    (fun f fn hf hfn => by
      obtain rfl : f = 10 := Option.some.inj ((show Tryz.prog.funcNamed "fluxion/fluxionlaw03.ShapeBacks" = some 10 by kernel_rfl).symm.trans hf) |>.symm
      obtain rfl : fn = Tryz.f10 := (Option.some.inj (Tryz.func10.symm.trans hfn)).symm
      exact ⟨by kernel_rfl, fun j t ht => by
        rw [Tryz.params10] at ht
        have hm : t ∈ Tryz.f10.params.toList := by rw [Tryz.params10]; exact Array.mem_toList_iff.2 (Array.mem_of_getElem? ht)
        have hall : (Tryz.f10.params.toList.all fun u => !Tryz.prog.wantsStandIn u) = true := by kernel_rfl
        exact (show Tryz.prog.wantsStandIn t = false by simpa using List.all_eq_true.1 hall t hm)⟩)
    (by kernel_rfl)
#print axioms shapeBacks_card
end Go.Proofs.YtcbaipnphepbeaaGreatDoor
