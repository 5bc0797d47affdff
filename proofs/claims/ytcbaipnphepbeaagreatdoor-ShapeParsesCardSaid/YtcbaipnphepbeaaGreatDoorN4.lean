/- Contracts of fluxionref03: nested. Contracts of fluxionref03: scalars. -/
import Derived.Test.YtcbaipnphepbeaaGreatDoorN1
import Derived.Test.YtcbaipnphepbeaaGreatDoorNz
import Derived.Test.YtcbaipnphepbeaaGreatDoorN3
namespace Go.Proofs.YtcbaipnphepbeaaGreatDoor
open Go.RowKit
attribute [local go_sem ↓] Go.wp_at_zero Go.wp_at_succ

theorem deepF_rep {l : List UInt8} {j : Nat} (h : l.take j = List.replicate j 123) (hj : j = l.length ∨ ∃ c, l[j]? = some c ∧ c ≠ 123) : deepF l = j := by
  unfold deepF
  have e : l = List.replicate j 123 ++ l.drop j := by rw [← h, List.take_append_drop]
  have ha : ∀ (j : Nat) (t : List UInt8), (t = [] ∨ ∃ c u, t = c :: u ∧ c ≠ 123) → ((List.replicate j (123 : UInt8) ++ t).takeWhile (· == 123)).length = j := by
    intro j
    induction j with
    | zero =>
      rintro t (rfl | ⟨c, u, rfl, hc⟩)
      · rfl
      · rw [List.replicate_zero, List.nil_append, List.takeWhile_cons]; simp [hc]
    | succ j ih =>
      intro t ht
      rw [List.replicate_succ, List.cons_append, List.takeWhile_cons]
      simp only [beq_self_eq_true, if_true, List.length_cons]
      rw [ih t ht]
  rw [e]
  refine ha j _ ?_
  rcases hj with hj | ⟨c, hc, hn⟩
  · exact .inl (by rw [hj, List.drop_length])
  · obtain ⟨hl, rfl⟩ := List.getElem?_eq_some_iff.1 hc
    exact .inr ⟨_, _, List.drop_eq_getElem_cons hl, hn⟩
theorem nrun_at {deep : Nat} {x y : Nst} {l : List UInt8} {j : Nat} {c : UInt8} (hc : l[j]? = some c) (hs : nstep deep x c = some y) : nrun deep x (l.drop j) = nrun deep y (l.drop (j + 1)) := by
  obtain ⟨hl, rfl⟩ := List.getElem?_eq_some_iff.1 hc
  rw [List.drop_eq_getElem_cons hl, nrun, hs]
theorem nrun_bad {deep : Nat} {x : Nst} {l : List UInt8} {j : Nat} {c : UInt8} (hc : l[j]? = some c) (hs : nstep deep x c = none) : nrun deep x (l.drop j) = none := by
  obtain ⟨hl, rfl⟩ := List.getElem?_eq_some_iff.1 hc
  rw [List.drop_eq_getElem_cons hl, nrun, hs]
theorem nestF_none {l : List UInt8} (h : 3 < deepF l ∨ nrun (deepF l) (0, List.replicate (deepF l + 1) false, List.replicate (deepF l) 1) l = none) : nestF l = none := by
  unfold nestF
  rcases h with h | h
  · rw [if_pos h]
  · split
    · rfl
    · rw [h]; rfl
theorem nestF_some {l : List UInt8} {x : Nst} (h3 : ¬ 3 < deepF l) (h : nrun (deepF l) (0, List.replicate (deepF l + 1) false, List.replicate (deepF l) 1) l = some x) : nestF l = some x.2.2 := by
  unfold nestF
  rw [if_neg h3, h]; rfl
/-- What nested returns. -/
def NestP (w : World) (l : List UInt8) (e : Ending) (w' : World) : Prop :=
  Ext w w' ∧ ((nestF l = none ∧ e = .returned (.tuple #[.slice none 0 0, .bool false])) ∨ ∃ ds A c, nestF l = some ds ∧ e = .returned (.tuple #[.slice A ds.length c, .bool true]) ∧ SO w.heap.size 3 1 IntC w' (.slice A ds.length c) ds)
theorem NestP.bad {w w' : World} {l : List UInt8} (e : Ext w w') (h : nestF l = none) : NestP w l (.returned (.tuple #[.slice none 0 0, .bool false])) w' := ⟨e, .inl ⟨h, rfl⟩⟩
def DmOk (dm : List Int) (j : Nat) : Prop := ∀ d ∈ dm, 1 ≤ d ∧ d ≤ (j : Int) + 1
theorem DmOk.succ {dm : List Int} {j : Nat} (h : DmOk dm j) : DmOk dm (j + 1) := fun d hd => by have := h d hd; omega
theorem DmOk.set {dm : List Int} {j i : Nat} {d : Int} (h : DmOk dm j) (hd : 1 ≤ d ∧ d ≤ (j : Int) + 1) : DmOk (dm.set i (d + 1)) (j + 1) := fun x hx => by
  rcases List.mem_or_eq_of_mem_set hx with hx | rfl
  · have := h x hx; omega
  · omega
/-- The rows of nested. -/
structure NRow (w : World) (k gc : Nat) (NA : Option Addr) (nc : Nat) (x : Nst) (j : Nat) (W : World) : Prop where
  ext : Ext w W
  now : x.1 ≤ j
  lcl : x.2.1.length = k + 1
  ldm : x.2.2.length = k
  cl : SO w.heap.size 4 1 BoolC W (.slice (some ⟨gc, 0, none⟩) (k + 1) (k + 1)) x.2.1
  dm : SO w.heap.size 3 1 IntC W (.slice NA k nc) x.2.2
  low : w.heap.size ≤ gc
  ok : DmOk x.2.2 j
theorem NRow.move {w : World} {k gc : Nat} {NA : Option Addr} {nc : Nat} {a b : Nat} {cl : List Bool} {dm : List Int} {j : Nat} {W : World} (h : NRow w k gc NA nc (a, cl, dm) j W) (hb : b ≤ j + 1) : NRow w k gc NA nc (b, cl, dm) (j + 1) W :=
  ⟨h.ext, hb, h.lcl, h.ldm, h.cl, h.dm, h.low, h.ok.succ⟩
theorem NRow.shut {w : World} {k gc : Nat} {NA : Option Addr} {nc : Nat} {a b : Nat} {cl : List Bool} {dm : List Int} {j : Nat} {W : World} (h : NRow w k gc NA nc (a, cl, dm) j W) (hb : b ≤ j + 1) : NRow w k gc NA nc (b, cl.set a true, dm) (j + 1) (W.setCell ⟨gc, a, none⟩ (.bool true)) :=
  ⟨h.ext.set h.low _, hb, by have := h.lcl; simpa using this, h.ldm, h.cl.put1 (fun _ _ _ _ h => h) a rfl,
    h.dm.setNe (p := ⟨gc, a, none⟩) (h.dm.apart h.cl (by decide)) _ (fun _ _ h => h), h.low, h.ok.succ⟩
theorem NRow.more {w : World} {k gc gd : Nat} {nc : Nat} {a i : Nat} {cl : List Bool} {dm : List Int} {d : Int} {j : Nat} {W : World} (h : NRow w k gc (some ⟨gd, 0, none⟩) nc (a, cl, dm) j W) (hl : w.heap.size ≤ gd) (hd : dm[i]? = some d) (hb : a ≤ j + 1) :
    NRow w k gc (some ⟨gd, 0, none⟩) nc (a, cl, dm.set i (d + 1)) (j + 1) (W.setCell ⟨gd, i, none⟩ (.int .i64 (d + 1))) :=
  ⟨h.ext.set hl _, hb, h.lcl, by have := h.ldm; simpa using this, h.cl.setNe (p := ⟨gd, i, none⟩) (h.cl.apart h.dm (by decide)) _ (fun _ _ h => h), h.dm.put1 (fun _ _ _ _ h => h) i rfl, h.low,
    h.ok.set (h.ok d (List.mem_of_getElem? hd))⟩
set_option maxRecDepth 10000 in
set_option maxHeartbeats 8000000 in
theorem nested_calls {w : World} {l : List UInt8} (hl : l.length ≤ 20000) :
    Calls Tryz.prog 79 #[.string (bs l)] w fun e w' => NestP w l e w' := by
  obtain ⟨r, hr⟩ : ∃ r, bs l = r := ⟨_, rfl⟩
  have HR := Aside.mk hr
  obtain ⟨n, hn⟩ : ∃ n, r.size = n := ⟨_, rfl⟩
  have HN : Aside (l.length = n) := ⟨by rw [← hn, ← hr]; exact (bs_size l).symm⟩
  have HRN := Aside.mk hn
  have hn2 : n ≤ 20000 := by rw [← HN.out]; exact hl
  rw [hr]
  clear hr hl
  go_enter Tryz.func79, Tryz.ntmps79
  go_upto_block 0 with fail
  go_cut [4, 5] from 9 to 23 (fun d i wx => ∃ k NA nc, i = .int .i64 ((k : Nat) : Int) ∧ d = .slice NA k nc ∧ Aside (deepF l = k ∧ k ≤ n) ∧ Aside (Ext w wx) ∧ Aside (SO w.heap.size 3 1 IntC wx (.slice NA k nc) (List.replicate k (1 : Int))))
  case first =>
    go_wp2
    go_loopw [4, 5] (fun d i wr => ∃ (j : Nat) (NA : Option Addr) (nc : Nat), j ≤ n ∧ i = .int .i64 (j : Int) ∧ d = .slice NA j nc ∧ Aside (l.take j = List.replicate j 123) ∧ Aside (Ext w wr) ∧ Aside (SO w.heap.size 3 1 IntC wr (.slice NA j nc) (List.replicate j (1 : Int)))) (fun _ i _ => n - (intOf i).toNat)
    case atStart => exact ⟨0, none, 0, by omega, rfl, rfl, ⟨rfl⟩, ⟨Ext.refl w⟩, ⟨SO.nil⟩⟩
    case round =>
      obtain ⟨j, NA, nc, hj, rfl, rfl, HTK, HE, HOUT⟩ := hrel
      by_cases hlt : j < n
      · have hjr : j < r.size := by rw [HRN.out]; exact hlt
        have HCJ : Aside (l[j]? = some r[j]) := ⟨data_get HR.out hjr⟩
        have hp0 : (0 : Int) ≤ (j : Int) := Int.natCast_nonneg _
        have hp1 : (j : Int) < (r.size : Int) := by omega
        by_cases hb : r[j] = 123
        · have b0 := byte_is (b := r[j]) (c := 123) (k := 123) rfl hb
          have HTK2 : Aside (l.take (j + 1) = List.replicate (j + 1) 123) := ⟨by rw [List.take_add_one, HCJ.out, HTK.out, List.replicate_succ', hb]; rfl⟩
          have HE1 : Aside (Ext w (wr.alloc (.cells #[.int .i64 1] 3))) := ⟨HE.out.alloc _⟩
          have HOUT1 := Aside.mk (HOUT.out.ext IntC.ext ((Ext.refl wr).alloc (.cells #[.int .i64 1] 3)))
          have HONE := Aside.mk (SO.lit (e := 3) (R := IntC) wr [.int .i64 1] [1] (by simp) (rows_ints [1] _)).sv
          have HS1 : Aside (w.heap.size ≤ (wr.alloc (.cells #[.int .i64 1] 3)).heap.size) := ⟨HE1.out.size⟩
          have HLBN : Aside ((List.replicate j (1 : Int)).length + [(1 : Int)].length ≤ 1073741824) := ⟨by simp; omega⟩
          have HLN2 : Aside ((List.replicate j (1 : Int) ++ [1]).length = j + 1) := ⟨by simp⟩
          clear hb
          go_wp2_with (at_builtin; refine append_so (R := IntC) w.heap.size elemInt rfl _ _ rfl _ _ (List.replicate j (1 : Int)) [1] HOUT1.out HONE.out IntC.one (fun _ _ _ _ h => h) rfl rfl HS1.out HLBN.out ?_; intro v1 w6 ho hg; obtain ⟨A5, c5, rfl, _⟩ := ho.sv.form; rw [HLN2.out] at ho ⊢; have HE6 := Aside.mk (SO.ext_grown HOUT1.out HE1.out (Nat.le_refl _) hg); have HOUT6 := Aside.mk ho; clear ho hg)
          go_roundw
          case rel => exact ⟨j + 1, A5, c5, by omega, by go_num, rfl, HTK2, HE6, ⟨by rw [List.replicate_succ']; exact HOUT6.out⟩⟩
          case measure => simp [intOf]; omega
        · have b0 := byte_not (b := r[j]) (c := 123) (k := 123) rfl hb
          have HD : Aside (deepF l = j ∧ j ≤ n) := ⟨deepF_rep HTK.out (.inr ⟨_, HCJ.out, hb⟩), hj⟩
          clear hb
          go_wp2_with fail
          go_meet
          exact ⟨j, NA, nc, rfl, rfl, HD, HE, HOUT⟩
      · have hjn : j = n := by omega
        have hp1 : ¬ (j : Int) < (r.size : Int) := by rw [HRN.out]; omega
        have HD : Aside (deepF l = j ∧ j ≤ n) := ⟨deepF_rep HTK.out (.inl (by rw [HN.out]; exact hjn)), hj⟩
        clear hjn
        go_wp2_with fail
        go_meet
        exact ⟨j, NA, nc, rfl, rfl, HD, HE, HOUT⟩
  case rest =>
    obtain ⟨k, NA, nc, rfl, rfl, HD, HE, HOUT⟩ := hcut
    have HDP : Aside (deepF l = k) := ⟨HD.out.1⟩
    by_cases hk : 3 < k
    · have hk' : (3 : Int) < (k : Int) := by omega
      have HNO : Aside (nestF l = none) := ⟨nestF_none (.inl (by rw [HDP.out]; exact hk))⟩
      clear hk
      go_wp2_with fail
      go_ret2
      exact NestP.bad HE.out HNO.out
    · have hk' : ¬ (3 : Int) < (k : Int) := by omega
      have H3 : Aside (¬ 3 < deepF l) := ⟨by rw [HDP.out]; exact hk⟩
      go_wp2_with (refine make_so (R := BoolC) (x0 := false) _ rfl _ _ rfl Tryz.underlying148 Tryz.info_bool (by decide) rfl (fun _ => rfl) (k + 1) _ _ rfl rfl (by simp) (by simp) (by omega) ?_; intro w7 ho he; have HCL := Aside.mk ho; have HE7 := Aside.mk he; clear ho he)
      obtain ⟨gc, hgc⟩ : ∃ g, wc.heap.size = g := ⟨_, rfl⟩
      have HROW0 : Aside (NRow w k gc NA nc (0, List.replicate (k + 1) false, List.replicate k 1) 0 w7) := ⟨by
        rw [← hgc]
        exact ⟨HE.out.trans HE7.out, Nat.le_refl _, by simp, by simp, HCL.out.mono HE.out.size, HOUT.out.ext IntC.ext HE7.out, HE.out.size, fun d hd => by rw [List.eq_of_mem_replicate hd]; omega⟩⟩
      try rw [hgc]
      clear HCL HOUT HE7 HE hgc
      go_loopw [6, 8] (fun a i wr => ∃ (j : Nat) (x : Nst), j ≤ n ∧ i = .int .i64 (j : Int) ∧ a = .int .i64 (x.1 : Int) ∧ Aside (nrun k (0, List.replicate (k + 1) false, List.replicate k 1) l = nrun k x (l.drop j)) ∧ Aside (NRow w k gc NA nc x j wr)) (fun _ i _ => n - (intOf i).toNat)
      case atStart => exact ⟨0, (0, List.replicate (k + 1) false, List.replicate k 1), by omega, rfl, rfl, ⟨rfl⟩, HROW0⟩
      case round =>
        clear HROW0
        obtain ⟨j, ⟨a, cl, dm⟩, hj, rfl, rfl, HRUN, HROW⟩ := hrel
        dsimp only at *
        have ha20 : a ≤ 20000 := by have := HROW.out.now; dsimp only at this; omega
        by_cases hlt : j < n
        · have hjr : j < r.size := by rw [HRN.out]; exact hlt
          have HCJ : Aside (l[j]? = some r[j]) := ⟨data_get HR.out hjr⟩
          have hp0 : (0 : Int) ≤ (j : Int) := Int.natCast_nonneg _
          have hp1 : (j : Int) < (r.size : Int) := by omega
          have ha0 : (0 : Int) ≤ (a : Int) := Int.natCast_nonneg _
          have HA1 : Aside (a ≤ j) := ⟨HROW.out.now⟩
          by_cases h123 : r[j] = 123
          · have b0 := byte_is (b := r[j]) (c := 123) (k := 123) rfl h123
            have HRUN2 : Aside (nrun k (0, List.replicate (k + 1) false, List.replicate k 1) l = nrun k (a + 1, cl, dm) (l.drop (j + 1))) := ⟨by rw [HRUN.out]; exact nrun_at HCJ.out (by rw [nstep, if_pos h123])⟩
            have HROW2 := Aside.mk (HROW.out.move (b := a + 1) (by have := HA1.out; omega))
            clear h123
            go_wp2_with fail
            go_roundw
            case rel => exact ⟨j + 1, (a + 1, cl, dm), by omega, by go_num, by go_num, HRUN2, HROW2⟩
            case measure => simp [intOf]; omega
          · have b0 := byte_not (b := r[j]) (c := 123) (k := 123) rfl h123
            by_cases h125 : r[j] = 125
            · have b1 := byte_is (b := r[j]) (c := 125) (k := 125) rfl h125
              by_cases hbad : a < 1
              · have hb1 : (a : Int) < 1 := by omega
                have HST : Aside (nstep k (a, cl, dm) r[j] = none) := ⟨by rw [nstep, if_neg h123, if_pos h125, if_pos (.inl hbad)]⟩
                clear h123 h125 hbad
                have HNO : Aside (nestF l = none) := ⟨nestF_none (.inr (by rw [HDP.out, HRUN.out]; exact nrun_bad HCJ.out HST.out))⟩
                go_wp2_with fail
                go_ret2
                exact NestP.bad HROW.out.ext HNO.out
              · have hb1 : ¬ (a : Int) < 1 := by omega
                by_cases hbig : k < a
                · have hb2 : (k : Int) < (a : Int) := by omega
                  have HST : Aside (nstep k (a, cl, dm) r[j] = none) := ⟨by rw [nstep, if_neg h123, if_pos h125, if_pos (.inr hbig)]⟩
                  clear h123 h125 hbad hbig
                  have HNO : Aside (nestF l = none) := ⟨nestF_none (.inr (by rw [HDP.out, HRUN.out]; exact nrun_bad HCJ.out HST.out))⟩
                  go_wp2_with fail
                  go_ret2
                  exact NestP.bad HROW.out.ext HNO.out
                · have hb2 : ¬ (k : Int) < (a : Int) := by omega
                  obtain ⟨b, rfl⟩ : ∃ b, a = b + 1 := ⟨a - 1, by omega⟩
                  have HST : Aside (nstep k (b + 1, cl, dm) r[j] = some (b, cl.set (b + 1) true, dm)) := ⟨by rw [nstep, if_neg h123, if_pos h125, if_neg (by simp only; omega)]; rfl⟩
                  have HRUN2 : Aside (nrun k (0, List.replicate (k + 1) false, List.replicate k 1) l = nrun k (b, cl.set (b + 1) true, dm) (l.drop (j + 1))) := ⟨by rw [HRUN.out]; exact nrun_at HCJ.out HST.out⟩
                  have HROW2 := Aside.mk (HROW.out.shut (b := b) (by have := HA1.out; omega))
                  obtain ⟨v, hv⟩ : ∃ v, cl[b + 1]? = some v := ⟨cl[b + 1]'(by have := HROW.out.lcl; dsimp only at this; omega), List.getElem?_eq_getElem _⟩
                  obtain ⟨u, hu0, hu1, hu2⟩ := HROW.out.cl.cell1 (b + 1) hv
                  obtain ⟨a', ha'⟩ : ∃ a', b + 1 = a' := ⟨_, rfl⟩
                  have HAA := Aside.mk ha'
                  rw [ha'] at hu1 hu2 HROW2 HRUN2 ha0 ha20
                  have w1 : IntKind.i64.wrap ((a' : Int) - 1) = (b : Int) := by rw [wrap_i64 _ (by omega) (by omega)]; omega
                  have w2 : wrap64 ((a' : Int) - 1) = (b : Int) := by rw [wrap64_id (by omega) (by omega)]; omega
                  have hk1 : (a' : Int) < ((k + 1 : Nat) : Int) := by omega
                  have hk2 : (a' : Int) < (k : Int) + 1 := by omega
                  have hb1' : ¬ (a' : Int) < 1 := by omega
                  have hb2' : ¬ (k : Int) < (a' : Int) := by omega
                  rw [show ((b + 1 : Nat) : Int) = (a' : Int) from by rw [ha']]
                  clear h123 h125 hbad hbig hv hu0 ha' hb1 hb2
                  go_wp2_with fail
                  go_roundw
                  case rel => exact ⟨j + 1, (b, cl.set a' true, dm), by omega, by go_num, rfl, HRUN2, HROW2⟩
                  case measure => simp [intOf]; omega
            · have b1 := byte_not (b := r[j]) (c := 125) (k := 125) rfl h125
              by_cases h44 : r[j] = 44
              · have b2 := byte_is (b := r[j]) (c := 44) (k := 44) rfl h44
                by_cases hbad : a < 1
                · have hb1 : (a : Int) < 1 := by omega
                  have HST : Aside (nstep k (a, cl, dm) r[j] = none) := ⟨by rw [nstep, if_neg h123, if_neg h125, if_pos h44, if_pos (.inl hbad)]⟩
                  clear h123 h125 h44 hbad
                  have HNO : Aside (nestF l = none) := ⟨nestF_none (.inr (by rw [HDP.out, HRUN.out]; exact nrun_bad HCJ.out HST.out))⟩
                  go_wp2_with fail
                  go_ret2
                  exact NestP.bad HROW.out.ext HNO.out
                · have hb1 : ¬ (a : Int) < 1 := by omega
                  by_cases hbig : k < a
                  · have hb2 : (k : Int) < (a : Int) := by omega
                    have HST : Aside (nstep k (a, cl, dm) r[j] = none) := ⟨by rw [nstep, if_neg h123, if_neg h125, if_pos h44, if_pos (.inr hbig)]⟩
                    clear h123 h125 h44 hbad hbig
                    have HNO : Aside (nestF l = none) := ⟨nestF_none (.inr (by rw [HDP.out, HRUN.out]; exact nrun_bad HCJ.out HST.out))⟩
                    go_wp2_with fail
                    go_ret2
                    exact NestP.bad HROW.out.ext HNO.out
                  · have hb2 : ¬ (k : Int) < (a : Int) := by omega
                    obtain ⟨b, rfl⟩ : ∃ b, a = b + 1 := ⟨a - 1, by omega⟩
                    obtain ⟨v, hv⟩ : ∃ v, cl[b + 1]? = some v := ⟨cl[b + 1]'(by have := HROW.out.lcl; dsimp only at this; omega), List.getElem?_eq_getElem _⟩
                    obtain ⟨u, hu0, hu1, hu2⟩ := HROW.out.cl.cell1 (b + 1) hv
                    obtain rfl : u = .bool v := by
                      have : [u] = [Value.bool v] := hu0
                      injection this
                    have hgv : cl.getD (b + 1) true = v := by simp [hv]
                    have HNS : Aside (nstep k (b + 1, cl, dm) r[j] = some (b + 1, cl, if v = true then dm else dm.set b (dm.getD b 0 + 1))) := ⟨by
                      rw [nstep, if_neg h123, if_neg h125, if_pos h44, if_neg (by simp only; omega)]
                      simp only [hgv, Nat.add_sub_cancel]⟩
                    have HRUN2 : Aside (nrun k (0, List.replicate (k + 1) false, List.replicate k 1) l = nrun k (b + 1, cl, if v = true then dm else dm.set b (dm.getD b 0 + 1)) (l.drop (j + 1))) := ⟨by rw [HRUN.out]; exact nrun_at HCJ.out HNS.out⟩
                    obtain ⟨a', ha'⟩ : ∃ a', b + 1 = a' := ⟨_, rfl⟩
                    have HAA := Aside.mk ha'
                    have hkk : b < k := by omega
                    have HKK := Aside.mk hkk
                    obtain ⟨gd, hNA, hgl, -⟩ := HROW.out.dm.addr (by rw [show (b + 1, cl, dm).2.2 = dm from rfl, show dm.length = k from HROW.out.ldm]; omega)
                    subst hNA
                    obtain ⟨d, hd⟩ : ∃ d, dm[b]? = some d := ⟨dm[b]'(by rw [show dm.length = k from HROW.out.ldm]; exact hkk), List.getElem?_eq_getElem _⟩
                    obtain ⟨u2, hd0, hd1, hd2⟩ := HROW.out.dm.cell1 b hd
                    obtain rfl : u2 = .int .i64 d := by
                      have : [u2] = [Value.int .i64 d] := hd0
                      injection this
                    have hdk := HROW.out.ok d (List.mem_of_getElem? hd)
                    have hgd : dm.getD b 0 = d := by simp [hd]
                    have HMO := Aside.mk (HROW.out.more hgl hd (by have := HA1.out; omega))
                    have HMV := Aside.mk (HROW.out.move (b := b + 1) (by have := HA1.out; omega))
                    rw [hgd] at HRUN2
                    rw [ha'] at hu1 hu2 HRUN2 ha0 ha20 HMO HMV
                    have w1 : IntKind.i64.wrap ((a' : Int) - 1) = (b : Int) := by rw [wrap_i64 _ (by omega) (by omega)]; omega
                    have w2 : wrap64 ((a' : Int) - 1) = (b : Int) := by rw [wrap64_id (by omega) (by omega)]; omega
                    have w3 : IntKind.i64.wrap (d + 1) = d + 1 := wrap_i64 _ (by omega) (by omega)
                    have w4 : wrap64 (d + 1) = d + 1 := wrap64_id (by omega) (by omega)
                    have hk1 : (a' : Int) < ((k + 1 : Nat) : Int) := by omega
                    have hk2 : (a' : Int) < (k : Int) + 1 := by omega
                    have hb0 : (0 : Int) ≤ (b : Int) := Int.natCast_nonneg _
                    have hbk : (b : Int) < (k : Int) := by omega
                    have hb1' : ¬ (a' : Int) < 1 := by omega
                    have hb2' : ¬ (k : Int) < (a' : Int) := by omega
                    rw [show ((b + 1 : Nat) : Int) = (a' : Int) from by rw [ha']]
                    clear h123 h125 h44 hbad hbig hv hu0 ha' hb1 hb2 hgv hd hd0 hdk hgd hkk hgl
                    cases v
                    · have HRUN3 : Aside (nrun k (0, List.replicate (k + 1) false, List.replicate k 1) l = nrun k (a', cl, dm.set b (d + 1)) (l.drop (j + 1))) := HRUN2
                      clear HRUN2
                      go_wp2_with fail
                      go_roundw
                      case rel => exact ⟨j + 1, (a', cl, dm.set b (d + 1)), by omega, by go_num, rfl, HRUN3, HMO⟩
                      case measure => simp [intOf]; omega
                    · have HRUN3 : Aside (nrun k (0, List.replicate (k + 1) false, List.replicate k 1) l = nrun k (a', cl, dm) (l.drop (j + 1))) := HRUN2
                      clear HRUN2
                      go_wp2_with fail
                      go_roundw
                      case rel => exact ⟨j + 1, (a', cl, dm), by omega, by go_num, rfl, HRUN3, HMV⟩
                      case measure => simp [intOf]; omega
              · have b2 := byte_not (b := r[j]) (c := 44) (k := 44) rfl h44
                have HRUN2 : Aside (nrun k (0, List.replicate (k + 1) false, List.replicate k 1) l = nrun k (a, cl, dm) (l.drop (j + 1))) := ⟨by rw [HRUN.out]; exact nrun_at HCJ.out (by rw [nstep, if_neg h123, if_neg h125, if_neg h44])⟩
                have HROW2 := Aside.mk (HROW.out.move (b := a) (by have := HA1.out; omega))
                clear h123 h125 h44
                go_wp2_with fail
                go_roundw
                case rel => exact ⟨j + 1, (a, cl, dm), by omega, by go_num, rfl, HRUN2, HROW2⟩
                case measure => simp [intOf]; omega
        · have hjn : j = n := by omega
          have hp1 : ¬ (j : Int) < (r.size : Int) := by rw [HRN.out]; omega
          have HRES : Aside (nestF l = some dm) := ⟨by
            have h := HRUN.out
            rw [hjn, ← HN.out, List.drop_length] at h
            exact nestF_some (x := (a, cl, dm)) H3.out (by rw [HDP.out]; exact h)⟩
          clear hjn
          go_wp2_with fail
          go_ret2
          exact ⟨HROW.out.ext, .inr ⟨dm, NA, nc, HRES.out, by rw [show dm.length = k from HROW.out.ldm]; rfl, by rw [show dm.length = k from HROW.out.ldm]; exact HROW.out.dm⟩⟩
end Go.Proofs.YtcbaipnphepbeaaGreatDoor

namespace Go.Proofs.YtcbaipnphepbeaaGreatDoor
open Go.RowKit
attribute [local go_sem ↓] Go.wp_at_zero Go.wp_at_succ

/-- Scalars by places. -/
theorem scal_in {l : List UInt8} {f j : Nat} {c : UInt8} (hf : f ≤ j) (hc : l[j]? = some c) (hs : sclB c = false) : scalF ((l.drop f).take (j - f)) (l.drop j) = scalF ((l.drop f).take (j + 1 - f)) (l.drop (j + 1)) := by
  obtain ⟨hl, rfl⟩ := List.getElem?_eq_some_iff.1 hc
  rw [List.drop_eq_getElem_cons hl, scalF, if_neg (by rw [hs]; decide), show j + 1 - f = (j - f) + 1 from by omega, List.take_add_one, List.getElem?_drop, show f + (j - f) = j from by omega, hc]
  rfl
theorem scal_cut {l : List UInt8} {f j : Nat} {c : UInt8} (hf : f ≤ j) (hc : l[j]? = some c) (hs : sclB c = true) : scalF ((l.drop f).take (j - f)) (l.drop j) = if f < j then (l.drop f).take (j - f) :: scalF ((l.drop (j + 1)).take (j + 1 - (j + 1))) (l.drop (j + 1)) else scalF ((l.drop (j + 1)).take (j + 1 - (j + 1))) (l.drop (j + 1)) := by
  obtain ⟨hl, rfl⟩ := List.getElem?_eq_some_iff.1 hc
  rw [List.drop_eq_getElem_cons hl, scalF, if_pos hs, Nat.sub_self, List.take_zero]
  by_cases h : f < j
  · rw [if_pos h, if_neg]
    intro e
    have := congrArg List.length e
    rw [List.length_take, List.length_drop] at this
    simp at this
    omega
  · rw [if_neg h, show j - f = 0 from by omega, List.take_zero, if_pos rfl]
theorem scal_fin {l : List UInt8} {f : Nat} (hf : f ≤ l.length) : scalF ((l.drop f).take (l.length - f)) (l.drop l.length) = if f < l.length then [(l.drop f).take (l.length - f)] else [] := by
  rw [List.drop_length, scalF]
  by_cases h : f < l.length
  · rw [if_pos h, if_neg]
    intro e
    have := congrArg List.length e
    rw [List.length_take, List.length_drop] at this
    simp at this
    omega
  · rw [if_neg h, show l.length - f = 0 from by omega, List.take_zero, if_pos rfl]
theorem bs_extract {l : List UInt8} {r : ByteArray} (hr : bs l = r) (f j : Nat) : r.extract f j = bs ((l.drop f).take (j - f)) := by
  subst hr
  apply ByteArray.ext
  apply Array.ext'
  simp [bs, ByteArray.data_extract]
theorem scl_cases {c : UInt8} (h : sclB c = true) : c = 123 ∨ c = 125 ∨ c = 44 ∨ c = 32 := by
  unfold sclB at h
  simp only [Bool.or_eq_true, beq_iff_eq] at h
  rcases h with ((h | h) | h) | h <;> simp [h]
theorem scl_ne {c : UInt8} (h : sclB c = false) : c ≠ 123 ∧ c ≠ 125 ∧ c ≠ 44 ∧ c ≠ 32 := by
  unfold sclB at h
  simp only [Bool.or_eq_false_iff, beq_eq_false_iff_ne] at h
  exact ⟨h.1.1.1, h.1.1.2, h.1.2, h.2⟩
theorem byte_nb {b c : UInt8} {k : Int} (hk : (c.toNat : Int) = k) (h : b ≠ c) : ((b.toNat : Int) != k) = true := by simp [bne, byte_not hk h]
theorem byte_yb {b c : UInt8} {k : Int} (hk : (c.toNat : Int) = k) (h : b = c) : ((b.toNat : Int) != k) = false := by simp [bne, byte_is hk h]
/-- What is still to be read. -/
def restS (l : List UInt8) (f j : Nat) : List (List UInt8) := if j ≤ l.length then scalF ((l.drop f).take (j - f)) (l.drop j) else []
theorem rest_in {l : List UInt8} {f j : Nat} {c : UInt8} (hf : f ≤ j) (hc : l[j]? = some c) (hs : sclB c = false) : restS l f j = restS l f (j + 1) := by
  have hl := (List.getElem?_eq_some_iff.1 hc).1
  unfold restS
  rw [if_pos (by omega), if_pos (by omega)]
  exact scal_in hf hc hs
theorem rest_end {l : List UInt8} {f j : Nat} (hf : f ≤ j) (h : j = l.length ∨ ∃ c, l[j]? = some c ∧ sclB c = true) : restS l f j = (if f < j then [(l.drop f).take (j - f)] else []) ++ restS l (j + 1) (j + 1) := by
  rcases h with rfl | ⟨c, hc, hs⟩
  · have e1 : restS l f l.length = scalF ((l.drop f).take (l.length - f)) (l.drop l.length) := if_pos (Nat.le_refl _)
    have e2 : restS l (l.length + 1) (l.length + 1) = [] := if_neg (by omega)
    rw [e1, e2, List.append_nil]
    exact scal_fin hf
  · have hl := (List.getElem?_eq_some_iff.1 hc).1
    have e1 : restS l f j = scalF ((l.drop f).take (j - f)) (l.drop j) := if_pos (by omega)
    have e2 : restS l (j + 1) (j + 1) = scalF ((l.drop (j + 1)).take (j + 1 - (j + 1))) (l.drop (j + 1)) := if_pos (by omega)
    rw [e1, e2, scal_cut hf hc hs]
    split <;> rfl
theorem rest_two {l : List UInt8} {r : ByteArray} {vs : List ByteArray} {f j : Nat} (hr : bs l = r) (hv : (scalF [] l).map bs = vs ++ (restS l f j).map bs) (hf : f ≤ j) (h : j = l.length ∨ ∃ c, l[j]? = some c ∧ sclB c = true) :
    (f < j → (scalF [] l).map bs = (vs ++ [r.extract f j]) ++ (restS l (j + 1) (j + 1)).map bs) ∧ (¬ f < j → (scalF [] l).map bs = vs ++ (restS l (j + 1) (j + 1)).map bs) := by
  rw [rest_end hf h] at hv
  constructor
  · intro hfj
    rw [if_pos hfj] at hv
    rw [hv, bs_extract hr f j]
    simp
  · intro hfj
    rw [if_neg hfj] at hv
    rw [hv]
    simp
/-! The way on from a place that ends a scalar -/
set_option maxRecDepth 10000 in
set_option maxHeartbeats 8000000 in
theorem scalars_calls {w : World} {l : List UInt8} {ws : List (List UInt8)} {k : Nat} (hl : l.length ≤ 20000) (hw : scalF [] l = ws) (hk : ws.length = k) :
    Calls Tryz.prog 80 #[.string (bs l)] w fun e w' => ∃ A c, e = .returned (.slice A k c) ∧ SO w.heap.size 9 1 StrC w' (.slice A k c) (ws.map bs) ∧ Ext w w' := by
  subst hw
  have HK := Aside.mk hk
  obtain ⟨r, hr⟩ : ∃ r, bs l = r := ⟨_, rfl⟩
  have HR := Aside.mk hr
  obtain ⟨n, hn⟩ : ∃ n, r.size = n := ⟨_, rfl⟩
  have HN : Aside (l.length = n) := ⟨by rw [← hn, ← hr]; exact (bs_size l).symm⟩
  have HRN := Aside.mk hn
  have hn2 : n ≤ 20000 := by rw [← HN.out]; exact hl
  rw [hr]
  clear hr hl hk
  go_enter Tryz.func80, Tryz.ntmps80
  go_wp2
  go_loopw [3, 4, 5] (fun o fv i wr => ∃ (j f m : Nat) (NA : Option Addr) (nc : Nat), j ≤ n + 1 ∧ f ≤ j ∧ m ≤ j ∧ i = .int .i64 (j : Int) ∧ fv = .int .i64 (f : Int) ∧ o = .slice NA m nc ∧ Aside (Ext w wr) ∧
    Aside (∃ vs : List ByteArray, vs.length = m ∧ SO w.heap.size 9 1 StrC wr (.slice NA m nc) vs ∧ (scalF [] l).map bs = vs ++ (restS l f j).map bs)) (fun _ _ i _ => n + 1 - (intOf i).toNat)
  case atStart => exact ⟨0, 0, 0, none, 0, by omega, by omega, by omega, rfl, rfl, rfl, ⟨Ext.refl w⟩, ⟨[], rfl, SO.nil, by unfold restS; rw [if_pos (Nat.zero_le _)]; rfl⟩⟩
  case round =>
    obtain ⟨j, f, m, NA, nc, hj, hf, hm, rfl, rfl, rfl, HE, HS⟩ := hrel
    obtain ⟨vs, hvn, hout, hsc⟩ := HS.out
    have HVN := Aside.mk hvn
    have HOUT := Aside.mk hout
    have HSC := Aside.mk hsc
    clear HS hvn hout hsc
    have hp0 : (0 : Int) ≤ (j : Int) := Int.natCast_nonneg _
    have hp3 : (0 : Int) ≤ (f : Int) := Int.natCast_nonneg _
    have hp4 : (f : Int) ≤ (j : Int) := by omega
    by_cases hlt : j < n
    · have hjr : j < r.size := by rw [HRN.out]; exact hlt
      have HCJ : Aside (l[j]? = some r[j]) := ⟨data_get HR.out hjr⟩
      have hp1 : (j : Int) < (r.size : Int) := by omega
      have hp2 : (j : Int) ≤ (r.size : Int) := by omega
      cases hs : sclB r[j]
      · have HSC2 : Aside ((scalF [] l).map bs = vs ++ (restS l f (j + 1)).map bs) := ⟨by rw [← rest_in hf HCJ.out hs]; exact HSC.out⟩
        obtain ⟨g1, g2, g3, g4⟩ := scl_ne hs
        have b1 := byte_nb (b := r[j]) (c := 123) (k := 123) rfl g1
        have b2 := byte_nb (b := r[j]) (c := 125) (k := 125) rfl g2
        have b3 := byte_nb (b := r[j]) (c := 44) (k := 44) rfl g3
        have b4 := byte_nb (b := r[j]) (c := 32) (k := 32) rfl g4
        clear hs g1 g2 g3 g4
        go_wp2_with fail
        go_roundw
        case rel => exact ⟨j + 1, f, m, NA, nc, by omega, by omega, by omega, by go_num, rfl, rfl, HE, ⟨vs, HVN.out, HOUT.out, HSC2.out⟩⟩
        case measure => simp [intOf]; omega
      · have HTWO := Aside.mk (rest_two HR.out HSC.out hf (.inr ⟨_, HCJ.out, hs⟩))
        have hcs := scl_cases hs
        clear hs
        rcases hcs with g | g | g | g
        · have b1 := byte_yb (b := r[j]) (c := 123) (k := 123) rfl g
          clear g
          by_cases hfj : f < j
          · have hf1 : (f : Int) < (j : Int) := by omega
            have HE1 : Aside (Ext w (wr.alloc (.cells #[.string (r.extract f j)] 9))) := ⟨HE.out.alloc _⟩
            have HOUT1 := Aside.mk (HOUT.out.ext StrC.ext ((Ext.refl wr).alloc (.cells #[.string (r.extract f j)] 9)))
            have HONE := Aside.mk (one_str (w := wr) (s := r.extract f j))
            have HS1 : Aside (w.heap.size ≤ (wr.alloc (.cells #[.string (r.extract f j)] 9)).heap.size) := ⟨HE1.out.size⟩
            have HLBN : Aside (vs.length + [r.extract f j].length ≤ 1073741824) := ⟨by have := HVN.out; simp; omega⟩
            have HLN2 : Aside ((vs ++ [r.extract f j]).length = m + 1) := ⟨by simp [HVN.out]⟩
            have HSC2 := Aside.mk (HTWO.out.1 hfj)
            clear hfj
            go_wp2_with (at_builtin; refine append_so (R := StrC) w.heap.size elemStr rfl _ _ rfl _ _ vs [r.extract f j] HOUT1.out HONE.out StrC.one (fun _ _ _ _ h => h) rfl rfl HS1.out HLBN.out ?_; intro v1 w6 ho hg; obtain ⟨A5, c5, rfl, _⟩ := ho.sv.form; rw [HLN2.out] at ho ⊢; have HE6 := Aside.mk (SO.ext_grown HOUT1.out HE1.out (Nat.le_refl _) hg); have HOUT6 := Aside.mk ho; clear ho hg)
            go_roundw
            case rel => exact ⟨j + 1, j + 1, m + 1, A5, c5, by omega, by omega, by omega, by go_num, by go_num, rfl, HE6, ⟨_, HLN2.out, HOUT6.out, HSC2.out⟩⟩
            case measure => simp [intOf]; omega
          · have hf1 : ¬ (f : Int) < (j : Int) := by omega
            have HSC2 := Aside.mk (HTWO.out.2 hfj)
            clear hfj
            go_wp2_with fail
            go_roundw
            case rel => exact ⟨j + 1, j + 1, m, NA, nc, by omega, by omega, by omega, by go_num, by go_num, rfl, HE, ⟨_, HVN.out, HOUT.out, HSC2.out⟩⟩
            case measure => simp [intOf]; omega
        · have b1 := byte_nb (b := r[j]) (c := 123) (k := 123) rfl (by rw [g]; decide)
          have b2 := byte_yb (b := r[j]) (c := 125) (k := 125) rfl g
          clear g
          by_cases hfj : f < j
          · have hf1 : (f : Int) < (j : Int) := by omega
            have HE1 : Aside (Ext w (wr.alloc (.cells #[.string (r.extract f j)] 9))) := ⟨HE.out.alloc _⟩
            have HOUT1 := Aside.mk (HOUT.out.ext StrC.ext ((Ext.refl wr).alloc (.cells #[.string (r.extract f j)] 9)))
            have HONE := Aside.mk (one_str (w := wr) (s := r.extract f j))
            have HS1 : Aside (w.heap.size ≤ (wr.alloc (.cells #[.string (r.extract f j)] 9)).heap.size) := ⟨HE1.out.size⟩
            have HLBN : Aside (vs.length + [r.extract f j].length ≤ 1073741824) := ⟨by have := HVN.out; simp; omega⟩
            have HLN2 : Aside ((vs ++ [r.extract f j]).length = m + 1) := ⟨by simp [HVN.out]⟩
            have HSC2 := Aside.mk (HTWO.out.1 hfj)
            clear hfj
            go_wp2_with (at_builtin; refine append_so (R := StrC) w.heap.size elemStr rfl _ _ rfl _ _ vs [r.extract f j] HOUT1.out HONE.out StrC.one (fun _ _ _ _ h => h) rfl rfl HS1.out HLBN.out ?_; intro v1 w6 ho hg; obtain ⟨A5, c5, rfl, _⟩ := ho.sv.form; rw [HLN2.out] at ho ⊢; have HE6 := Aside.mk (SO.ext_grown HOUT1.out HE1.out (Nat.le_refl _) hg); have HOUT6 := Aside.mk ho; clear ho hg)
            go_roundw
            case rel => exact ⟨j + 1, j + 1, m + 1, A5, c5, by omega, by omega, by omega, by go_num, by go_num, rfl, HE6, ⟨_, HLN2.out, HOUT6.out, HSC2.out⟩⟩
            case measure => simp [intOf]; omega
          · have hf1 : ¬ (f : Int) < (j : Int) := by omega
            have HSC2 := Aside.mk (HTWO.out.2 hfj)
            clear hfj
            go_wp2_with fail
            go_roundw
            case rel => exact ⟨j + 1, j + 1, m, NA, nc, by omega, by omega, by omega, by go_num, by go_num, rfl, HE, ⟨_, HVN.out, HOUT.out, HSC2.out⟩⟩
            case measure => simp [intOf]; omega
        · have b1 := byte_nb (b := r[j]) (c := 123) (k := 123) rfl (by rw [g]; decide)
          have b2 := byte_nb (b := r[j]) (c := 125) (k := 125) rfl (by rw [g]; decide)
          have b3 := byte_yb (b := r[j]) (c := 44) (k := 44) rfl g
          clear g
          by_cases hfj : f < j
          · have hf1 : (f : Int) < (j : Int) := by omega
            have HE1 : Aside (Ext w (wr.alloc (.cells #[.string (r.extract f j)] 9))) := ⟨HE.out.alloc _⟩
            have HOUT1 := Aside.mk (HOUT.out.ext StrC.ext ((Ext.refl wr).alloc (.cells #[.string (r.extract f j)] 9)))
            have HONE := Aside.mk (one_str (w := wr) (s := r.extract f j))
            have HS1 : Aside (w.heap.size ≤ (wr.alloc (.cells #[.string (r.extract f j)] 9)).heap.size) := ⟨HE1.out.size⟩
            have HLBN : Aside (vs.length + [r.extract f j].length ≤ 1073741824) := ⟨by have := HVN.out; simp; omega⟩
            have HLN2 : Aside ((vs ++ [r.extract f j]).length = m + 1) := ⟨by simp [HVN.out]⟩
            have HSC2 := Aside.mk (HTWO.out.1 hfj)
            clear hfj
            go_wp2_with (at_builtin; refine append_so (R := StrC) w.heap.size elemStr rfl _ _ rfl _ _ vs [r.extract f j] HOUT1.out HONE.out StrC.one (fun _ _ _ _ h => h) rfl rfl HS1.out HLBN.out ?_; intro v1 w6 ho hg; obtain ⟨A5, c5, rfl, _⟩ := ho.sv.form; rw [HLN2.out] at ho ⊢; have HE6 := Aside.mk (SO.ext_grown HOUT1.out HE1.out (Nat.le_refl _) hg); have HOUT6 := Aside.mk ho; clear ho hg)
            go_roundw
            case rel => exact ⟨j + 1, j + 1, m + 1, A5, c5, by omega, by omega, by omega, by go_num, by go_num, rfl, HE6, ⟨_, HLN2.out, HOUT6.out, HSC2.out⟩⟩
            case measure => simp [intOf]; omega
          · have hf1 : ¬ (f : Int) < (j : Int) := by omega
            have HSC2 := Aside.mk (HTWO.out.2 hfj)
            clear hfj
            go_wp2_with fail
            go_roundw
            case rel => exact ⟨j + 1, j + 1, m, NA, nc, by omega, by omega, by omega, by go_num, by go_num, rfl, HE, ⟨_, HVN.out, HOUT.out, HSC2.out⟩⟩
            case measure => simp [intOf]; omega
        · have b1 := byte_nb (b := r[j]) (c := 123) (k := 123) rfl (by rw [g]; decide)
          have b2 := byte_nb (b := r[j]) (c := 125) (k := 125) rfl (by rw [g]; decide)
          have b3 := byte_nb (b := r[j]) (c := 44) (k := 44) rfl (by rw [g]; decide)
          have b4 := byte_yb (b := r[j]) (c := 32) (k := 32) rfl g
          clear g
          by_cases hfj : f < j
          · have hf1 : (f : Int) < (j : Int) := by omega
            have HE1 : Aside (Ext w (wr.alloc (.cells #[.string (r.extract f j)] 9))) := ⟨HE.out.alloc _⟩
            have HOUT1 := Aside.mk (HOUT.out.ext StrC.ext ((Ext.refl wr).alloc (.cells #[.string (r.extract f j)] 9)))
            have HONE := Aside.mk (one_str (w := wr) (s := r.extract f j))
            have HS1 : Aside (w.heap.size ≤ (wr.alloc (.cells #[.string (r.extract f j)] 9)).heap.size) := ⟨HE1.out.size⟩
            have HLBN : Aside (vs.length + [r.extract f j].length ≤ 1073741824) := ⟨by have := HVN.out; simp; omega⟩
            have HLN2 : Aside ((vs ++ [r.extract f j]).length = m + 1) := ⟨by simp [HVN.out]⟩
            have HSC2 := Aside.mk (HTWO.out.1 hfj)
            clear hfj
            go_wp2_with (at_builtin; refine append_so (R := StrC) w.heap.size elemStr rfl _ _ rfl _ _ vs [r.extract f j] HOUT1.out HONE.out StrC.one (fun _ _ _ _ h => h) rfl rfl HS1.out HLBN.out ?_; intro v1 w6 ho hg; obtain ⟨A5, c5, rfl, _⟩ := ho.sv.form; rw [HLN2.out] at ho ⊢; have HE6 := Aside.mk (SO.ext_grown HOUT1.out HE1.out (Nat.le_refl _) hg); have HOUT6 := Aside.mk ho; clear ho hg)
            go_roundw
            case rel => exact ⟨j + 1, j + 1, m + 1, A5, c5, by omega, by omega, by omega, by go_num, by go_num, rfl, HE6, ⟨_, HLN2.out, HOUT6.out, HSC2.out⟩⟩
            case measure => simp [intOf]; omega
          · have hf1 : ¬ (f : Int) < (j : Int) := by omega
            have HSC2 := Aside.mk (HTWO.out.2 hfj)
            clear hfj
            go_wp2_with fail
            go_roundw
            case rel => exact ⟨j + 1, j + 1, m, NA, nc, by omega, by omega, by omega, by go_num, by go_num, rfl, HE, ⟨_, HVN.out, HOUT.out, HSC2.out⟩⟩
            case measure => simp [intOf]; omega
    · have hp1 : ¬ (j : Int) < (r.size : Int) := by rw [HRN.out]; omega
      by_cases hle : j ≤ n
      · have hp2 : (j : Int) ≤ (r.size : Int) := by rw [HRN.out]; omega
        have HTWO := Aside.mk (rest_two HR.out HSC.out hf (.inl (by rw [HN.out]; omega)))
        by_cases hfj : f < j
        · have hf1 : (f : Int) < (j : Int) := by omega
          have HE1 : Aside (Ext w (wr.alloc (.cells #[.string (r.extract f j)] 9))) := ⟨HE.out.alloc _⟩
          have HOUT1 := Aside.mk (HOUT.out.ext StrC.ext ((Ext.refl wr).alloc (.cells #[.string (r.extract f j)] 9)))
          have HONE := Aside.mk (one_str (w := wr) (s := r.extract f j))
          have HS1 : Aside (w.heap.size ≤ (wr.alloc (.cells #[.string (r.extract f j)] 9)).heap.size) := ⟨HE1.out.size⟩
          have HLBN : Aside (vs.length + [r.extract f j].length ≤ 1073741824) := ⟨by have := HVN.out; simp; omega⟩
          have HLN2 : Aside ((vs ++ [r.extract f j]).length = m + 1) := ⟨by simp [HVN.out]⟩
          have HSC2 := Aside.mk (HTWO.out.1 hfj)
          clear hfj
          go_wp2_with (at_builtin; refine append_so (R := StrC) w.heap.size elemStr rfl _ _ rfl _ _ vs [r.extract f j] HOUT1.out HONE.out StrC.one (fun _ _ _ _ h => h) rfl rfl HS1.out HLBN.out ?_; intro v1 w6 ho hg; obtain ⟨A5, c5, rfl, _⟩ := ho.sv.form; rw [HLN2.out] at ho ⊢; have HE6 := Aside.mk (SO.ext_grown HOUT1.out HE1.out (Nat.le_refl _) hg); have HOUT6 := Aside.mk ho; clear ho hg)
          go_roundw
          case rel => exact ⟨j + 1, j + 1, m + 1, A5, c5, by omega, by omega, by omega, by go_num, by go_num, rfl, HE6, ⟨_, HLN2.out, HOUT6.out, HSC2.out⟩⟩
          case measure => simp [intOf]; omega
        · have hf1 : ¬ (f : Int) < (j : Int) := by omega
          have HSC2 := Aside.mk (HTWO.out.2 hfj)
          clear hfj
          go_wp2_with fail
          go_roundw
          case rel => exact ⟨j + 1, j + 1, m, NA, nc, by omega, by omega, by omega, by go_num, by go_num, rfl, HE, ⟨_, HVN.out, HOUT.out, HSC2.out⟩⟩
          case measure => simp [intOf]; omega
      · have hp2 : ¬ (j : Int) ≤ (r.size : Int) := by rw [HRN.out]; omega
        have HFIN : Aside (vs = (scalF [] l).map bs ∧ m = k) := ⟨by
          have h := HSC.out
          unfold restS at h
          rw [if_neg (by rw [HN.out]; omega), List.map_nil, List.append_nil] at h
          refine ⟨h.symm, ?_⟩
          rw [← HVN.out, ← h, List.length_map]; exact HK.out⟩
        go_wp2_with fail
        go_ret
        exact ⟨NA, nc, by rw [← HFIN.out.2]; rfl, by rw [← HFIN.out.1, ← HFIN.out.2]; exact HOUT.out, HE.out⟩
end Go.Proofs.YtcbaipnphepbeaaGreatDoor
