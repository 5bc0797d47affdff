/- The law ShapeParses: it returns true. ShapeParses: of every input the call returns true, and each argument reads behind it as it read before. ShapeParses: the tied card holds: for any string Parse returns the type, and Read the value, as the specification says, or its errors. Conditions: the package-level variables that the row lists start as the program's text lays them (the tie is given). -/
import Derived.Test.YtcbaipnphepbeaaGreatDoorN5
import Derived.Test.YtcbaipnphepbeaaGreatDoorN7
import Derived.Test.YtcbaipnphepbeaaGreatDoorNr
import Derived.Test.YtcbaipnphepbeaaGreatDoorNz
import Derived.Test.YtcbaipnphepbeaaGreatDoorNs
import Derived.ChangeMaps5
import Derived.Test.YtcbaipnphepbeaaGreatDoorCards
import Derived.Test.YtcbaipnphepbeaaGreatDoorTie
import Derived.SevenTiedAt
namespace Go.Proofs.YtcbaipnphepbeaaGreatDoor
open Go.RowKit
attribute [local go_sem ↓] Go.wp_at_zero Go.wp_at_succ

theorem cut_take (s : ByteArray) (k : Int) : (s.extract 0 (min (s.size : Int) k).toNat).data.toList = s.data.toList.take (min (s.size : Int) k).toNat := by
  rw [ByteArray.data_extract]
  simp
theorem prs_ok {w : World} {l : List UInt8} {s : ByteArray} {k : Int} {es : List Int} {n : Nat} (hg : Glob3 w) (hs : bs l = s) (hl : l.length ≤ 25000) (hm : parseS l = ((k, es), 0)) (hn : es.length = n) :
    Calls Tryz.prog 26 #[.string s] w fun e w' => ∃ D c, e = .returned (.tuple #[.agg #[.int .i64 k, .slice D n c], .int .i64 0]) ∧ TV w' (.agg #[.int .i64 k, .slice D n c]) k es ∧ Ext w w' := by
  subst hs hn
  refine (shParse_calls hg (by omega) hm).mono ?_
  rintro e w' ⟨⟨D, c, rfl, hs⟩, he⟩
  exact ⟨D, c, rfl, TV.mk hs.sv.iv, he⟩
theorem prs_bad {w : World} {l : List UInt8} {s : ByteArray} (hg : Glob3 w) (hs : bs l = s) (hl : l.length ≤ 25000) (hm : parseS l = ((0, []), 5)) :
    Calls Tryz.prog 26 #[.string s] w fun e w' => ∃ D c, e = .returned (.tuple #[.agg #[.int .i64 0, .slice D 0 c], .int .i64 5]) ∧ Ext w w' := by
  subst hs
  refine (shParse_calls hg (by omega) hm).mono ?_
  rintro e w' ⟨⟨D, c, rfl, hs⟩, he⟩
  exact ⟨D, c, rfl, he⟩
theorem rprs_ok {w : World} {l : List UInt8} {s : ByteArray} {k : Int} {es : List Int} {n : Nat} (hs : bs l = s) (hl : l.length ≤ 25000) (hm : parseS l = ((k, es), 0)) (hn : es.length = n) :
    Calls Tryz.prog 27 #[.string s] w fun e w' => ∃ D c, e = .returned (.tuple #[.agg #[.int .i64 k, .slice D n c], .bool true]) ∧ TV w' (.agg #[.int .i64 k, .slice D n c]) k es ∧ Ext w w' := by
  subst hs hn
  refine (rParse_calls (by omega)).mono ?_
  rintro e w' ⟨⟨k', es', D, c, ok, rfl, hs, hr⟩, he⟩
  cases ok
  · have := hr.2 rfl
    rw [hm] at this
    injection this with _ this
    cases this
  · have := hr.1 rfl
    rw [hm] at this
    injection this with this _
    injection this with e1 e2
    subst e1 e2
    exact ⟨D, c, rfl, TV.mk hs.sv.iv, he⟩
theorem rprs_bad {w : World} {l : List UInt8} {s : ByteArray} (hs : bs l = s) (hl : l.length ≤ 25000) (hm : parseS l = ((0, []), 5)) :
    Calls Tryz.prog 27 #[.string s] w fun e w' => ∃ k D n c, e = .returned (.tuple #[.agg #[.int .i64 k, .slice D n c], .bool false]) ∧ Ext w w' := by
  subst hs
  refine (rParse_calls (by omega)).mono ?_
  rintro e w' ⟨⟨k', es', D, c, ok, rfl, hs, hr⟩, he⟩
  cases ok
  · exact ⟨k', D, _, c, rfl, he⟩
  · have := hr.1 rfl
    rw [hm] at this
    injection this with _ this
    cases this
theorem read_to {w : World} {l : List UInt8} {s : ByteArray} {v : Vq} {e0 : Int} {l1 l2 l3 : Nat} (hg : Glob w) (hs : bs l = s) (hm : readF l = (v, e0)) (h1 : v.ds.length = l1) (h2 : v.nums.length = l2) (h3 : v.bits.length = l3) :
    Calls Tryz.prog 25 #[.string s] w fun e w' => ∃ D d A a B b, e = .returned (.tuple #[.agg #[.int .i64 v.k, .slice D l1 d, .slice A l2 a, .slice B l3 b], .int .i64 e0]) ∧ VV w' (.agg #[.int .i64 v.k, .slice D l1 d, .slice A l2 a, .slice B l3 b]) v ∧ Ext w w' := by
  subst hs h1 h2 h3
  refine (read_calls ia_all hg trivial hm).mono ?_
  rintro e w' ⟨r, rfl, hr, he⟩
  obtain ⟨D, d, A, a, B, b, rfl⟩ := hr.vv.form
  exact ⟨D, d, A, a, B, b, rfl, hr.vv, he⟩
theorem rread_to {w : World} {l : List UInt8} {s : ByteArray} {v : Vq} {e0 : Int} {l1 l2 l3 : Nat} (hz : 0 < w.heap.size) (hs : bs l = s) (hm : readF l = (v, e0)) (h1 : v.ds.length = l1) (h2 : v.nums.length = l2) (h3 : v.bits.length = l3) :
    Calls Tryz.prog 29 #[.string s] w fun e w' => ∃ D d A a B b, e = .returned (.tuple #[.agg #[.int .i64 v.k, .slice D l1 d, .slice A l2 a, .slice B l3 b], .int .i64 e0]) ∧ VV w' (.agg #[.int .i64 v.k, .slice D l1 d, .slice A l2 a, .slice B l3 b]) v ∧ Ext w w' := by
  subst hs h1 h2 h3
  refine (rread_calls hz hm).mono ?_
  rintro e w' ⟨r, rfl, hr, he⟩
  obtain ⟨D, d, A, a, B, b, rfl⟩ := hr.vv.form
  exact ⟨D, d, A, a, B, b, rfl, hr.vv, he⟩
set_option maxRecDepth 10000 in
set_option maxHeartbeats 8000000 in
theorem lwParses_calls {w : World} {s0 : ByteArray} (hg : Glob3 w) :
    Calls Tryz.prog 5 #[.string s0] w fun e w' => e = .returned (.bool true) ∧ Ext w w' := by
  have HG := Aside.mk hg
  obtain ⟨l, hl⟩ : ∃ l, (s0.extract 0 (min (s0.size : Int) 25000).toNat).data.toList = l := ⟨_, rfl⟩
  obtain ⟨s2, hs2⟩ : ∃ s, s0.extract 0 (min (s0.size : Int) 25000).toNat = s := ⟨_, rfl⟩
  have HS2 : Aside (bs l = s2) := ⟨by rw [← hl, hs2]; rfl⟩
  have HL2 : Aside (l.length ≤ 25000) := ⟨by rw [← hl, cut_take, List.length_take]; omega⟩
  obtain ⟨v, e0, hrd⟩ : ∃ v e, readF l = (v, e) := ⟨_, _, rfl⟩
  have HRD := Aside.mk hrd
  obtain ⟨l1, hl1⟩ : ∃ n, v.ds.length = n := ⟨_, rfl⟩
  obtain ⟨l2, hl2⟩ : ∃ n, v.nums.length = n := ⟨_, rfl⟩
  obtain ⟨l3, hl3⟩ : ∃ n, v.bits.length = n := ⟨_, rfl⟩
  have HL1 := Aside.mk hl1
  have HL3 := Aside.mk hl2
  have HL4 := Aside.mk hl3
  have he0 : (e0 == e0) = true := by simp
  obtain ⟨k, es, e, hm⟩ : ∃ k es e, parseS l = ((k, es), e) := ⟨_, _, _, rfl⟩
  clear hg hl hrd hl1 hl2 hl3
  by_cases he : e = 0
  · subst he
    have HM := Aside.mk hm
    obtain ⟨n, hn⟩ : ∃ n, es.length = n := ⟨_, rfl⟩
    have HN := Aside.mk hn
    have HSM : Aside (tySame k es k es = true) := ⟨by unfold tySame; simp⟩
    clear hm hn
    go_enter Tryz.func5, Tryz.ntmps5
    go_wp2_with (first | (go_at_call 26; (with_reducible refine (prs_ok HG.out HS2.out HL2.out HM.out HN.out).mono ?_); rintro e w1 ⟨D1, c1, rfl, ht, f1⟩; have HT1 := Aside.mk ht; have E1 := Aside.mk (f1.alloc (.cells #[.int .i64 k, .slice D1 n c1] 25)); have hb1 := B2.new (w := w1) rfl (.int .i64 k) (.slice D1 n c1) 25; clear f1 ht) | (go_at_call 27; (with_reducible refine (rprs_ok HS2.out HL2.out HM.out HN.out).mono ?_); rintro e w2 ⟨D2, c2, rfl, ht, f2⟩; have HT2 := Aside.mk (ht.ext ((Ext.refl w2).alloc (.cells #[.int .i64 k, .slice D2 n c2] 25))); have HT1' := Aside.mk (HT1.out.ext (((Ext.refl w1).alloc (.cells #[.int .i64 k, .slice D1 n c1] 25)).trans (f2.alloc (.cells #[.int .i64 k, .slice D2 n c2] 25)))); have E2 := Aside.mk (E1.out.trans (f2.alloc (.cells #[.int .i64 k, .slice D2 n c2] 25))); have hb1' := hb1.ext (f2.alloc (.cells #[.int .i64 k, .slice D2 n c2] 25)); have hb2 := B2.new (w := w2) rfl (.int .i64 k) (.slice D2 n c2) 25; clear f2 ht hb1) | (go_at_call 28; (with_reducible refine (rSame_calls HT1'.out HT2.out HSM.out).mono ?_); rintro e w3 ⟨rfl, f3⟩; have E3 := Aside.mk (E2.out.trans f3); clear f3) | (go_at_call 25; (with_reducible refine (read_to (HG.out.base.ext E3.out) HS2.out HRD.out HL1.out HL3.out HL4.out).mono ?_); rintro e w4 ⟨D4, d4, A4, a4, B4', b4, rfl, hv, f4⟩; have HV4 := Aside.mk (hv.ext ((Ext.refl w4).alloc (.cells #[.int .i64 v.k, .slice D4 l1 d4, .slice A4 l2 a4, .slice B4' l3 b4] 29))); have E4 := Aside.mk (E3.out.trans (f4.alloc (.cells #[.int .i64 v.k, .slice D4 l1 d4, .slice A4 l2 a4, .slice B4' l3 b4] 29))); have hb4 := B4.new (w := w4) rfl (.int .i64 v.k) (.slice D4 l1 d4) (.slice A4 l2 a4) (.slice B4' l3 b4) 29; have HZ4 := Aside.mk (Nat.lt_of_le_of_lt (Nat.zero_le _) (B4.lt hb4)); clear f4 hv) | (go_at_call 29; (with_reducible refine (rread_to HZ4.out HS2.out HRD.out HL1.out HL3.out HL4.out).mono ?_); rintro e w5 ⟨D5, d5, A5, a5, B5', b5, rfl, hv, f5⟩; have HV5 := Aside.mk (hv.ext ((Ext.refl w5).alloc (.cells #[.int .i64 v.k, .slice D5 l1 d5, .slice A5 l2 a5, .slice B5' l3 b5] 29))); have HV4' := Aside.mk (HV4.out.ext (f5.alloc (.cells #[.int .i64 v.k, .slice D5 l1 d5, .slice A5 l2 a5, .slice B5' l3 b5] 29))); have E5 := Aside.mk (E4.out.trans (f5.alloc (.cells #[.int .i64 v.k, .slice D5 l1 d5, .slice A5 l2 a5, .slice B5' l3 b5] 29))); have hb4' := hb4.ext (f5.alloc (.cells #[.int .i64 v.k, .slice D5 l1 d5, .slice A5 l2 a5, .slice B5' l3 b5] 29)); have hb5 := B4.new (w := w5) rfl (.int .i64 v.k) (.slice D5 l1 d5) (.slice A5 l2 a5) (.slice B5' l3 b5) 29; clear f5 hv hb4) | (go_at_call 30; (with_reducible refine (rEqual_same HV4'.out HV5.out).mono ?_); rintro e w6 ⟨rfl, f6⟩; have E6 := Aside.mk (E5.out.trans f6); clear f6 hb4' hb5) | (go_at_call 19; (with_reducible refine (alive3_calls (HG.out.ext E6.out)).mono ?_); rintro e w7 ⟨rfl, f7⟩; have HEND := Aside.mk (E6.out.trans f7); clear f7))
    go_ret
    exact ⟨rfl, HEND.out⟩
  · have hm2 : parseS l = ((0, []), 5) := by
      rcases parseS_err (s := l) with h | h
      · rw [hm] at h; exact absurd h he
      · exact h
    have HM := Aside.mk hm2
    clear hm hm2 he
    go_enter Tryz.func5, Tryz.ntmps5
    go_wp2_with (first | (go_at_call 26; (with_reducible refine (prs_bad HG.out HS2.out HL2.out HM.out).mono ?_); rintro e w1 ⟨D1, c1, rfl, f1⟩; have E1 := Aside.mk (f1.alloc (.cells #[.int .i64 0, .slice D1 0 c1] 25)); have hb1 := B2.new (w := w1) rfl (.int .i64 0) (.slice D1 0 c1) 25; clear f1) | (go_at_call 27; (with_reducible refine (rprs_bad HS2.out HL2.out HM.out).mono ?_); rintro e w2 ⟨k2, D2, n2, c2, rfl, f2⟩; have E3 := Aside.mk (E1.out.trans (f2.alloc (.cells #[.int .i64 k2, .slice D2 n2 c2] 25))); have hb1' := hb1.ext (f2.alloc (.cells #[.int .i64 k2, .slice D2 n2 c2] 25)); clear f2 hb1) | (go_at_call 25; (with_reducible refine (read_to (HG.out.base.ext E3.out) HS2.out HRD.out HL1.out HL3.out HL4.out).mono ?_); rintro e w4 ⟨D4, d4, A4, a4, B4', b4, rfl, hv, f4⟩; have HV4 := Aside.mk (hv.ext ((Ext.refl w4).alloc (.cells #[.int .i64 v.k, .slice D4 l1 d4, .slice A4 l2 a4, .slice B4' l3 b4] 29))); have E4 := Aside.mk (E3.out.trans (f4.alloc (.cells #[.int .i64 v.k, .slice D4 l1 d4, .slice A4 l2 a4, .slice B4' l3 b4] 29))); have hb4 := B4.new (w := w4) rfl (.int .i64 v.k) (.slice D4 l1 d4) (.slice A4 l2 a4) (.slice B4' l3 b4) 29; have HZ4 := Aside.mk (Nat.lt_of_le_of_lt (Nat.zero_le _) (B4.lt hb4)); clear f4 hv) | (go_at_call 29; (with_reducible refine (rread_to HZ4.out HS2.out HRD.out HL1.out HL3.out HL4.out).mono ?_); rintro e w5 ⟨D5, d5, A5, a5, B5', b5, rfl, hv, f5⟩; have HV5 := Aside.mk (hv.ext ((Ext.refl w5).alloc (.cells #[.int .i64 v.k, .slice D5 l1 d5, .slice A5 l2 a5, .slice B5' l3 b5] 29))); have HV4' := Aside.mk (HV4.out.ext (f5.alloc (.cells #[.int .i64 v.k, .slice D5 l1 d5, .slice A5 l2 a5, .slice B5' l3 b5] 29))); have E5 := Aside.mk (E4.out.trans (f5.alloc (.cells #[.int .i64 v.k, .slice D5 l1 d5, .slice A5 l2 a5, .slice B5' l3 b5] 29))); have hb4' := hb4.ext (f5.alloc (.cells #[.int .i64 v.k, .slice D5 l1 d5, .slice A5 l2 a5, .slice B5' l3 b5] 29)); have hb5 := B4.new (w := w5) rfl (.int .i64 v.k) (.slice D5 l1 d5) (.slice A5 l2 a5) (.slice B5' l3 b5) 29; clear f5 hv hb4) | (go_at_call 30; (with_reducible refine (rEqual_same HV4'.out HV5.out).mono ?_); rintro e w6 ⟨rfl, f6⟩; have E6 := Aside.mk (E5.out.trans f6); clear f6 hb4' hb5) | (go_at_call 19; (with_reducible refine (alive3_calls (HG.out.ext E6.out)).mono ?_); rintro e w7 ⟨rfl, f7⟩; have HEND := Aside.mk (E6.out.trans f7); clear f7))
    go_ret
    exact ⟨rfl, HEND.out⟩
end Go.Proofs.YtcbaipnphepbeaaGreatDoor

namespace Go.Proofs.YtcbaipnphepbeaaGreatDoor
open Go.RowKit Go.ChangeShapes Go.WideShapes Go.ChangeAt

set_option maxRecDepth 100000 in
theorem lwParses_lifted (os : Os) (started : os.Started) (H : Type) (enc : TypeId × Value → H) :
    ReturnsInHanded {} Tryz.checked os 5 .any (fun w args => (Rows.shapeParsesSpec.pre enc Tryz.prog Tryz.f5 [] false w args ∧ laidMetH Tryz.prog Rows.shapeParsesRow.laid w) ∧ sizedMet enc Tryz.prog Tryz.f5 (OpenSpec.ofChange Rows.shapeParsesSpec) false w args)
      (Rows.shapeParsesSpec.post enc Tryz.prog Tryz.f5 false true false false) := by
  refine returns_law (C := Tryz.checked) (X := fun w _ => laidMetH Tryz.prog Rows.shapeParsesRow.laid w) (fun _ _ _ hh h => h.of_heap hh) Tryz.own started (by kernel_rfl) Tryz.func5
    (ChangeSpec.witness_shaped (enc := enc) (C := Tryz.checked) (os := os) (X := fun w _ => laidMetH Tryz.prog Rows.shapeParsesRow.laid w) false (World.laidAll Tryz.prog os Rows.shapeParsesRow.laid) #[.string ⟨#[]⟩] 8 (World.laidAll_os _ _ _)
      (World.shaped_of_ZipB (by kernel_rfl) (by kernel_rfl)) (by kernel_rfl) (by kernel_rfl) (by kernel_rfl)
      (by rw [MakeChecks.laidMetH_plain _ _ _ (by kernel_rfl)]; exact laidMet_laidAll _ (by kernel_rfl) (by kernel_rfl))) ?_
  intro W base args ds gs before hval0 hW hL hsh
  have hval : ∀ (j : Nat) t v, Tryz.f5.params[j]? = some t → args[j]? = some v → Value.okWide Tryz.prog W .any base t v := hval0
  have hW' := hW
  obtain ⟨p, q, hA0, hV, rfl, hfz, hnd⟩ := hW
  have hA : DataW.TrodAll enc Tryz.prog W 0 (fun _ => true) true Tryz.f5.params.toList args.toList ds p := hA0
  have hA' := hA
  rw [Tryz.params5] at hA hval
  obtain ⟨v0, d0, rfl, rfl, h0⟩ := trodAll_one hA
  obtain ⟨rfl, rfl⟩ := trodVars_none hV
  have hG := glob3_of (by kernel_rfl) rfl hL hsh
  obtain ⟨s0, rfl, rfl, rfl, _⟩ := Go.ChangeMaps.open_string Tryz.underlying9 (hval 0 9 v0 rfl rfl) h0
  refine (lwParses_calls hG).mono fun e W' ⟨he, hw⟩ => ?_
  subst he
  refine ⟨_, rfl, law_post (ts := Tryz.f5.params.toList) rfl rfl rfl ?_ ⟨rfl, rfl, rfl⟩ hW' (by simpa using hA') hw⟩
  rw [Tryz.params5]
  exact read_all (by kernel_rfl)

theorem shapeParses_holds : Rows.ShapeParsesSaid :=
  OpenClaim.holds_of_wide 5 Tryz.f5 rfl rfl rfl rfl rfl rfl rfl ⟨rfl, rfl, rfl, rfl, rfl⟩ rfl rfl rfl rfl rfl (by kernel_rfl) Tryz.func5 (by kernel_rfl)
    (of_decide_eq_true (by kernel_rfl)) (by unfold Func.isWrapper; first | (rw [if_neg (by decide +kernel)]; exact ⟨rfl, rfl⟩) | (rw [if_pos (by decide +kernel)]; kernel_rfl))
    (fun os started H enc _ => lwParses_lifted os started H enc)
end Go.Proofs.YtcbaipnphepbeaaGreatDoor

namespace Go.Proofs.YtcbaipnphepbeaaGreatDoor
open Go

set_option maxRecDepth 100000 in
theorem shapeParses_card : Rows.ShapeParsesCardSaid :=
  Claim7.holds_tied_plain_at .later [] [.data, .data, .data, .data, .data] true (true, "74a4f590cf19fe5091db46413e7db25a7b9d51dc5c5273584579c29297515e2e") false
    shapeParses_holds (fun _ h => by cases h) (by kernel_rfl) (fun _ h => by cases h) shapeParses_row_tie rfl ⟨rfl, rfl⟩ (by kernel_rfl) rfl
    (fun f fn hf hfn => by
      obtain rfl : f = 5 := Option.some.inj ((show Tryz.prog.funcNamed "fluxion/fluxionlaw03.ShapeParses" = some 5 by kernel_rfl).symm.trans hf) |>.symm
      obtain rfl : fn = Tryz.f5 := (Option.some.inj (Tryz.func5.symm.trans hfn)).symm
      exact ⟨by kernel_rfl, fun j t ht => by
        rw [Tryz.params5] at ht
        have hm : t ∈ Tryz.f5.params.toList := by rw [Tryz.params5]; exact Array.mem_toList_iff.2 (Array.mem_of_getElem? ht)
        have hall : (Tryz.f5.params.toList.all fun u => !Tryz.prog.wantsStandIn u) = true := by kernel_rfl
        exact (show Tryz.prog.wantsStandIn t = false by simpa using List.all_eq_true.1 hall t hm)⟩)
    (by kernel_rfl)
#print axioms shapeParses_card
end Go.Proofs.YtcbaipnphepbeaaGreatDoor
