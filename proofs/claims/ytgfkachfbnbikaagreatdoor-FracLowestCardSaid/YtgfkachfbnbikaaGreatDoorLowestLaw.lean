/- An argument that is a list of digits. FracLowest: of every input the call returns true, and each argument reads behind it as it read before. FracLowest: the tied card holds: every result is valid, and Make of the Num and Den of a number, each times the same natural number above 0, is the number. Conditions: the package-level variables that the row lists start as the program's text lays them (the tie is given). -/
import Derived.Test.YtgfkachfbnbikaaGreatDoorMp
import Derived.Test.YtgfkachfbnbikaaGreatDoorMu
import Derived.Test.YtgfkachfbnbikaaGreatDoorCards
import Derived.Test.YtgfkachfbnbikaaGreatDoorTie
import Derived.SevenTiedAt
namespace Go.Proofs.YtgfkachfbnbikaaGreatDoor
open Go.RowKit Go.ChangeShapes Go.WideShapes Go.ChangeAt

set_option maxRecDepth 100000 in
theorem list_of {H : Type} {enc : TypeId × Value → H} {W : World} {n base : Nat} {v : Value} {x : DataW H × List MemPlace} {held : Bool} (hv : Value.okWide Tryz.prog W .any base 22 v)
    (h : DataW.trod enc Tryz.prog W 0 (fun _ => true) held n 22 v.cells.toList = some x) : ∃ xs, RL W v xs := by
  obtain ⟨s, xs, e, hx⟩ := rl_of h
  have hs := hx
  simp only [Value.okWide, Tryz.underlying22] at hv
  have : v = s := by
    cases v <;> first | (simp [Value.cells] at e; exact e) | (simp [Cell.okWide, Cell.ok, Tryz.underlying22] at hv)
  exact ⟨xs, this ▸ hs⟩
end Go.Proofs.YtgfkachfbnbikaaGreatDoor

namespace Go.Proofs.YtgfkachfbnbikaaGreatDoor
open Go.RowKit Go.ChangeShapes Go.WideShapes Go.ChangeAt

set_option maxRecDepth 100000 in
theorem lowest_lifted (os : Os) (started : os.Started) (H : Type) (enc : TypeId × Value → H) :
    ReturnsInHanded {} Tryz.checked os 9 .any (fun w args => (Rows.fracLowestSpec.pre enc Tryz.prog Tryz.f9 [] false w args ∧ laidMetH Tryz.prog Rows.fracLowestRow.laid w) ∧ sizedMet enc Tryz.prog Tryz.f9 (OpenSpec.ofChange Rows.fracLowestSpec) false w args)
      (Rows.fracLowestSpec.post enc Tryz.prog Tryz.f9 false true false false) := by
  refine returns_law (C := Tryz.checked) (X := fun w _ => laidMetH Tryz.prog Rows.fracLowestRow.laid w) (fun _ _ _ hh h => h.of_heap hh) Tryz.own started (by kernel_rfl) Tryz.func9
    (ChangeSpec.witness_shaped (enc := enc) (C := Tryz.checked) (os := os) (X := fun w _ => laidMetH Tryz.prog Rows.fracLowestRow.laid w) false (World.laidAll Tryz.prog os Rows.fracLowestRow.laid) #[.agg #[.int .i64 0, .bool false, .slice none 0 0, .slice none 0 0], .agg #[.int .i64 0, .bool false, .slice none 0 0, .slice none 0 0], .slice none 0 0] 8 (World.laidAll_os _ _ _)
      (World.shaped_of_ZipB (by kernel_rfl) (by kernel_rfl)) (by kernel_rfl) (by kernel_rfl) (by kernel_rfl)
      (by rw [MakeChecks.laidMetH_plain _ _ _ (by kernel_rfl)]; exact laidMet_laidAll _ (by kernel_rfl) (by kernel_rfl))) ?_
  intro W base args ds gs before hval0 hW hL hsh
  have hval : ∀ (j : Nat) t v, Tryz.f9.params[j]? = some t → args[j]? = some v → Value.okWide Tryz.prog W .any base t v := hval0
  have hW' := hW
  obtain ⟨p, q, hA0, hV, rfl, hfz, hnd⟩ := hW
  have hA : DataW.TrodAll enc Tryz.prog W 0 (fun _ => true) true Tryz.f9.params.toList args.toList ds p := hA0
  have hA' := hA
  rw [Tryz.params9] at hA hval
  obtain ⟨v0, v1, v2, d0, d1, d2, p0, p1, p2, rfl, rfl, rfl, ⟨k0, h0⟩, ⟨k1, h1⟩, ⟨k2, h2⟩⟩ := trodAll_three hA
  obtain ⟨rfl, rfl⟩ := trodVars_none hV
  have hG := glob_of (by kernel_rfl) rfl hL hsh
  obtain ⟨f1, n1, sx1, sy1, xs1, ys1, rfl, hx1, hy1⟩ := rat_of (hval 0 26 v0 rfl rfl) h0
  obtain ⟨f2, n2, sx2, sy2, xs2, ys2, rfl, hx2, hy2⟩ := rat_of (hval 1 26 v1 rfl rfl) h1
  obtain ⟨ts, ht⟩ := list_of (hval 2 22 v2 rfl rfl) h2
  refine (lowest_calls hG hx1 hy1 hx2 hy2 ht).mono fun e W' ⟨he, hw⟩ => ?_
  subst he
  refine ⟨_, rfl, law_post (ts := Tryz.f9.params.toList) rfl rfl rfl ?_ ⟨rfl, rfl, rfl⟩ hW' (by simpa using hA') hw⟩
  rw [Tryz.params9]
  exact read_all (by kernel_rfl)

theorem fracLowest_holds : Rows.FracLowestSaid :=
  OpenClaim.holds_of_wide 9 Tryz.f9 rfl rfl rfl rfl rfl rfl rfl ⟨rfl, rfl, rfl, rfl, rfl⟩ rfl rfl rfl rfl rfl (by kernel_rfl) Tryz.func9 (by kernel_rfl)
    (of_decide_eq_true (by kernel_rfl)) (by unfold Func.isWrapper; first | (rw [if_neg (by decide +kernel)]; exact ⟨rfl, rfl⟩) | (rw [if_pos (by decide +kernel)]; kernel_rfl))
    (fun os started H enc _ => lowest_lifted os started H enc)
end Go.Proofs.YtgfkachfbnbikaaGreatDoor

namespace Go.Proofs.YtgfkachfbnbikaaGreatDoor
open Go

set_option maxRecDepth 100000 in
theorem fracLowest_card : Rows.FracLowestCardSaid :=
  Claim7.holds_tied_plain_at .later [] [.data, .data, .pinned] true (true, "d85da3931ba373f0f2d5a7ce168e29c3a5db8cee51669ffe15e332533fbaa330") false
    fracLowest_holds (fun _ h => by cases h) (by kernel_rfl) (fun _ h => by cases h) fracLowest_row_tie rfl ⟨rfl, rfl⟩ (by kernel_rfl) rfl
    (fun f fn hf hfn => by
      obtain rfl : f = 9 := Option.some.inj ((show Tryz.prog.funcNamed "fluxion/fluxionlaw02.FracLowest" = some 9 by kernel_rfl).symm.trans hf) |>.symm
      obtain rfl : fn = Tryz.f9 := (Option.some.inj (Tryz.func9.symm.trans hfn)).symm
      exact ⟨by kernel_rfl, fun j t ht => by
        rw [Tryz.params9] at ht
        have hm : t ∈ Tryz.f9.params.toList := by rw [Tryz.params9]; exact Array.mem_toList_iff.2 (Array.mem_of_getElem? ht)
        have hall : (Tryz.f9.params.toList.all fun u => !Tryz.prog.wantsStandIn u) = true := by kernel_rfl
        exact (show Tryz.prog.wantsStandIn t = false by simpa using List.all_eq_true.1 hall t hm)⟩)
    (by kernel_rfl)
#print axioms fracLowest_card
end Go.Proofs.YtgfkachfbnbikaaGreatDoor
