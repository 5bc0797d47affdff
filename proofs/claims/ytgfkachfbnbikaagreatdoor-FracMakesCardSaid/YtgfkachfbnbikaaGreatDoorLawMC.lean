/- FracMakes: the tied card holds: for any two ints Of returns the number of the specification, and for any two lists of digits Make the number, or ErrForm. Conditions: the package-level variables that the row lists start as the program's text lays them (the tie is given). -/
import Derived.Test.YtgfkachfbnbikaaGreatDoorLawMP
import Derived.Test.YtgfkachfbnbikaaGreatDoorCards
import Derived.Test.YtgfkachfbnbikaaGreatDoorTie
import Derived.SevenTiedAt
namespace Go.Proofs.YtgfkachfbnbikaaGreatDoor
open Go

set_option maxRecDepth 100000 in
theorem fracMakes_card : Rows.FracMakesCardSaid :=
  Claim7.holds_tied_plain_at .later [] [.data, .data, .pinned] true (true, "d85da3931ba373f0f2d5a7ce168e29c3a5db8cee51669ffe15e332533fbaa330") false
    fracMakes_holds (fun _ h => by cases h) (by kernel_rfl) (fun _ h => by cases h) fracMakes_row_tie rfl ⟨rfl, rfl⟩ (by kernel_rfl) rfl
    (fun f fn hf hfn => by
      obtain rfl : f = 3 := Option.some.inj ((show Tryz.prog.funcNamed "fluxion/fluxionlaw02.FracMakes" = some 3 by kernel_rfl).symm.trans hf) |>.symm
      obtain rfl : fn = Tryz.f3 := (Option.some.inj (Tryz.func3.symm.trans hfn)).symm
      exact ⟨by kernel_rfl, fun j t ht => by
        rw [Tryz.params3] at ht
        have hm : t ∈ Tryz.f3.params.toList := by rw [Tryz.params3]; exact Array.mem_toList_iff.2 (Array.mem_of_getElem? ht)
        have hall : (Tryz.f3.params.toList.all fun u => !Tryz.prog.wantsStandIn u) = true := by kernel_rfl
        exact (show Tryz.prog.wantsStandIn t = false by simpa using List.all_eq_true.1 hall t hm)⟩)
    (by kernel_rfl)
#print axioms fracMakes_card
end Go.Proofs.YtgfkachfbnbikaaGreatDoor
