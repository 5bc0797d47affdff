/-
  NARROWER THAN 'FOR EVERY INPUT', by the rows' own cells (each row's printed sentence says how): FracMakes: laid · FracTexts: laid · FracReads: laid · FracSums: laid · FracProducts: laid · FracField: laid · FracLowest: laid · FracForms: laid · FracFloor: laid · FracOwn: laid · FracOrder: laid · FracBits: laid · FracFaults: laid.
  DERIVED. THE GIVEN ROWS OF THIS SEAT. 13 by the template 'for every input the law returns true; each argument reads behind the call as it read before'; 0 by the template 'total and deterministic' (their statements: YtgfkachfbnbikaaGreatDoorTotals.lean).
  GIVEN WITH THE SEED: the statements are not yours to turn. If you find one false, say at which input.
  Laid BY PROGRAM, IN A SANDBOX (cutbox-rows.mjs): the forced cells as the released guide's own fill.sh prints them over the translation 14d0650739e55c17… (all of the seat's roots in one cut). By AI agents, Wed Nov 11 2026. No macro, syntax, notation, axiom, sorry.
-/
import Derived.Test.YtgfkachfbnbikaaGreatDoorChecked
import GoSem.PinnedTables
import GoSem.Claim
import GoSem.ClaimJoined
import GoSem.ClaimMapViews
import Derived.JoinedTies
import Derived.KernelRfl
namespace Go.Proofs.YtgfkachfbnbikaaGreatDoor
/- THE CELL 'sum', in the pinned program and in every row, IS THE sha256 OF THE DUMP (.gsa) THAT YtgfkachfbnbikaaGreatDoorProg.lean LOADS. Nothing in Lean hashes anything: it is a label: what it is worth is what the hold of that sum in a sandbox is worth. -/
noncomputable def Tryz.pinned : Pinned := { name := "ytgfkachfbnbikaagreatdoor", sum := "14d0650739e55c178e8a55d916030e567b06502056016264091f185db43a7c58", checked := Tryz.checked }
namespace Rows
def none {H : Type} : Left H := { results := [], args := [] }

/- WHAT THE LISTED PACKAGE-LEVEL VARIABLES READ AS WHEN THE CALL BEGINS. Each datum BY PROGRAM (the guide's laid-datum.mjs) off the statement by which the dump's own 'gosem.cut.vars' lays the variable. In a bare row this is a premise. The card (YtgfkachfbnbikaaGreatDoorCards.lean) ties it to the program's text. -/
def laid_unicode_utf8_acceptRanges {H : Type} : DataW H := .agg [.agg [.lit (.int .u8 128), .lit (.int .u8 191)], .agg [.lit (.int .u8 160), .lit (.int .u8 191)], .agg [.lit (.int .u8 128), .lit (.int .u8 159)], .agg [.lit (.int .u8 144), .lit (.int .u8 191)], .agg [.lit (.int .u8 128), .lit (.int .u8 143)], .agg [.lit (.int .u8 0), .lit (.int .u8 0)], .agg [.lit (.int .u8 0), .lit (.int .u8 0)], .agg [.lit (.int .u8 0), .lit (.int .u8 0)], .agg [.lit (.int .u8 0), .lit (.int .u8 0)], .agg [.lit (.int .u8 0), .lit (.int .u8 0)], .agg [.lit (.int .u8 0), .lit (.int .u8 0)], .agg [.lit (.int .u8 0), .lit (.int .u8 0)], .agg [.lit (.int .u8 0), .lit (.int .u8 0)], .agg [.lit (.int .u8 0), .lit (.int .u8 0)], .agg [.lit (.int .u8 0), .lit (.int .u8 0)], .agg [.lit (.int .u8 0), .lit (.int .u8 0)]]
def laid_fluxion_frac_faults {H : Type} : DataW H := .agg [.agg [.lit (.string [33, 114, 97, 110, 103, 101]), .lit (.int .i64 4)], .agg [.lit (.string [33, 122, 101, 114, 111]), .lit (.int .i64 11)]]
/-- One of Go's own tables, pinned by name: the form's constant. -/
def laid_unicode_utf8_first : DataW Unit := Go.Pinned.utf8First

/-- 'fluxionlaw02.FracMakes': WHATEVER THE INPUT: true; the input reads as it did. -/
def fracMakesSpec : ChangeSpec := { name := "fracMakes", fn := fun _ => fun
  | [d1, d2, d3, d4] => { results := [.lit (.bool true)], args := [d1, d2, d3, d4] }
  | _ => none }
def fracMakesRow : OpenClaim := { program := "ytgfkachfbnbikaagreatdoor", sum := "14d0650739e55c178e8a55d916030e567b06502056016264091f185db43a7c58", func := "fluxion/fluxionlaw02.FracMakes", spec := "fracMakes", inPlace := ["internal/bytealg.IndexByteString", "internal/bytealg.IndexString", "internal/abi.NoEscape", "internal/bytealg.MakeNoZero"], unfollowed := true, recurses := true, named := ["fluxion/frac.faults", "internal/bytealg.MaxLen", "unicode/utf8.first", "unicode/utf8.acceptRanges"], apart := false, laid := [("unicode/utf8.acceptRanges", laid_unicode_utf8_acceptRanges), ("fluxion/frac.faults", laid_fluxion_frac_faults), ("unicode/utf8.first", laid_unicode_utf8_first)] }
def FracMakesSaid : Prop := fracMakesRow.holds Tryz.pinned (OpenSpec.ofChange fracMakesSpec)

/-- ITS FALSE NEIGHBOUR: 'it returns false'. Refute it at one input. -/
def fracMakesWrong : ChangeSpec := { name := "fracMakes", fn := fun _ => fun
  | [d1, d2, d3, d4] => { results := [.lit (.bool false)], args := [d1, d2, d3, d4] }
  | _ => none }
def FracMakesWrongFalsely : Prop := fracMakesRow.holds Tryz.pinned (OpenSpec.ofChange fracMakesWrong)

/-- 'fluxionlaw02.FracTexts': WHATEVER THE INPUT: true; the input reads as it did. -/
def fracTextsSpec : ChangeSpec := { name := "fracTexts", fn := fun _ => fun
  | [d1, d2] => { results := [.lit (.bool true)], args := [d1, d2] }
  | _ => none }
def fracTextsRow : OpenClaim := { program := "ytgfkachfbnbikaagreatdoor", sum := "14d0650739e55c178e8a55d916030e567b06502056016264091f185db43a7c58", func := "fluxion/fluxionlaw02.FracTexts", spec := "fracTexts", inPlace := ["internal/bytealg.IndexByteString", "internal/bytealg.IndexString", "internal/abi.NoEscape", "internal/bytealg.MakeNoZero"], unfollowed := true, recurses := true, named := ["fluxion/frac.faults", "internal/bytealg.MaxLen", "unicode/utf8.first", "unicode/utf8.acceptRanges"], apart := false, laid := [("unicode/utf8.acceptRanges", laid_unicode_utf8_acceptRanges), ("fluxion/frac.faults", laid_fluxion_frac_faults), ("unicode/utf8.first", laid_unicode_utf8_first)] }
def FracTextsSaid : Prop := fracTextsRow.holds Tryz.pinned (OpenSpec.ofChange fracTextsSpec)

/-- ITS FALSE NEIGHBOUR: 'it returns false'. Refute it at one input. -/
def fracTextsWrong : ChangeSpec := { name := "fracTexts", fn := fun _ => fun
  | [d1, d2] => { results := [.lit (.bool false)], args := [d1, d2] }
  | _ => none }
def FracTextsWrongFalsely : Prop := fracTextsRow.holds Tryz.pinned (OpenSpec.ofChange fracTextsWrong)

/-- 'fluxionlaw02.FracReads': WHATEVER THE INPUT: true; the input reads as it did. -/
def fracReadsSpec : ChangeSpec := { name := "fracReads", fn := fun _ => fun
  | [d1, d2] => { results := [.lit (.bool true)], args := [d1, d2] }
  | _ => none }
def fracReadsRow : OpenClaim := { program := "ytgfkachfbnbikaagreatdoor", sum := "14d0650739e55c178e8a55d916030e567b06502056016264091f185db43a7c58", func := "fluxion/fluxionlaw02.FracReads", spec := "fracReads", inPlace := ["internal/bytealg.IndexByteString", "internal/bytealg.IndexString", "internal/abi.NoEscape", "internal/bytealg.MakeNoZero"], unfollowed := true, recurses := true, named := ["fluxion/frac.faults", "internal/bytealg.MaxLen", "unicode/utf8.first", "unicode/utf8.acceptRanges"], apart := false, laid := [("unicode/utf8.acceptRanges", laid_unicode_utf8_acceptRanges), ("fluxion/frac.faults", laid_fluxion_frac_faults), ("unicode/utf8.first", laid_unicode_utf8_first)] }
def FracReadsSaid : Prop := fracReadsRow.holds Tryz.pinned (OpenSpec.ofChange fracReadsSpec)

/-- ITS FALSE NEIGHBOUR: 'it returns false'. Refute it at one input. -/
def fracReadsWrong : ChangeSpec := { name := "fracReads", fn := fun _ => fun
  | [d1, d2] => { results := [.lit (.bool false)], args := [d1, d2] }
  | _ => none }
def FracReadsWrongFalsely : Prop := fracReadsRow.holds Tryz.pinned (OpenSpec.ofChange fracReadsWrong)

/-- 'fluxionlaw02.FracSums': WHATEVER THE INPUT: true; the input reads as it did. -/
def fracSumsSpec : ChangeSpec := { name := "fracSums", fn := fun _ => fun
  | [d1, d2] => { results := [.lit (.bool true)], args := [d1, d2] }
  | _ => none }
def fracSumsRow : OpenClaim := { program := "ytgfkachfbnbikaagreatdoor", sum := "14d0650739e55c178e8a55d916030e567b06502056016264091f185db43a7c58", func := "fluxion/fluxionlaw02.FracSums", spec := "fracSums", inPlace := ["internal/bytealg.IndexByteString", "internal/bytealg.IndexString", "internal/abi.NoEscape", "internal/bytealg.MakeNoZero"], unfollowed := true, recurses := true, named := ["fluxion/frac.faults", "internal/bytealg.MaxLen", "unicode/utf8.first", "unicode/utf8.acceptRanges"], apart := false, laid := [("unicode/utf8.acceptRanges", laid_unicode_utf8_acceptRanges), ("fluxion/frac.faults", laid_fluxion_frac_faults), ("unicode/utf8.first", laid_unicode_utf8_first)] }
def FracSumsSaid : Prop := fracSumsRow.holds Tryz.pinned (OpenSpec.ofChange fracSumsSpec)

/-- ITS FALSE NEIGHBOUR: 'it returns false'. Refute it at one input. -/
def fracSumsWrong : ChangeSpec := { name := "fracSums", fn := fun _ => fun
  | [d1, d2] => { results := [.lit (.bool false)], args := [d1, d2] }
  | _ => none }
def FracSumsWrongFalsely : Prop := fracSumsRow.holds Tryz.pinned (OpenSpec.ofChange fracSumsWrong)

/-- 'fluxionlaw02.FracProducts': WHATEVER THE INPUT: true; the input reads as it did. -/
def fracProductsSpec : ChangeSpec := { name := "fracProducts", fn := fun _ => fun
  | [d1, d2] => { results := [.lit (.bool true)], args := [d1, d2] }
  | _ => none }
def fracProductsRow : OpenClaim := { program := "ytgfkachfbnbikaagreatdoor", sum := "14d0650739e55c178e8a55d916030e567b06502056016264091f185db43a7c58", func := "fluxion/fluxionlaw02.FracProducts", spec := "fracProducts", inPlace := ["internal/bytealg.IndexByteString", "internal/bytealg.IndexString", "internal/abi.NoEscape", "internal/bytealg.MakeNoZero"], unfollowed := true, recurses := true, named := ["fluxion/frac.faults", "internal/bytealg.MaxLen", "unicode/utf8.first", "unicode/utf8.acceptRanges"], apart := false, laid := [("unicode/utf8.acceptRanges", laid_unicode_utf8_acceptRanges), ("fluxion/frac.faults", laid_fluxion_frac_faults), ("unicode/utf8.first", laid_unicode_utf8_first)] }
def FracProductsSaid : Prop := fracProductsRow.holds Tryz.pinned (OpenSpec.ofChange fracProductsSpec)

/-- ITS FALSE NEIGHBOUR: 'it returns false'. Refute it at one input. -/
def fracProductsWrong : ChangeSpec := { name := "fracProducts", fn := fun _ => fun
  | [d1, d2] => { results := [.lit (.bool false)], args := [d1, d2] }
  | _ => none }
def FracProductsWrongFalsely : Prop := fracProductsRow.holds Tryz.pinned (OpenSpec.ofChange fracProductsWrong)

/-- 'fluxionlaw02.FracField': WHATEVER THE INPUT: true; the input reads as it did. -/
def fracFieldSpec : ChangeSpec := { name := "fracField", fn := fun _ => fun
  | [d1, d2, d3] => { results := [.lit (.bool true)], args := [d1, d2, d3] }
  | _ => none }
def fracFieldRow : OpenClaim := { program := "ytgfkachfbnbikaagreatdoor", sum := "14d0650739e55c178e8a55d916030e567b06502056016264091f185db43a7c58", func := "fluxion/fluxionlaw02.FracField", spec := "fracField", inPlace := ["internal/bytealg.IndexByteString", "internal/bytealg.IndexString", "internal/abi.NoEscape", "internal/bytealg.MakeNoZero"], unfollowed := true, recurses := true, named := ["fluxion/frac.faults", "internal/bytealg.MaxLen", "unicode/utf8.first", "unicode/utf8.acceptRanges"], apart := false, laid := [("unicode/utf8.acceptRanges", laid_unicode_utf8_acceptRanges), ("fluxion/frac.faults", laid_fluxion_frac_faults), ("unicode/utf8.first", laid_unicode_utf8_first)] }
def FracFieldSaid : Prop := fracFieldRow.holds Tryz.pinned (OpenSpec.ofChange fracFieldSpec)

/-- ITS FALSE NEIGHBOUR: 'it returns false'. Refute it at one input. -/
def fracFieldWrong : ChangeSpec := { name := "fracField", fn := fun _ => fun
  | [d1, d2, d3] => { results := [.lit (.bool false)], args := [d1, d2, d3] }
  | _ => none }
def FracFieldWrongFalsely : Prop := fracFieldRow.holds Tryz.pinned (OpenSpec.ofChange fracFieldWrong)

/-- 'fluxionlaw02.FracLowest': WHATEVER THE INPUT: true; the input reads as it did. -/
def fracLowestSpec : ChangeSpec := { name := "fracLowest", fn := fun _ => fun
  | [d1, d2, d3] => { results := [.lit (.bool true)], args := [d1, d2, d3] }
  | _ => none }
def fracLowestRow : OpenClaim := { program := "ytgfkachfbnbikaagreatdoor", sum := "14d0650739e55c178e8a55d916030e567b06502056016264091f185db43a7c58", func := "fluxion/fluxionlaw02.FracLowest", spec := "fracLowest", inPlace := ["internal/bytealg.IndexByteString", "internal/bytealg.IndexString", "internal/abi.NoEscape", "internal/bytealg.MakeNoZero"], unfollowed := true, recurses := true, named := ["fluxion/frac.faults", "internal/bytealg.MaxLen", "unicode/utf8.first", "unicode/utf8.acceptRanges"], apart := false, laid := [("unicode/utf8.acceptRanges", laid_unicode_utf8_acceptRanges), ("fluxion/frac.faults", laid_fluxion_frac_faults), ("unicode/utf8.first", laid_unicode_utf8_first)] }
def FracLowestSaid : Prop := fracLowestRow.holds Tryz.pinned (OpenSpec.ofChange fracLowestSpec)

/-- ITS FALSE NEIGHBOUR: 'it returns false'. Refute it at one input. -/
def fracLowestWrong : ChangeSpec := { name := "fracLowest", fn := fun _ => fun
  | [d1, d2, d3] => { results := [.lit (.bool false)], args := [d1, d2, d3] }
  | _ => none }
def FracLowestWrongFalsely : Prop := fracLowestRow.holds Tryz.pinned (OpenSpec.ofChange fracLowestWrong)

/-- 'fluxionlaw02.FracForms': WHATEVER THE INPUT: true; the input reads as it did. -/
def fracFormsSpec : ChangeSpec := { name := "fracForms", fn := fun _ => fun
  | [d1, d2] => { results := [.lit (.bool true)], args := [d1, d2] }
  | _ => none }
def fracFormsRow : OpenClaim := { program := "ytgfkachfbnbikaagreatdoor", sum := "14d0650739e55c178e8a55d916030e567b06502056016264091f185db43a7c58", func := "fluxion/fluxionlaw02.FracForms", spec := "fracForms", inPlace := ["internal/bytealg.IndexByteString", "internal/bytealg.IndexString", "internal/abi.NoEscape", "internal/bytealg.MakeNoZero"], unfollowed := true, recurses := true, named := ["fluxion/frac.faults", "internal/bytealg.MaxLen", "unicode/utf8.first", "unicode/utf8.acceptRanges"], apart := false, laid := [("unicode/utf8.acceptRanges", laid_unicode_utf8_acceptRanges), ("fluxion/frac.faults", laid_fluxion_frac_faults), ("unicode/utf8.first", laid_unicode_utf8_first)] }
def FracFormsSaid : Prop := fracFormsRow.holds Tryz.pinned (OpenSpec.ofChange fracFormsSpec)

/-- ITS FALSE NEIGHBOUR: 'it returns false'. Refute it at one input. -/
def fracFormsWrong : ChangeSpec := { name := "fracForms", fn := fun _ => fun
  | [d1, d2] => { results := [.lit (.bool false)], args := [d1, d2] }
  | _ => none }
def FracFormsWrongFalsely : Prop := fracFormsRow.holds Tryz.pinned (OpenSpec.ofChange fracFormsWrong)

/-- 'fluxionlaw02.FracFloor': WHATEVER THE INPUT: true; the input reads as it did. -/
def fracFloorSpec : ChangeSpec := { name := "fracFloor", fn := fun _ => fun
  | [d] => { results := [.lit (.bool true)], args := [d] }
  | _ => none }
def fracFloorRow : OpenClaim := { program := "ytgfkachfbnbikaagreatdoor", sum := "14d0650739e55c178e8a55d916030e567b06502056016264091f185db43a7c58", func := "fluxion/fluxionlaw02.FracFloor", spec := "fracFloor", inPlace := ["internal/bytealg.IndexByteString", "internal/bytealg.IndexString", "internal/abi.NoEscape", "internal/bytealg.MakeNoZero"], unfollowed := true, recurses := true, named := ["fluxion/frac.faults", "internal/bytealg.MaxLen", "unicode/utf8.first", "unicode/utf8.acceptRanges"], apart := false, laid := [("unicode/utf8.acceptRanges", laid_unicode_utf8_acceptRanges), ("fluxion/frac.faults", laid_fluxion_frac_faults), ("unicode/utf8.first", laid_unicode_utf8_first)] }
def FracFloorSaid : Prop := fracFloorRow.holds Tryz.pinned (OpenSpec.ofChange fracFloorSpec)

/-- ITS FALSE NEIGHBOUR: 'it returns false'. Refute it at one input. -/
def fracFloorWrong : ChangeSpec := { name := "fracFloor", fn := fun _ => fun
  | [d] => { results := [.lit (.bool false)], args := [d] }
  | _ => none }
def FracFloorWrongFalsely : Prop := fracFloorRow.holds Tryz.pinned (OpenSpec.ofChange fracFloorWrong)

/-- 'fluxionlaw02.FracOwn': WHATEVER THE INPUT: true; the input reads as it did. -/
def fracOwnSpec : ChangeSpec := { name := "fracOwn", fn := fun _ => fun
  | [d1, d2] => { results := [.lit (.bool true)], args := [d1, d2] }
  | _ => none }
def fracOwnRow : OpenClaim := { program := "ytgfkachfbnbikaagreatdoor", sum := "14d0650739e55c178e8a55d916030e567b06502056016264091f185db43a7c58", func := "fluxion/fluxionlaw02.FracOwn", spec := "fracOwn", inPlace := ["internal/bytealg.IndexByteString", "internal/bytealg.IndexString", "internal/abi.NoEscape", "internal/bytealg.MakeNoZero"], unfollowed := true, recurses := true, named := ["fluxion/frac.faults", "internal/bytealg.MaxLen", "unicode/utf8.first", "unicode/utf8.acceptRanges"], apart := false, laid := [("unicode/utf8.acceptRanges", laid_unicode_utf8_acceptRanges), ("fluxion/frac.faults", laid_fluxion_frac_faults), ("unicode/utf8.first", laid_unicode_utf8_first)] }
def FracOwnSaid : Prop := fracOwnRow.holds Tryz.pinned (OpenSpec.ofChange fracOwnSpec)

/-- ITS FALSE NEIGHBOUR: 'it returns false'. Refute it at one input. -/
def fracOwnWrong : ChangeSpec := { name := "fracOwn", fn := fun _ => fun
  | [d1, d2] => { results := [.lit (.bool false)], args := [d1, d2] }
  | _ => none }
def FracOwnWrongFalsely : Prop := fracOwnRow.holds Tryz.pinned (OpenSpec.ofChange fracOwnWrong)

/-- 'fluxionlaw02.FracOrder': WHATEVER THE INPUT: true; the input reads as it did. -/
def fracOrderSpec : ChangeSpec := { name := "fracOrder", fn := fun _ => fun
  | [d1, d2, d3] => { results := [.lit (.bool true)], args := [d1, d2, d3] }
  | _ => none }
def fracOrderRow : OpenClaim := { program := "ytgfkachfbnbikaagreatdoor", sum := "14d0650739e55c178e8a55d916030e567b06502056016264091f185db43a7c58", func := "fluxion/fluxionlaw02.FracOrder", spec := "fracOrder", inPlace := ["internal/bytealg.IndexByteString", "internal/bytealg.IndexString", "internal/abi.NoEscape", "internal/bytealg.MakeNoZero"], unfollowed := true, recurses := true, named := ["fluxion/frac.faults", "internal/bytealg.MaxLen", "unicode/utf8.first", "unicode/utf8.acceptRanges"], apart := false, laid := [("unicode/utf8.acceptRanges", laid_unicode_utf8_acceptRanges), ("fluxion/frac.faults", laid_fluxion_frac_faults), ("unicode/utf8.first", laid_unicode_utf8_first)] }
def FracOrderSaid : Prop := fracOrderRow.holds Tryz.pinned (OpenSpec.ofChange fracOrderSpec)

/-- ITS FALSE NEIGHBOUR: 'it returns false'. Refute it at one input. -/
def fracOrderWrong : ChangeSpec := { name := "fracOrder", fn := fun _ => fun
  | [d1, d2, d3] => { results := [.lit (.bool false)], args := [d1, d2, d3] }
  | _ => none }
def FracOrderWrongFalsely : Prop := fracOrderRow.holds Tryz.pinned (OpenSpec.ofChange fracOrderWrong)

/-- 'fluxionlaw02.FracBits': WHATEVER THE INPUT: true; the input reads as it did. -/
def fracBitsSpec : ChangeSpec := { name := "fracBits", fn := fun _ => fun
  | [d1, d2, d3, d4] => { results := [.lit (.bool true)], args := [d1, d2, d3, d4] }
  | _ => none }
def fracBitsRow : OpenClaim := { program := "ytgfkachfbnbikaagreatdoor", sum := "14d0650739e55c178e8a55d916030e567b06502056016264091f185db43a7c58", func := "fluxion/fluxionlaw02.FracBits", spec := "fracBits", inPlace := ["internal/bytealg.IndexByteString", "internal/bytealg.IndexString", "internal/abi.NoEscape", "internal/bytealg.MakeNoZero"], unfollowed := true, recurses := true, named := ["fluxion/frac.faults", "internal/bytealg.MaxLen", "unicode/utf8.first", "unicode/utf8.acceptRanges"], apart := false, laid := [("unicode/utf8.acceptRanges", laid_unicode_utf8_acceptRanges), ("fluxion/frac.faults", laid_fluxion_frac_faults), ("unicode/utf8.first", laid_unicode_utf8_first)] }
def FracBitsSaid : Prop := fracBitsRow.holds Tryz.pinned (OpenSpec.ofChange fracBitsSpec)

/-- ITS FALSE NEIGHBOUR: 'it returns false'. Refute it at one input. -/
def fracBitsWrong : ChangeSpec := { name := "fracBits", fn := fun _ => fun
  | [d1, d2, d3, d4] => { results := [.lit (.bool false)], args := [d1, d2, d3, d4] }
  | _ => none }
def FracBitsWrongFalsely : Prop := fracBitsRow.holds Tryz.pinned (OpenSpec.ofChange fracBitsWrong)

/-- 'fluxionlaw02.FracFaults': WHATEVER THE INPUT: true; the input reads as it did. -/
def fracFaultsSpec : ChangeSpec := { name := "fracFaults", fn := fun _ => fun
  | [d1, d2, d3, d4] => { results := [.lit (.bool true)], args := [d1, d2, d3, d4] }
  | _ => none }
def fracFaultsRow : OpenClaim := { program := "ytgfkachfbnbikaagreatdoor", sum := "14d0650739e55c178e8a55d916030e567b06502056016264091f185db43a7c58", func := "fluxion/fluxionlaw02.FracFaults", spec := "fracFaults", inPlace := ["internal/bytealg.IndexByteString", "internal/bytealg.IndexString", "internal/abi.NoEscape", "internal/bytealg.MakeNoZero"], unfollowed := true, recurses := true, named := ["fluxion/frac.faults", "internal/bytealg.MaxLen", "unicode/utf8.first", "unicode/utf8.acceptRanges"], apart := false, laid := [("unicode/utf8.acceptRanges", laid_unicode_utf8_acceptRanges), ("fluxion/frac.faults", laid_fluxion_frac_faults), ("unicode/utf8.first", laid_unicode_utf8_first)] }
def FracFaultsSaid : Prop := fracFaultsRow.holds Tryz.pinned (OpenSpec.ofChange fracFaultsSpec)

/-- ITS FALSE NEIGHBOUR: 'it returns false'. Refute it at one input. -/
def fracFaultsWrong : ChangeSpec := { name := "fracFaults", fn := fun _ => fun
  | [d1, d2, d3, d4] => { results := [.lit (.bool false)], args := [d1, d2, d3, d4] }
  | _ => none }
def FracFaultsWrongFalsely : Prop := fracFaultsRow.holds Tryz.pinned (OpenSpec.ofChange fracFaultsWrong)

/- THE SECOND FORM. 'bulk': how many values and letters a reading holds, each counted each time it is reached (what is shared counts as often as it is met; a slice's spare places count too). A statement '..UptoSaid' is the law's where the arguments, and the package variables that the reading takes, are together of bulk at most 1048576: NARROWER than '..Said'. Prove '..Said' where nothing that the law and all that it calls make is longer than what came in: it says more and counts as full. Else prove '..UptoSaid'. A law counts once. -/
mutual
def uptoBulk {H : Type} : DataW H → Nat
  | .lit (.string bytes) => bytes.length + 1
  | .lit _ => 1
  | .nil => 1
  | .ptr d => uptoBulk d + 1
  | .slice elems spare => uptoBulkAll elems + uptoBulkAll spare + 1
  | .agg parts => uptoBulkAll parts + 1
  | .iface _ d => uptoBulk d + 1
  | .map entries => uptoBulkEntries entries + 1
  | .held _ => 1
def uptoBulkAll {H : Type} : List (DataW H) → Nat
  | [] => 0
  | d :: r => uptoBulk d + uptoBulkAll r
def uptoBulkEntries {H : Type} : List (Lit × DataW H) → Nat
  | [] => 0
  | x :: r => uptoBulkEntry x + uptoBulkEntries r
def uptoBulkEntry {H : Type} : Lit × DataW H → Nat
  | (.string bytes, d) => bytes.length + uptoBulk d + 1
  | (_, d) => uptoBulk d + 1
 end
def uptoSmall : (H : Type) → List (DataW H) → Bool := fun _ ds => decide (uptoBulkAll ds ≤ 1048576)
def OpenSpec.upto (s : _root_.Go.ChangeSpec) : _root_.Go.OpenSpec := { _root_.Go.OpenSpec.ofChange s with cond := some uptoSmall }

/-- 'fluxionlaw02.FracMakes', WHERE WHAT IT READS IS OF BULK AT MOST 1048576: true; the input reads as it did. -/
def fracMakesUptoRow : OpenClaim := { program := "ytgfkachfbnbikaagreatdoor", sum := "14d0650739e55c178e8a55d916030e567b06502056016264091f185db43a7c58", func := "fluxion/fluxionlaw02.FracMakes", spec := "fracMakes", inPlace := ["internal/bytealg.IndexByteString", "internal/bytealg.IndexString", "internal/abi.NoEscape", "internal/bytealg.MakeNoZero"], unfollowed := true, recurses := true, named := ["fluxion/frac.faults", "internal/bytealg.MaxLen", "unicode/utf8.first", "unicode/utf8.acceptRanges"], apart := false, laid := [("unicode/utf8.acceptRanges", laid_unicode_utf8_acceptRanges), ("fluxion/frac.faults", laid_fluxion_frac_faults), ("unicode/utf8.first", laid_unicode_utf8_first)], narrowed := true }
def FracMakesUptoSaid : Prop := fracMakesUptoRow.holds Tryz.pinned (OpenSpec.upto fracMakesSpec)

/-- 'fluxionlaw02.FracTexts', WHERE WHAT IT READS IS OF BULK AT MOST 1048576: true; the input reads as it did. -/
def fracTextsUptoRow : OpenClaim := { program := "ytgfkachfbnbikaagreatdoor", sum := "14d0650739e55c178e8a55d916030e567b06502056016264091f185db43a7c58", func := "fluxion/fluxionlaw02.FracTexts", spec := "fracTexts", inPlace := ["internal/bytealg.IndexByteString", "internal/bytealg.IndexString", "internal/abi.NoEscape", "internal/bytealg.MakeNoZero"], unfollowed := true, recurses := true, named := ["fluxion/frac.faults", "internal/bytealg.MaxLen", "unicode/utf8.first", "unicode/utf8.acceptRanges"], apart := false, laid := [("unicode/utf8.acceptRanges", laid_unicode_utf8_acceptRanges), ("fluxion/frac.faults", laid_fluxion_frac_faults), ("unicode/utf8.first", laid_unicode_utf8_first)], narrowed := true }
def FracTextsUptoSaid : Prop := fracTextsUptoRow.holds Tryz.pinned (OpenSpec.upto fracTextsSpec)

/-- 'fluxionlaw02.FracReads', WHERE WHAT IT READS IS OF BULK AT MOST 1048576: true; the input reads as it did. -/
def fracReadsUptoRow : OpenClaim := { program := "ytgfkachfbnbikaagreatdoor", sum := "14d0650739e55c178e8a55d916030e567b06502056016264091f185db43a7c58", func := "fluxion/fluxionlaw02.FracReads", spec := "fracReads", inPlace := ["internal/bytealg.IndexByteString", "internal/bytealg.IndexString", "internal/abi.NoEscape", "internal/bytealg.MakeNoZero"], unfollowed := true, recurses := true, named := ["fluxion/frac.faults", "internal/bytealg.MaxLen", "unicode/utf8.first", "unicode/utf8.acceptRanges"], apart := false, laid := [("unicode/utf8.acceptRanges", laid_unicode_utf8_acceptRanges), ("fluxion/frac.faults", laid_fluxion_frac_faults), ("unicode/utf8.first", laid_unicode_utf8_first)], narrowed := true }
def FracReadsUptoSaid : Prop := fracReadsUptoRow.holds Tryz.pinned (OpenSpec.upto fracReadsSpec)

/-- 'fluxionlaw02.FracSums', WHERE WHAT IT READS IS OF BULK AT MOST 1048576: true; the input reads as it did. -/
def fracSumsUptoRow : OpenClaim := { program := "ytgfkachfbnbikaagreatdoor", sum := "14d0650739e55c178e8a55d916030e567b06502056016264091f185db43a7c58", func := "fluxion/fluxionlaw02.FracSums", spec := "fracSums", inPlace := ["internal/bytealg.IndexByteString", "internal/bytealg.IndexString", "internal/abi.NoEscape", "internal/bytealg.MakeNoZero"], unfollowed := true, recurses := true, named := ["fluxion/frac.faults", "internal/bytealg.MaxLen", "unicode/utf8.first", "unicode/utf8.acceptRanges"], apart := false, laid := [("unicode/utf8.acceptRanges", laid_unicode_utf8_acceptRanges), ("fluxion/frac.faults", laid_fluxion_frac_faults), ("unicode/utf8.first", laid_unicode_utf8_first)], narrowed := true }
def FracSumsUptoSaid : Prop := fracSumsUptoRow.holds Tryz.pinned (OpenSpec.upto fracSumsSpec)

/-- 'fluxionlaw02.FracProducts', WHERE WHAT IT READS IS OF BULK AT MOST 1048576: true; the input reads as it did. -/
def fracProductsUptoRow : OpenClaim := { program := "ytgfkachfbnbikaagreatdoor", sum := "14d0650739e55c178e8a55d916030e567b06502056016264091f185db43a7c58", func := "fluxion/fluxionlaw02.FracProducts", spec := "fracProducts", inPlace := ["internal/bytealg.IndexByteString", "internal/bytealg.IndexString", "internal/abi.NoEscape", "internal/bytealg.MakeNoZero"], unfollowed := true, recurses := true, named := ["fluxion/frac.faults", "internal/bytealg.MaxLen", "unicode/utf8.first", "unicode/utf8.acceptRanges"], apart := false, laid := [("unicode/utf8.acceptRanges", laid_unicode_utf8_acceptRanges), ("fluxion/frac.faults", laid_fluxion_frac_faults), ("unicode/utf8.first", laid_unicode_utf8_first)], narrowed := true }
def FracProductsUptoSaid : Prop := fracProductsUptoRow.holds Tryz.pinned (OpenSpec.upto fracProductsSpec)

/-- 'fluxionlaw02.FracField', WHERE WHAT IT READS IS OF BULK AT MOST 1048576: true; the input reads as it did. -/
def fracFieldUptoRow : OpenClaim := { program := "ytgfkachfbnbikaagreatdoor", sum := "14d0650739e55c178e8a55d916030e567b06502056016264091f185db43a7c58", func := "fluxion/fluxionlaw02.FracField", spec := "fracField", inPlace := ["internal/bytealg.IndexByteString", "internal/bytealg.IndexString", "internal/abi.NoEscape", "internal/bytealg.MakeNoZero"], unfollowed := true, recurses := true, named := ["fluxion/frac.faults", "internal/bytealg.MaxLen", "unicode/utf8.first", "unicode/utf8.acceptRanges"], apart := false, laid := [("unicode/utf8.acceptRanges", laid_unicode_utf8_acceptRanges), ("fluxion/frac.faults", laid_fluxion_frac_faults), ("unicode/utf8.first", laid_unicode_utf8_first)], narrowed := true }
def FracFieldUptoSaid : Prop := fracFieldUptoRow.holds Tryz.pinned (OpenSpec.upto fracFieldSpec)

/-- 'fluxionlaw02.FracLowest', WHERE WHAT IT READS IS OF BULK AT MOST 1048576: true; the input reads as it did. -/
def fracLowestUptoRow : OpenClaim := { program := "ytgfkachfbnbikaagreatdoor", sum := "14d0650739e55c178e8a55d916030e567b06502056016264091f185db43a7c58", func := "fluxion/fluxionlaw02.FracLowest", spec := "fracLowest", inPlace := ["internal/bytealg.IndexByteString", "internal/bytealg.IndexString", "internal/abi.NoEscape", "internal/bytealg.MakeNoZero"], unfollowed := true, recurses := true, named := ["fluxion/frac.faults", "internal/bytealg.MaxLen", "unicode/utf8.first", "unicode/utf8.acceptRanges"], apart := false, laid := [("unicode/utf8.acceptRanges", laid_unicode_utf8_acceptRanges), ("fluxion/frac.faults", laid_fluxion_frac_faults), ("unicode/utf8.first", laid_unicode_utf8_first)], narrowed := true }
def FracLowestUptoSaid : Prop := fracLowestUptoRow.holds Tryz.pinned (OpenSpec.upto fracLowestSpec)

/-- 'fluxionlaw02.FracForms', WHERE WHAT IT READS IS OF BULK AT MOST 1048576: true; the input reads as it did. -/
def fracFormsUptoRow : OpenClaim := { program := "ytgfkachfbnbikaagreatdoor", sum := "14d0650739e55c178e8a55d916030e567b06502056016264091f185db43a7c58", func := "fluxion/fluxionlaw02.FracForms", spec := "fracForms", inPlace := ["internal/bytealg.IndexByteString", "internal/bytealg.IndexString", "internal/abi.NoEscape", "internal/bytealg.MakeNoZero"], unfollowed := true, recurses := true, named := ["fluxion/frac.faults", "internal/bytealg.MaxLen", "unicode/utf8.first", "unicode/utf8.acceptRanges"], apart := false, laid := [("unicode/utf8.acceptRanges", laid_unicode_utf8_acceptRanges), ("fluxion/frac.faults", laid_fluxion_frac_faults), ("unicode/utf8.first", laid_unicode_utf8_first)], narrowed := true }
def FracFormsUptoSaid : Prop := fracFormsUptoRow.holds Tryz.pinned (OpenSpec.upto fracFormsSpec)

/-- 'fluxionlaw02.FracFloor', WHERE WHAT IT READS IS OF BULK AT MOST 1048576: true; the input reads as it did. -/
def fracFloorUptoRow : OpenClaim := { program := "ytgfkachfbnbikaagreatdoor", sum := "14d0650739e55c178e8a55d916030e567b06502056016264091f185db43a7c58", func := "fluxion/fluxionlaw02.FracFloor", spec := "fracFloor", inPlace := ["internal/bytealg.IndexByteString", "internal/bytealg.IndexString", "internal/abi.NoEscape", "internal/bytealg.MakeNoZero"], unfollowed := true, recurses := true, named := ["fluxion/frac.faults", "internal/bytealg.MaxLen", "unicode/utf8.first", "unicode/utf8.acceptRanges"], apart := false, laid := [("unicode/utf8.acceptRanges", laid_unicode_utf8_acceptRanges), ("fluxion/frac.faults", laid_fluxion_frac_faults), ("unicode/utf8.first", laid_unicode_utf8_first)], narrowed := true }
def FracFloorUptoSaid : Prop := fracFloorUptoRow.holds Tryz.pinned (OpenSpec.upto fracFloorSpec)

/-- 'fluxionlaw02.FracOwn', WHERE WHAT IT READS IS OF BULK AT MOST 1048576: true; the input reads as it did. -/
def fracOwnUptoRow : OpenClaim := { program := "ytgfkachfbnbikaagreatdoor", sum := "14d0650739e55c178e8a55d916030e567b06502056016264091f185db43a7c58", func := "fluxion/fluxionlaw02.FracOwn", spec := "fracOwn", inPlace := ["internal/bytealg.IndexByteString", "internal/bytealg.IndexString", "internal/abi.NoEscape", "internal/bytealg.MakeNoZero"], unfollowed := true, recurses := true, named := ["fluxion/frac.faults", "internal/bytealg.MaxLen", "unicode/utf8.first", "unicode/utf8.acceptRanges"], apart := false, laid := [("unicode/utf8.acceptRanges", laid_unicode_utf8_acceptRanges), ("fluxion/frac.faults", laid_fluxion_frac_faults), ("unicode/utf8.first", laid_unicode_utf8_first)], narrowed := true }
def FracOwnUptoSaid : Prop := fracOwnUptoRow.holds Tryz.pinned (OpenSpec.upto fracOwnSpec)

/-- 'fluxionlaw02.FracOrder', WHERE WHAT IT READS IS OF BULK AT MOST 1048576: true; the input reads as it did. -/
def fracOrderUptoRow : OpenClaim := { program := "ytgfkachfbnbikaagreatdoor", sum := "14d0650739e55c178e8a55d916030e567b06502056016264091f185db43a7c58", func := "fluxion/fluxionlaw02.FracOrder", spec := "fracOrder", inPlace := ["internal/bytealg.IndexByteString", "internal/bytealg.IndexString", "internal/abi.NoEscape", "internal/bytealg.MakeNoZero"], unfollowed := true, recurses := true, named := ["fluxion/frac.faults", "internal/bytealg.MaxLen", "unicode/utf8.first", "unicode/utf8.acceptRanges"], apart := false, laid := [("unicode/utf8.acceptRanges", laid_unicode_utf8_acceptRanges), ("fluxion/frac.faults", laid_fluxion_frac_faults), ("unicode/utf8.first", laid_unicode_utf8_first)], narrowed := true }
def FracOrderUptoSaid : Prop := fracOrderUptoRow.holds Tryz.pinned (OpenSpec.upto fracOrderSpec)

/-- 'fluxionlaw02.FracBits', WHERE WHAT IT READS IS OF BULK AT MOST 1048576: true; the input reads as it did. -/
def fracBitsUptoRow : OpenClaim := { program := "ytgfkachfbnbikaagreatdoor", sum := "14d0650739e55c178e8a55d916030e567b06502056016264091f185db43a7c58", func := "fluxion/fluxionlaw02.FracBits", spec := "fracBits", inPlace := ["internal/bytealg.IndexByteString", "internal/bytealg.IndexString", "internal/abi.NoEscape", "internal/bytealg.MakeNoZero"], unfollowed := true, recurses := true, named := ["fluxion/frac.faults", "internal/bytealg.MaxLen", "unicode/utf8.first", "unicode/utf8.acceptRanges"], apart := false, laid := [("unicode/utf8.acceptRanges", laid_unicode_utf8_acceptRanges), ("fluxion/frac.faults", laid_fluxion_frac_faults), ("unicode/utf8.first", laid_unicode_utf8_first)], narrowed := true }
def FracBitsUptoSaid : Prop := fracBitsUptoRow.holds Tryz.pinned (OpenSpec.upto fracBitsSpec)

/-- 'fluxionlaw02.FracFaults', WHERE WHAT IT READS IS OF BULK AT MOST 1048576: true; the input reads as it did. -/
def fracFaultsUptoRow : OpenClaim := { program := "ytgfkachfbnbikaagreatdoor", sum := "14d0650739e55c178e8a55d916030e567b06502056016264091f185db43a7c58", func := "fluxion/fluxionlaw02.FracFaults", spec := "fracFaults", inPlace := ["internal/bytealg.IndexByteString", "internal/bytealg.IndexString", "internal/abi.NoEscape", "internal/bytealg.MakeNoZero"], unfollowed := true, recurses := true, named := ["fluxion/frac.faults", "internal/bytealg.MaxLen", "unicode/utf8.first", "unicode/utf8.acceptRanges"], apart := false, laid := [("unicode/utf8.acceptRanges", laid_unicode_utf8_acceptRanges), ("fluxion/frac.faults", laid_fluxion_frac_faults), ("unicode/utf8.first", laid_unicode_utf8_first)], narrowed := true }
def FracFaultsUptoSaid : Prop := fracFaultsUptoRow.holds Tryz.pinned (OpenSpec.upto fracFaultsSpec)

end Rows
end Go.Proofs.YtgfkachfbnbikaaGreatDoor
