/-
  NARROWER THAN 'FOR EVERY INPUT', by the rows' own cells (each row's printed sentence says how): ShapeValues: laid · ShapeShown: laid · ShapeParses: laid · ShapeTold: laid · ShapeTypes: laid · ShapeParts: laid · ShapePacks: laid · ShapeBacks: laid · ShapeNumbers: laid · ShapeOwn: laid.
  DERIVED. THE GIVEN ROWS OF THIS SEAT. 10 by the template 'for every input the law returns true; each argument reads behind the call as it read before'; 0 by the template 'total and deterministic' (their statements: YtcbaipnphepbeaaGreatDoorTotals.lean).
  GIVEN WITH THE SEED: the statements are not yours to turn. If you find one false, say at which input.
  Laid BY PROGRAM, IN A SANDBOX (cutbox-rows.mjs): the forced cells as the released guide's own fill.sh prints them over the translation bd3982fa5fdb39e8… (all of the seat's roots in one cut). By AI agents, Wed Nov 11 2026. No macro, syntax, notation, axiom, sorry.
-/
import Derived.Test.YtcbaipnphepbeaaGreatDoorChecked
import GoSem.Claim
import GoSem.ClaimJoined
import GoSem.ClaimMapViews
import Derived.JoinedTies
import Derived.KernelRfl
namespace Go.Proofs.YtcbaipnphepbeaaGreatDoor
/- THE CELL 'sum', in the pinned program and in every row, IS THE sha256 OF THE DUMP (.gsa) THAT YtcbaipnphepbeaaGreatDoorProg.lean LOADS. Nothing in Lean hashes anything: it is a label: what it is worth is what the hold of that sum in a sandbox is worth. -/
noncomputable def Tryz.pinned : Pinned := { name := "ytcbaipnphepbeaagreatdoor", sum := "bd3982fa5fdb39e860090c936a223daed7840767a60f0d5121cdcaa87869fa7d", checked := Tryz.checked }
namespace Rows
def none {H : Type} : Left H := { results := [], args := [] }

/- WHAT THE LISTED PACKAGE-LEVEL VARIABLES READ AS WHEN THE CALL BEGINS. Each datum BY PROGRAM (the guide's laid-datum.mjs) off the statement by which the dump's own 'gosem.cut.vars' lays the variable. In a bare row this is a premise. The card (YtcbaipnphepbeaaGreatDoorCards.lean) ties it to the program's text. -/
def laid_math_bits_deBruijn32tab {H : Type} : DataW H := .agg [.lit (.int .u8 0), .lit (.int .u8 1), .lit (.int .u8 28), .lit (.int .u8 2), .lit (.int .u8 29), .lit (.int .u8 14), .lit (.int .u8 24), .lit (.int .u8 3), .lit (.int .u8 30), .lit (.int .u8 22), .lit (.int .u8 20), .lit (.int .u8 15), .lit (.int .u8 25), .lit (.int .u8 17), .lit (.int .u8 4), .lit (.int .u8 8), .lit (.int .u8 31), .lit (.int .u8 27), .lit (.int .u8 13), .lit (.int .u8 23), .lit (.int .u8 21), .lit (.int .u8 19), .lit (.int .u8 16), .lit (.int .u8 7), .lit (.int .u8 26), .lit (.int .u8 12), .lit (.int .u8 18), .lit (.int .u8 6), .lit (.int .u8 11), .lit (.int .u8 5), .lit (.int .u8 10), .lit (.int .u8 9)]
def laid_math_bits_deBruijn64tab {H : Type} : DataW H := .agg [.lit (.int .u8 0), .lit (.int .u8 1), .lit (.int .u8 56), .lit (.int .u8 2), .lit (.int .u8 57), .lit (.int .u8 49), .lit (.int .u8 28), .lit (.int .u8 3), .lit (.int .u8 61), .lit (.int .u8 58), .lit (.int .u8 42), .lit (.int .u8 50), .lit (.int .u8 38), .lit (.int .u8 29), .lit (.int .u8 17), .lit (.int .u8 4), .lit (.int .u8 62), .lit (.int .u8 47), .lit (.int .u8 59), .lit (.int .u8 36), .lit (.int .u8 45), .lit (.int .u8 43), .lit (.int .u8 51), .lit (.int .u8 22), .lit (.int .u8 53), .lit (.int .u8 39), .lit (.int .u8 33), .lit (.int .u8 30), .lit (.int .u8 24), .lit (.int .u8 18), .lit (.int .u8 12), .lit (.int .u8 5), .lit (.int .u8 63), .lit (.int .u8 55), .lit (.int .u8 48), .lit (.int .u8 27), .lit (.int .u8 60), .lit (.int .u8 41), .lit (.int .u8 37), .lit (.int .u8 16), .lit (.int .u8 46), .lit (.int .u8 35), .lit (.int .u8 44), .lit (.int .u8 21), .lit (.int .u8 52), .lit (.int .u8 32), .lit (.int .u8 23), .lit (.int .u8 11), .lit (.int .u8 54), .lit (.int .u8 26), .lit (.int .u8 40), .lit (.int .u8 15), .lit (.int .u8 34), .lit (.int .u8 20), .lit (.int .u8 31), .lit (.int .u8 10), .lit (.int .u8 25), .lit (.int .u8 14), .lit (.int .u8 19), .lit (.int .u8 9), .lit (.int .u8 13), .lit (.int .u8 8), .lit (.int .u8 7), .lit (.int .u8 6)]
def laid_internal_strconv_uint64pow10 {H : Type} : DataW H := .agg [.lit (.int .u64 1), .lit (.int .u64 10), .lit (.int .u64 100), .lit (.int .u64 1000), .lit (.int .u64 10000), .lit (.int .u64 100000), .lit (.int .u64 1000000), .lit (.int .u64 10000000), .lit (.int .u64 100000000), .lit (.int .u64 1000000000), .lit (.int .u64 10000000000), .lit (.int .u64 100000000000), .lit (.int .u64 1000000000000), .lit (.int .u64 10000000000000), .lit (.int .u64 100000000000000), .lit (.int .u64 1000000000000000), .lit (.int .u64 10000000000000000), .lit (.int .u64 100000000000000000), .lit (.int .u64 1000000000000000000), .lit (.int .u64 10000000000000000000)]
def laid_fluxion_frac_faults {H : Type} : DataW H := .agg [.agg [.lit (.string [33, 114, 97, 110, 103, 101]), .lit (.int .i64 4)], .agg [.lit (.string [33, 122, 101, 114, 111]), .lit (.int .i64 11)]]
def laid_fluxion_shape_kinds {H : Type} : DataW H := .agg [.lit (.string []), .lit (.string [114, 101, 97, 108]), .lit (.string [102, 108, 97, 103]), .lit (.string [105, 110, 100, 101, 120])]

/-- 'fluxionlaw03.ShapeValues': WHATEVER THE INPUT: true; the input reads as it did. -/
def shapeValuesSpec : ChangeSpec := { name := "shapeValues", fn := fun _ => fun
  | [d1, d2] => { results := [.lit (.bool true)], args := [d1, d2] }
  | _ => none }
def shapeValuesRow : OpenClaim := { program := "ytcbaipnphepbeaagreatdoor", sum := "bd3982fa5fdb39e860090c936a223daed7840767a60f0d5121cdcaa87869fa7d", func := "fluxion/fluxionlaw03.ShapeValues", spec := "shapeValues", inPlace := ["internal/abi.NoEscape", "internal/bytealg.MakeNoZero", "internal/bytealg.IndexByteString", "internal/bytealg.IndexString"], unfollowed := true, recurses := true, named := ["fluxion/frac.faults", "fluxion/shape.kinds", "internal/strconv.uint64pow10", "math/bits.deBruijn32tab", "math/bits.deBruijn64tab", "internal/bytealg.MaxLen"], apart := false, laid := [("math/bits.deBruijn32tab", laid_math_bits_deBruijn32tab), ("math/bits.deBruijn64tab", laid_math_bits_deBruijn64tab), ("internal/strconv.uint64pow10", laid_internal_strconv_uint64pow10), ("fluxion/frac.faults", laid_fluxion_frac_faults), ("fluxion/shape.kinds", laid_fluxion_shape_kinds)] }
def ShapeValuesSaid : Prop := shapeValuesRow.holds Tryz.pinned (OpenSpec.ofChange shapeValuesSpec)

/-- ITS FALSE NEIGHBOUR: 'it returns false'. Refute it at one input. -/
def shapeValuesWrong : ChangeSpec := { name := "shapeValues", fn := fun _ => fun
  | [d1, d2] => { results := [.lit (.bool false)], args := [d1, d2] }
  | _ => none }
def ShapeValuesWrongFalsely : Prop := shapeValuesRow.holds Tryz.pinned (OpenSpec.ofChange shapeValuesWrong)

/-- 'fluxionlaw03.ShapeShown': WHATEVER THE INPUT: true; the input reads as it did. -/
def shapeShownSpec : ChangeSpec := { name := "shapeShown", fn := fun _ => fun
  | [d1, d2] => { results := [.lit (.bool true)], args := [d1, d2] }
  | _ => none }
def shapeShownRow : OpenClaim := { program := "ytcbaipnphepbeaagreatdoor", sum := "bd3982fa5fdb39e860090c936a223daed7840767a60f0d5121cdcaa87869fa7d", func := "fluxion/fluxionlaw03.ShapeShown", spec := "shapeShown", inPlace := ["internal/abi.NoEscape", "internal/bytealg.MakeNoZero", "internal/bytealg.IndexByteString", "internal/bytealg.IndexString"], unfollowed := true, recurses := true, named := ["fluxion/frac.faults", "internal/bytealg.MaxLen", "fluxion/shape.kinds", "internal/strconv.uint64pow10", "math/bits.deBruijn32tab", "math/bits.deBruijn64tab"], apart := false, laid := [("math/bits.deBruijn32tab", laid_math_bits_deBruijn32tab), ("math/bits.deBruijn64tab", laid_math_bits_deBruijn64tab), ("internal/strconv.uint64pow10", laid_internal_strconv_uint64pow10), ("fluxion/frac.faults", laid_fluxion_frac_faults), ("fluxion/shape.kinds", laid_fluxion_shape_kinds)] }
def ShapeShownSaid : Prop := shapeShownRow.holds Tryz.pinned (OpenSpec.ofChange shapeShownSpec)

/-- ITS FALSE NEIGHBOUR: 'it returns false'. Refute it at one input. -/
def shapeShownWrong : ChangeSpec := { name := "shapeShown", fn := fun _ => fun
  | [d1, d2] => { results := [.lit (.bool false)], args := [d1, d2] }
  | _ => none }
def ShapeShownWrongFalsely : Prop := shapeShownRow.holds Tryz.pinned (OpenSpec.ofChange shapeShownWrong)

/-- 'fluxionlaw03.ShapeParses': WHATEVER THE INPUT: true; the input reads as it did. -/
def shapeParsesSpec : ChangeSpec := { name := "shapeParses", fn := fun _ => fun
  | [d] => { results := [.lit (.bool true)], args := [d] }
  | _ => none }
def shapeParsesRow : OpenClaim := { program := "ytcbaipnphepbeaagreatdoor", sum := "bd3982fa5fdb39e860090c936a223daed7840767a60f0d5121cdcaa87869fa7d", func := "fluxion/fluxionlaw03.ShapeParses", spec := "shapeParses", inPlace := ["internal/bytealg.IndexByteString", "internal/bytealg.IndexString", "internal/abi.NoEscape", "internal/bytealg.MakeNoZero"], unfollowed := true, recurses := true, named := ["fluxion/shape.kinds", "fluxion/frac.faults", "internal/bytealg.MaxLen", "internal/strconv.uint64pow10", "math/bits.deBruijn32tab", "math/bits.deBruijn64tab"], apart := false, laid := [("math/bits.deBruijn32tab", laid_math_bits_deBruijn32tab), ("math/bits.deBruijn64tab", laid_math_bits_deBruijn64tab), ("internal/strconv.uint64pow10", laid_internal_strconv_uint64pow10), ("fluxion/frac.faults", laid_fluxion_frac_faults), ("fluxion/shape.kinds", laid_fluxion_shape_kinds)] }
def ShapeParsesSaid : Prop := shapeParsesRow.holds Tryz.pinned (OpenSpec.ofChange shapeParsesSpec)

/-- ITS FALSE NEIGHBOUR: 'it returns false'. Refute it at one input. -/
def shapeParsesWrong : ChangeSpec := { name := "shapeParses", fn := fun _ => fun
  | [d] => { results := [.lit (.bool false)], args := [d] }
  | _ => none }
def ShapeParsesWrongFalsely : Prop := shapeParsesRow.holds Tryz.pinned (OpenSpec.ofChange shapeParsesWrong)

/-- 'fluxionlaw03.ShapeTold': WHATEVER THE INPUT: true; the input reads as it did. -/
def shapeToldSpec : ChangeSpec := { name := "shapeTold", fn := fun _ => fun
  | [d1, d2, d3] => { results := [.lit (.bool true)], args := [d1, d2, d3] }
  | _ => none }
def shapeToldRow : OpenClaim := { program := "ytcbaipnphepbeaagreatdoor", sum := "bd3982fa5fdb39e860090c936a223daed7840767a60f0d5121cdcaa87869fa7d", func := "fluxion/fluxionlaw03.ShapeTold", spec := "shapeTold", inPlace := ["internal/bytealg.IndexByteString", "internal/bytealg.IndexString", "internal/abi.NoEscape", "internal/bytealg.MakeNoZero"], unfollowed := true, recurses := true, named := ["fluxion/shape.kinds", "internal/strconv.uint64pow10", "math/bits.deBruijn32tab", "math/bits.deBruijn64tab", "fluxion/frac.faults", "internal/bytealg.MaxLen"], apart := false, laid := [("math/bits.deBruijn32tab", laid_math_bits_deBruijn32tab), ("math/bits.deBruijn64tab", laid_math_bits_deBruijn64tab), ("internal/strconv.uint64pow10", laid_internal_strconv_uint64pow10), ("fluxion/frac.faults", laid_fluxion_frac_faults), ("fluxion/shape.kinds", laid_fluxion_shape_kinds)] }
def ShapeToldSaid : Prop := shapeToldRow.holds Tryz.pinned (OpenSpec.ofChange shapeToldSpec)

/-- ITS FALSE NEIGHBOUR: 'it returns false'. Refute it at one input. -/
def shapeToldWrong : ChangeSpec := { name := "shapeTold", fn := fun _ => fun
  | [d1, d2, d3] => { results := [.lit (.bool false)], args := [d1, d2, d3] }
  | _ => none }
def ShapeToldWrongFalsely : Prop := shapeToldRow.holds Tryz.pinned (OpenSpec.ofChange shapeToldWrong)

/-- 'fluxionlaw03.ShapeTypes': WHATEVER THE INPUT: true; the input reads as it did. -/
def shapeTypesSpec : ChangeSpec := { name := "shapeTypes", fn := fun _ => fun
  | [d1, d2] => { results := [.lit (.bool true)], args := [d1, d2] }
  | _ => none }
def shapeTypesRow : OpenClaim := { program := "ytcbaipnphepbeaagreatdoor", sum := "bd3982fa5fdb39e860090c936a223daed7840767a60f0d5121cdcaa87869fa7d", func := "fluxion/fluxionlaw03.ShapeTypes", spec := "shapeTypes", inPlace := ["internal/bytealg.IndexByteString", "internal/bytealg.IndexString", "internal/abi.NoEscape", "internal/bytealg.MakeNoZero"], unfollowed := true, recurses := true, named := ["fluxion/shape.kinds", "internal/strconv.uint64pow10", "math/bits.deBruijn32tab", "math/bits.deBruijn64tab", "fluxion/frac.faults", "internal/bytealg.MaxLen"], apart := false, laid := [("math/bits.deBruijn32tab", laid_math_bits_deBruijn32tab), ("math/bits.deBruijn64tab", laid_math_bits_deBruijn64tab), ("internal/strconv.uint64pow10", laid_internal_strconv_uint64pow10), ("fluxion/frac.faults", laid_fluxion_frac_faults), ("fluxion/shape.kinds", laid_fluxion_shape_kinds)] }
def ShapeTypesSaid : Prop := shapeTypesRow.holds Tryz.pinned (OpenSpec.ofChange shapeTypesSpec)

/-- ITS FALSE NEIGHBOUR: 'it returns false'. Refute it at one input. -/
def shapeTypesWrong : ChangeSpec := { name := "shapeTypes", fn := fun _ => fun
  | [d1, d2] => { results := [.lit (.bool false)], args := [d1, d2] }
  | _ => none }
def ShapeTypesWrongFalsely : Prop := shapeTypesRow.holds Tryz.pinned (OpenSpec.ofChange shapeTypesWrong)

/-- 'fluxionlaw03.ShapeParts': WHATEVER THE INPUT: true; the input reads as it did. -/
def shapePartsSpec : ChangeSpec := { name := "shapeParts", fn := fun _ => fun
  | [d1, d2] => { results := [.lit (.bool true)], args := [d1, d2] }
  | _ => none }
def shapePartsRow : OpenClaim := { program := "ytcbaipnphepbeaagreatdoor", sum := "bd3982fa5fdb39e860090c936a223daed7840767a60f0d5121cdcaa87869fa7d", func := "fluxion/fluxionlaw03.ShapeParts", spec := "shapeParts", inPlace := ["internal/bytealg.IndexByteString", "internal/bytealg.IndexString", "internal/abi.NoEscape", "internal/bytealg.MakeNoZero"], unfollowed := true, recurses := true, named := ["fluxion/shape.kinds", "internal/strconv.uint64pow10", "math/bits.deBruijn32tab", "math/bits.deBruijn64tab", "fluxion/frac.faults", "internal/bytealg.MaxLen"], apart := false, laid := [("math/bits.deBruijn32tab", laid_math_bits_deBruijn32tab), ("math/bits.deBruijn64tab", laid_math_bits_deBruijn64tab), ("internal/strconv.uint64pow10", laid_internal_strconv_uint64pow10), ("fluxion/frac.faults", laid_fluxion_frac_faults), ("fluxion/shape.kinds", laid_fluxion_shape_kinds)] }
def ShapePartsSaid : Prop := shapePartsRow.holds Tryz.pinned (OpenSpec.ofChange shapePartsSpec)

/-- ITS FALSE NEIGHBOUR: 'it returns false'. Refute it at one input. -/
def shapePartsWrong : ChangeSpec := { name := "shapeParts", fn := fun _ => fun
  | [d1, d2] => { results := [.lit (.bool false)], args := [d1, d2] }
  | _ => none }
def ShapePartsWrongFalsely : Prop := shapePartsRow.holds Tryz.pinned (OpenSpec.ofChange shapePartsWrong)

/-- 'fluxionlaw03.ShapePacks': WHATEVER THE INPUT: true; the input reads as it did. -/
def shapePacksSpec : ChangeSpec := { name := "shapePacks", fn := fun _ => fun
  | [d] => { results := [.lit (.bool true)], args := [d] }
  | _ => none }
def shapePacksRow : OpenClaim := { program := "ytcbaipnphepbeaagreatdoor", sum := "bd3982fa5fdb39e860090c936a223daed7840767a60f0d5121cdcaa87869fa7d", func := "fluxion/fluxionlaw03.ShapePacks", spec := "shapePacks", inPlace := ["internal/bytealg.IndexByteString", "internal/bytealg.IndexString", "internal/abi.NoEscape", "internal/bytealg.MakeNoZero"], unfollowed := true, recurses := true, named := ["fluxion/shape.kinds", "internal/strconv.uint64pow10", "math/bits.deBruijn32tab", "math/bits.deBruijn64tab", "fluxion/frac.faults", "internal/bytealg.MaxLen"], apart := false, laid := [("math/bits.deBruijn32tab", laid_math_bits_deBruijn32tab), ("math/bits.deBruijn64tab", laid_math_bits_deBruijn64tab), ("internal/strconv.uint64pow10", laid_internal_strconv_uint64pow10), ("fluxion/frac.faults", laid_fluxion_frac_faults), ("fluxion/shape.kinds", laid_fluxion_shape_kinds)] }
def ShapePacksSaid : Prop := shapePacksRow.holds Tryz.pinned (OpenSpec.ofChange shapePacksSpec)

/-- ITS FALSE NEIGHBOUR: 'it returns false'. Refute it at one input. -/
def shapePacksWrong : ChangeSpec := { name := "shapePacks", fn := fun _ => fun
  | [d] => { results := [.lit (.bool false)], args := [d] }
  | _ => none }
def ShapePacksWrongFalsely : Prop := shapePacksRow.holds Tryz.pinned (OpenSpec.ofChange shapePacksWrong)

/-- 'fluxionlaw03.ShapeBacks': WHATEVER THE INPUT: true; the input reads as it did. -/
def shapeBacksSpec : ChangeSpec := { name := "shapeBacks", fn := fun _ => fun
  | [d1, d2] => { results := [.lit (.bool true)], args := [d1, d2] }
  | _ => none }
def shapeBacksRow : OpenClaim := { program := "ytcbaipnphepbeaagreatdoor", sum := "bd3982fa5fdb39e860090c936a223daed7840767a60f0d5121cdcaa87869fa7d", func := "fluxion/fluxionlaw03.ShapeBacks", spec := "shapeBacks", inPlace := ["internal/bytealg.IndexByteString", "internal/bytealg.IndexString", "internal/abi.NoEscape", "internal/bytealg.MakeNoZero"], unfollowed := true, recurses := true, named := ["fluxion/shape.kinds", "internal/strconv.uint64pow10", "math/bits.deBruijn32tab", "math/bits.deBruijn64tab", "fluxion/frac.faults", "internal/bytealg.MaxLen"], apart := false, laid := [("math/bits.deBruijn32tab", laid_math_bits_deBruijn32tab), ("math/bits.deBruijn64tab", laid_math_bits_deBruijn64tab), ("internal/strconv.uint64pow10", laid_internal_strconv_uint64pow10), ("fluxion/frac.faults", laid_fluxion_frac_faults), ("fluxion/shape.kinds", laid_fluxion_shape_kinds)] }
def ShapeBacksSaid : Prop := shapeBacksRow.holds Tryz.pinned (OpenSpec.ofChange shapeBacksSpec)

/-- ITS FALSE NEIGHBOUR: 'it returns false'. Refute it at one input. -/
def shapeBacksWrong : ChangeSpec := { name := "shapeBacks", fn := fun _ => fun
  | [d1, d2] => { results := [.lit (.bool false)], args := [d1, d2] }
  | _ => none }
def ShapeBacksWrongFalsely : Prop := shapeBacksRow.holds Tryz.pinned (OpenSpec.ofChange shapeBacksWrong)

/-- 'fluxionlaw03.ShapeNumbers': WHATEVER THE INPUT: true; the input reads as it did. -/
def shapeNumbersSpec : ChangeSpec := { name := "shapeNumbers", fn := fun _ => fun
  | [d1, d2] => { results := [.lit (.bool true)], args := [d1, d2] }
  | _ => none }
def shapeNumbersRow : OpenClaim := { program := "ytcbaipnphepbeaagreatdoor", sum := "bd3982fa5fdb39e860090c936a223daed7840767a60f0d5121cdcaa87869fa7d", func := "fluxion/fluxionlaw03.ShapeNumbers", spec := "shapeNumbers", inPlace := ["internal/bytealg.IndexByteString", "internal/bytealg.IndexString", "internal/abi.NoEscape", "internal/bytealg.MakeNoZero"], unfollowed := true, recurses := true, named := ["fluxion/shape.kinds", "internal/strconv.uint64pow10", "math/bits.deBruijn32tab", "math/bits.deBruijn64tab", "fluxion/frac.faults", "internal/bytealg.MaxLen"], apart := false, laid := [("math/bits.deBruijn32tab", laid_math_bits_deBruijn32tab), ("math/bits.deBruijn64tab", laid_math_bits_deBruijn64tab), ("internal/strconv.uint64pow10", laid_internal_strconv_uint64pow10), ("fluxion/frac.faults", laid_fluxion_frac_faults), ("fluxion/shape.kinds", laid_fluxion_shape_kinds)] }
def ShapeNumbersSaid : Prop := shapeNumbersRow.holds Tryz.pinned (OpenSpec.ofChange shapeNumbersSpec)

/-- ITS FALSE NEIGHBOUR: 'it returns false'. Refute it at one input. -/
def shapeNumbersWrong : ChangeSpec := { name := "shapeNumbers", fn := fun _ => fun
  | [d1, d2] => { results := [.lit (.bool false)], args := [d1, d2] }
  | _ => none }
def ShapeNumbersWrongFalsely : Prop := shapeNumbersRow.holds Tryz.pinned (OpenSpec.ofChange shapeNumbersWrong)

/-- 'fluxionlaw03.ShapeOwn': WHATEVER THE INPUT: true; the input reads as it did. -/
def shapeOwnSpec : ChangeSpec := { name := "shapeOwn", fn := fun _ => fun
  | [d] => { results := [.lit (.bool true)], args := [d] }
  | _ => none }
def shapeOwnRow : OpenClaim := { program := "ytcbaipnphepbeaagreatdoor", sum := "bd3982fa5fdb39e860090c936a223daed7840767a60f0d5121cdcaa87869fa7d", func := "fluxion/fluxionlaw03.ShapeOwn", spec := "shapeOwn", inPlace := ["internal/bytealg.IndexByteString", "internal/bytealg.IndexString", "internal/abi.NoEscape", "internal/bytealg.MakeNoZero"], unfollowed := true, recurses := true, named := ["fluxion/shape.kinds", "internal/strconv.uint64pow10", "math/bits.deBruijn32tab", "math/bits.deBruijn64tab", "fluxion/frac.faults", "internal/bytealg.MaxLen"], apart := false, laid := [("math/bits.deBruijn32tab", laid_math_bits_deBruijn32tab), ("math/bits.deBruijn64tab", laid_math_bits_deBruijn64tab), ("internal/strconv.uint64pow10", laid_internal_strconv_uint64pow10), ("fluxion/frac.faults", laid_fluxion_frac_faults), ("fluxion/shape.kinds", laid_fluxion_shape_kinds)] }
def ShapeOwnSaid : Prop := shapeOwnRow.holds Tryz.pinned (OpenSpec.ofChange shapeOwnSpec)

/-- ITS FALSE NEIGHBOUR: 'it returns false'. Refute it at one input. -/
def shapeOwnWrong : ChangeSpec := { name := "shapeOwn", fn := fun _ => fun
  | [d] => { results := [.lit (.bool false)], args := [d] }
  | _ => none }
def ShapeOwnWrongFalsely : Prop := shapeOwnRow.holds Tryz.pinned (OpenSpec.ofChange shapeOwnWrong)

/- THE SECOND FORM. 'bulk': how many values and letters a reading holds, each counted each time it is reached (what is shared counts as often as it is met; a slice's spare places count too). A statement '..UptoSaid' is the law's where the arguments, and the package variables that the reading takes, are together of bulk at most 1048576: NARROWER than '..Said'. Prove '..Said' where nothing that the law and all that it calls make is longer than what came in: it says more and counts as full. Else prove '..UptoSaid'. A law counts once. -/
mutual
def uptoBulk {H : Type} : DataW H → Nat
  | .lit (.string bytes) => bytes.length + 1
  | .lit _ => 1
  | .nil => 1
  | .ptr d => uptoBulk d + 1
  | .slice elems spare => uptoBulkAll elems + uptoBulkAll spare + 1
  | .agg parts => uptoBulkAll parts + 1
  | .iface _ d => uptoBulk d + 1
  | .map entries => uptoBulkEntries entries + 1
  | .held _ => 1
def uptoBulkAll {H : Type} : List (DataW H) → Nat
  | [] => 0
  | d :: r => uptoBulk d + uptoBulkAll r
def uptoBulkEntries {H : Type} : List (Lit × DataW H) → Nat
  | [] => 0
  | x :: r => uptoBulkEntry x + uptoBulkEntries r
def uptoBulkEntry {H : Type} : Lit × DataW H → Nat
  | (.string bytes, d) => bytes.length + uptoBulk d + 1
  | (_, d) => uptoBulk d + 1
 end
def uptoSmall : (H : Type) → List (DataW H) → Bool := fun _ ds => decide (uptoBulkAll ds ≤ 1048576)
def OpenSpec.upto (s : _root_.Go.ChangeSpec) : _root_.Go.OpenSpec := { _root_.Go.OpenSpec.ofChange s with cond := some uptoSmall }

/-- 'fluxionlaw03.ShapeValues', WHERE WHAT IT READS IS OF BULK AT MOST 1048576: true; the input reads as it did. -/
def shapeValuesUptoRow : OpenClaim := { program := "ytcbaipnphepbeaagreatdoor", sum := "bd3982fa5fdb39e860090c936a223daed7840767a60f0d5121cdcaa87869fa7d", func := "fluxion/fluxionlaw03.ShapeValues", spec := "shapeValues", inPlace := ["internal/abi.NoEscape", "internal/bytealg.MakeNoZero", "internal/bytealg.IndexByteString", "internal/bytealg.IndexString"], unfollowed := true, recurses := true, named := ["fluxion/frac.faults", "fluxion/shape.kinds", "internal/strconv.uint64pow10", "math/bits.deBruijn32tab", "math/bits.deBruijn64tab", "internal/bytealg.MaxLen"], apart := false, laid := [("math/bits.deBruijn32tab", laid_math_bits_deBruijn32tab), ("math/bits.deBruijn64tab", laid_math_bits_deBruijn64tab), ("internal/strconv.uint64pow10", laid_internal_strconv_uint64pow10), ("fluxion/frac.faults", laid_fluxion_frac_faults), ("fluxion/shape.kinds", laid_fluxion_shape_kinds)], narrowed := true }
def ShapeValuesUptoSaid : Prop := shapeValuesUptoRow.holds Tryz.pinned (OpenSpec.upto shapeValuesSpec)

/-- 'fluxionlaw03.ShapeShown', WHERE WHAT IT READS IS OF BULK AT MOST 1048576: true; the input reads as it did. -/
def shapeShownUptoRow : OpenClaim := { program := "ytcbaipnphepbeaagreatdoor", sum := "bd3982fa5fdb39e860090c936a223daed7840767a60f0d5121cdcaa87869fa7d", func := "fluxion/fluxionlaw03.ShapeShown", spec := "shapeShown", inPlace := ["internal/abi.NoEscape", "internal/bytealg.MakeNoZero", "internal/bytealg.IndexByteString", "internal/bytealg.IndexString"], unfollowed := true, recurses := true, named := ["fluxion/frac.faults", "internal/bytealg.MaxLen", "fluxion/shape.kinds", "internal/strconv.uint64pow10", "math/bits.deBruijn32tab", "math/bits.deBruijn64tab"], apart := false, laid := [("math/bits.deBruijn32tab", laid_math_bits_deBruijn32tab), ("math/bits.deBruijn64tab", laid_math_bits_deBruijn64tab), ("internal/strconv.uint64pow10", laid_internal_strconv_uint64pow10), ("fluxion/frac.faults", laid_fluxion_frac_faults), ("fluxion/shape.kinds", laid_fluxion_shape_kinds)], narrowed := true }
def ShapeShownUptoSaid : Prop := shapeShownUptoRow.holds Tryz.pinned (OpenSpec.upto shapeShownSpec)

/-- 'fluxionlaw03.ShapeParses', WHERE WHAT IT READS IS OF BULK AT MOST 1048576: true; the input reads as it did. -/
def shapeParsesUptoRow : OpenClaim := { program := "ytcbaipnphepbeaagreatdoor", sum := "bd3982fa5fdb39e860090c936a223daed7840767a60f0d5121cdcaa87869fa7d", func := "fluxion/fluxionlaw03.ShapeParses", spec := "shapeParses", inPlace := ["internal/bytealg.IndexByteString", "internal/bytealg.IndexString", "internal/abi.NoEscape", "internal/bytealg.MakeNoZero"], unfollowed := true, recurses := true, named := ["fluxion/shape.kinds", "fluxion/frac.faults", "internal/bytealg.MaxLen", "internal/strconv.uint64pow10", "math/bits.deBruijn32tab", "math/bits.deBruijn64tab"], apart := false, laid := [("math/bits.deBruijn32tab", laid_math_bits_deBruijn32tab), ("math/bits.deBruijn64tab", laid_math_bits_deBruijn64tab), ("internal/strconv.uint64pow10", laid_internal_strconv_uint64pow10), ("fluxion/frac.faults", laid_fluxion_frac_faults), ("fluxion/shape.kinds", laid_fluxion_shape_kinds)], narrowed := true }
def ShapeParsesUptoSaid : Prop := shapeParsesUptoRow.holds Tryz.pinned (OpenSpec.upto shapeParsesSpec)

/-- 'fluxionlaw03.ShapeTold', WHERE WHAT IT READS IS OF BULK AT MOST 1048576: true; the input reads as it did. -/
def shapeToldUptoRow : OpenClaim := { program := "ytcbaipnphepbeaagreatdoor", sum := "bd3982fa5fdb39e860090c936a223daed7840767a60f0d5121cdcaa87869fa7d", func := "fluxion/fluxionlaw03.ShapeTold", spec := "shapeTold", inPlace := ["internal/bytealg.IndexByteString", "internal/bytealg.IndexString", "internal/abi.NoEscape", "internal/bytealg.MakeNoZero"], unfollowed := true, recurses := true, named := ["fluxion/shape.kinds", "internal/strconv.uint64pow10", "math/bits.deBruijn32tab", "math/bits.deBruijn64tab", "fluxion/frac.faults", "internal/bytealg.MaxLen"], apart := false, laid := [("math/bits.deBruijn32tab", laid_math_bits_deBruijn32tab), ("math/bits.deBruijn64tab", laid_math_bits_deBruijn64tab), ("internal/strconv.uint64pow10", laid_internal_strconv_uint64pow10), ("fluxion/frac.faults", laid_fluxion_frac_faults), ("fluxion/shape.kinds", laid_fluxion_shape_kinds)], narrowed := true }
def ShapeToldUptoSaid : Prop := shapeToldUptoRow.holds Tryz.pinned (OpenSpec.upto shapeToldSpec)

/-- 'fluxionlaw03.ShapeTypes', WHERE WHAT IT READS IS OF BULK AT MOST 1048576: true; the input reads as it did. -/
def shapeTypesUptoRow : OpenClaim := { program := "ytcbaipnphepbeaagreatdoor", sum := "bd3982fa5fdb39e860090c936a223daed7840767a60f0d5121cdcaa87869fa7d", func := "fluxion/fluxionlaw03.ShapeTypes", spec := "shapeTypes", inPlace := ["internal/bytealg.IndexByteString", "internal/bytealg.IndexString", "internal/abi.NoEscape", "internal/bytealg.MakeNoZero"], unfollowed := true, recurses := true, named := ["fluxion/shape.kinds", "internal/strconv.uint64pow10", "math/bits.deBruijn32tab", "math/bits.deBruijn64tab", "fluxion/frac.faults", "internal/bytealg.MaxLen"], apart := false, laid := [("math/bits.deBruijn32tab", laid_math_bits_deBruijn32tab), ("math/bits.deBruijn64tab", laid_math_bits_deBruijn64tab), ("internal/strconv.uint64pow10", laid_internal_strconv_uint64pow10), ("fluxion/frac.faults", laid_fluxion_frac_faults), ("fluxion/shape.kinds", laid_fluxion_shape_kinds)], narrowed := true }
def ShapeTypesUptoSaid : Prop := shapeTypesUptoRow.holds Tryz.pinned (OpenSpec.upto shapeTypesSpec)

/-- 'fluxionlaw03.ShapeParts', WHERE WHAT IT READS IS OF BULK AT MOST 1048576: true; the input reads as it did. -/
def shapePartsUptoRow : OpenClaim := { program := "ytcbaipnphepbeaagreatdoor", sum := "bd3982fa5fdb39e860090c936a223daed7840767a60f0d5121cdcaa87869fa7d", func := "fluxion/fluxionlaw03.ShapeParts", spec := "shapeParts", inPlace := ["internal/bytealg.IndexByteString", "internal/bytealg.IndexString", "internal/abi.NoEscape", "internal/bytealg.MakeNoZero"], unfollowed := true, recurses := true, named := ["fluxion/shape.kinds", "internal/strconv.uint64pow10", "math/bits.deBruijn32tab", "math/bits.deBruijn64tab", "fluxion/frac.faults", "internal/bytealg.MaxLen"], apart := false, laid := [("math/bits.deBruijn32tab", laid_math_bits_deBruijn32tab), ("math/bits.deBruijn64tab", laid_math_bits_deBruijn64tab), ("internal/strconv.uint64pow10", laid_internal_strconv_uint64pow10), ("fluxion/frac.faults", laid_fluxion_frac_faults), ("fluxion/shape.kinds", laid_fluxion_shape_kinds)], narrowed := true }
def ShapePartsUptoSaid : Prop := shapePartsUptoRow.holds Tryz.pinned (OpenSpec.upto shapePartsSpec)

/-- 'fluxionlaw03.ShapePacks', WHERE WHAT IT READS IS OF BULK AT MOST 1048576: true; the input reads as it did. -/
def shapePacksUptoRow : OpenClaim := { program := "ytcbaipnphepbeaagreatdoor", sum := "bd3982fa5fdb39e860090c936a223daed7840767a60f0d5121cdcaa87869fa7d", func := "fluxion/fluxionlaw03.ShapePacks", spec := "shapePacks", inPlace := ["internal/bytealg.IndexByteString", "internal/bytealg.IndexString", "internal/abi.NoEscape", "internal/bytealg.MakeNoZero"], unfollowed := true, recurses := true, named := ["fluxion/shape.kinds", "internal/strconv.uint64pow10", "math/bits.deBruijn32tab", "math/bits.deBruijn64tab", "fluxion/frac.faults", "internal/bytealg.MaxLen"], apart := false, laid := [("math/bits.deBruijn32tab", laid_math_bits_deBruijn32tab), ("math/bits.deBruijn64tab", laid_math_bits_deBruijn64tab), ("internal/strconv.uint64pow10", laid_internal_strconv_uint64pow10), ("fluxion/frac.faults", laid_fluxion_frac_faults), ("fluxion/shape.kinds", laid_fluxion_shape_kinds)], narrowed := true }
def ShapePacksUptoSaid : Prop := shapePacksUptoRow.holds Tryz.pinned (OpenSpec.upto shapePacksSpec)

/-- 'fluxionlaw03.ShapeBacks', WHERE WHAT IT READS IS OF BULK AT MOST 1048576: true; the input reads as it did. -/
def shapeBacksUptoRow : OpenClaim := { program := "ytcbaipnphepbeaagreatdoor", sum := "bd3982fa5fdb39e860090c936a223daed7840767a60f0d5121cdcaa87869fa7d", func := "fluxion/fluxionlaw03.ShapeBacks", spec := "shapeBacks", inPlace := ["internal/bytealg.IndexByteString", "internal/bytealg.IndexString", "internal/abi.NoEscape", "internal/bytealg.MakeNoZero"], unfollowed := true, recurses := true, named := ["fluxion/shape.kinds", "internal/strconv.uint64pow10", "math/bits.deBruijn32tab", "math/bits.deBruijn64tab", "fluxion/frac.faults", "internal/bytealg.MaxLen"], apart := false, laid := [("math/bits.deBruijn32tab", laid_math_bits_deBruijn32tab), ("math/bits.deBruijn64tab", laid_math_bits_deBruijn64tab), ("internal/strconv.uint64pow10", laid_internal_strconv_uint64pow10), ("fluxion/frac.faults", laid_fluxion_frac_faults), ("fluxion/shape.kinds", laid_fluxion_shape_kinds)], narrowed := true }
def ShapeBacksUptoSaid : Prop := shapeBacksUptoRow.holds Tryz.pinned (OpenSpec.upto shapeBacksSpec)

/-- 'fluxionlaw03.ShapeNumbers', WHERE WHAT IT READS IS OF BULK AT MOST 1048576: true; the input reads as it did. -/
def shapeNumbersUptoRow : OpenClaim := { program := "ytcbaipnphepbeaagreatdoor", sum := "bd3982fa5fdb39e860090c936a223daed7840767a60f0d5121cdcaa87869fa7d", func := "fluxion/fluxionlaw03.ShapeNumbers", spec := "shapeNumbers", inPlace := ["internal/bytealg.IndexByteString", "internal/bytealg.IndexString", "internal/abi.NoEscape", "internal/bytealg.MakeNoZero"], unfollowed := true, recurses := true, named := ["fluxion/shape.kinds", "internal/strconv.uint64pow10", "math/bits.deBruijn32tab", "math/bits.deBruijn64tab", "fluxion/frac.faults", "internal/bytealg.MaxLen"], apart := false, laid := [("math/bits.deBruijn32tab", laid_math_bits_deBruijn32tab), ("math/bits.deBruijn64tab", laid_math_bits_deBruijn64tab), ("internal/strconv.uint64pow10", laid_internal_strconv_uint64pow10), ("fluxion/frac.faults", laid_fluxion_frac_faults), ("fluxion/shape.kinds", laid_fluxion_shape_kinds)], narrowed := true }
def ShapeNumbersUptoSaid : Prop := shapeNumbersUptoRow.holds Tryz.pinned (OpenSpec.upto shapeNumbersSpec)

/-- 'fluxionlaw03.ShapeOwn', WHERE WHAT IT READS IS OF BULK AT MOST 1048576: true; the input reads as it did. -/
def shapeOwnUptoRow : OpenClaim := { program := "ytcbaipnphepbeaagreatdoor", sum := "bd3982fa5fdb39e860090c936a223daed7840767a60f0d5121cdcaa87869fa7d", func := "fluxion/fluxionlaw03.ShapeOwn", spec := "shapeOwn", inPlace := ["internal/bytealg.IndexByteString", "internal/bytealg.IndexString", "internal/abi.NoEscape", "internal/bytealg.MakeNoZero"], unfollowed := true, recurses := true, named := ["fluxion/shape.kinds", "internal/strconv.uint64pow10", "math/bits.deBruijn32tab", "math/bits.deBruijn64tab", "fluxion/frac.faults", "internal/bytealg.MaxLen"], apart := false, laid := [("math/bits.deBruijn32tab", laid_math_bits_deBruijn32tab), ("math/bits.deBruijn64tab", laid_math_bits_deBruijn64tab), ("internal/strconv.uint64pow10", laid_internal_strconv_uint64pow10), ("fluxion/frac.faults", laid_fluxion_frac_faults), ("fluxion/shape.kinds", laid_fluxion_shape_kinds)], narrowed := true }
def ShapeOwnUptoSaid : Prop := shapeOwnUptoRow.holds Tryz.pinned (OpenSpec.upto shapeOwnSpec)

end Rows
end Go.Proofs.YtcbaipnphepbeaaGreatDoor
