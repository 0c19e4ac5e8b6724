/-
  NARROWER THAN 'FOR EVERY INPUT', by the rows' own cells (each row's printed sentence says how): FnExactPolicyOk: laid · FnExactPolicyWrite: laid · FnExactPolicyOf: laid · FnExactPolicyFit: laid · FnExactPolicyJoin: laid · FnExactPolicyOnly: laid · FnExactPolicyMap: laid · FnPolicyFirst: laid · FnPolicySplit: laid · FnPolicyFit: laid · FnPolicyJoin: laid.
  DERIVED. THE GIVEN ROWS OF THIS SEAT. 11 by the template 'for every input the law returns true; each argument reads behind the call as it read before'; 0 by the template 'total and deterministic' (their statements: YtcocagdbkpkkaaaDoorTotals.lean).
  GIVEN WITH THE SEED: the statements are not yours to turn. If you find one false, say at which input.
  Laid BY PROGRAM, IN A SANDBOX (cutbox-rows.mjs): the forced cells as the released guide's own fill.sh prints them over the translation f3f3f8c64b6965e2… (all of the seat's roots in one cut). By AI agents, Wed Nov 11 2026. No macro, syntax, notation, axiom, sorry.
-/
import Derived.Test.YtcocagdbkpkkaaaDoorChecked
import GoSem.Claim
import GoSem.ClaimJoined
import GoSem.ClaimMapViews
import Derived.JoinedTies
import Derived.KernelRfl
namespace Go.Proofs.YtcocagdbkpkkaaaDoor
/- THE CELL 'sum', in the pinned program and in every row, IS THE sha256 OF THE DUMP (.gsa) THAT YtcocagdbkpkkaaaDoorProg.lean LOADS. Nothing in Lean hashes anything: it is a label: what it is worth is what the hold of that sum in a sandbox is worth. -/
noncomputable def Tryd.pinned : Pinned := { name := "ytcocagdbkpkkaaadoor", sum := "f3f3f8c64b6965e2e88dcf70b78d35845b7994b038b4f8b87bdd63a4a52eab25", checked := Tryd.checked }
namespace Rows
def none {H : Type} : Left H := { results := [], args := [] }

/- WHAT THE LISTED PACKAGE-LEVEL VARIABLES READ AS WHEN THE CALL BEGINS. Each datum BY PROGRAM (the guide's laid-datum.mjs) off the statement by which the dump's own 'gosem.cut.vars' lays the variable. In a bare row this is a premise. The card (YtcocagdbkpkkaaaDoorCards.lean) ties it to the program's text. -/
def laid_math_bits_deBruijn32tab {H : Type} : DataW H := .agg [.lit (.int .u8 0), .lit (.int .u8 1), .lit (.int .u8 28), .lit (.int .u8 2), .lit (.int .u8 29), .lit (.int .u8 14), .lit (.int .u8 24), .lit (.int .u8 3), .lit (.int .u8 30), .lit (.int .u8 22), .lit (.int .u8 20), .lit (.int .u8 15), .lit (.int .u8 25), .lit (.int .u8 17), .lit (.int .u8 4), .lit (.int .u8 8), .lit (.int .u8 31), .lit (.int .u8 27), .lit (.int .u8 13), .lit (.int .u8 23), .lit (.int .u8 21), .lit (.int .u8 19), .lit (.int .u8 16), .lit (.int .u8 7), .lit (.int .u8 26), .lit (.int .u8 12), .lit (.int .u8 18), .lit (.int .u8 6), .lit (.int .u8 11), .lit (.int .u8 5), .lit (.int .u8 10), .lit (.int .u8 9)]
def laid_math_bits_deBruijn64tab {H : Type} : DataW H := .agg [.lit (.int .u8 0), .lit (.int .u8 1), .lit (.int .u8 56), .lit (.int .u8 2), .lit (.int .u8 57), .lit (.int .u8 49), .lit (.int .u8 28), .lit (.int .u8 3), .lit (.int .u8 61), .lit (.int .u8 58), .lit (.int .u8 42), .lit (.int .u8 50), .lit (.int .u8 38), .lit (.int .u8 29), .lit (.int .u8 17), .lit (.int .u8 4), .lit (.int .u8 62), .lit (.int .u8 47), .lit (.int .u8 59), .lit (.int .u8 36), .lit (.int .u8 45), .lit (.int .u8 43), .lit (.int .u8 51), .lit (.int .u8 22), .lit (.int .u8 53), .lit (.int .u8 39), .lit (.int .u8 33), .lit (.int .u8 30), .lit (.int .u8 24), .lit (.int .u8 18), .lit (.int .u8 12), .lit (.int .u8 5), .lit (.int .u8 63), .lit (.int .u8 55), .lit (.int .u8 48), .lit (.int .u8 27), .lit (.int .u8 60), .lit (.int .u8 41), .lit (.int .u8 37), .lit (.int .u8 16), .lit (.int .u8 46), .lit (.int .u8 35), .lit (.int .u8 44), .lit (.int .u8 21), .lit (.int .u8 52), .lit (.int .u8 32), .lit (.int .u8 23), .lit (.int .u8 11), .lit (.int .u8 54), .lit (.int .u8 26), .lit (.int .u8 40), .lit (.int .u8 15), .lit (.int .u8 34), .lit (.int .u8 20), .lit (.int .u8 31), .lit (.int .u8 10), .lit (.int .u8 25), .lit (.int .u8 14), .lit (.int .u8 19), .lit (.int .u8 9), .lit (.int .u8 13), .lit (.int .u8 8), .lit (.int .u8 7), .lit (.int .u8 6)]
def laid_internal_strconv_uint64pow10 {H : Type} : DataW H := .agg [.lit (.int .u64 1), .lit (.int .u64 10), .lit (.int .u64 100), .lit (.int .u64 1000), .lit (.int .u64 10000), .lit (.int .u64 100000), .lit (.int .u64 1000000), .lit (.int .u64 10000000), .lit (.int .u64 100000000), .lit (.int .u64 1000000000), .lit (.int .u64 10000000000), .lit (.int .u64 100000000000), .lit (.int .u64 1000000000000), .lit (.int .u64 10000000000000), .lit (.int .u64 100000000000000), .lit (.int .u64 1000000000000000), .lit (.int .u64 10000000000000000), .lit (.int .u64 100000000000000000), .lit (.int .u64 1000000000000000000), .lit (.int .u64 10000000000000000000)]

/-- 'laws.FnExactPolicyOk': WHATEVER THE INPUT: true; the input reads as it did. -/
def fnExactPolicyOkSpec : ChangeSpec := { name := "fnExactPolicyOk", fn := fun _ => fun
  | [d] => { results := [.lit (.bool true)], args := [d] }
  | _ => none }
def fnExactPolicyOkRow : OpenClaim := { program := "ytcocagdbkpkkaaadoor", sum := "f3f3f8c64b6965e2e88dcf70b78d35845b7994b038b4f8b87bdd63a4a52eab25", func := "loop.example/gatelodge/laws.FnExactPolicyOk", spec := "fnExactPolicyOk", inPlace := ["internal/abi.NoEscape"], recurses := true, named := ["internal/strconv.uint64pow10", "math/bits.deBruijn32tab", "math/bits.deBruijn64tab"], apart := false, laid := [("math/bits.deBruijn32tab", laid_math_bits_deBruijn32tab), ("math/bits.deBruijn64tab", laid_math_bits_deBruijn64tab), ("internal/strconv.uint64pow10", laid_internal_strconv_uint64pow10)] }
def FnExactPolicyOkSaid : Prop := fnExactPolicyOkRow.holds Tryd.pinned (OpenSpec.ofChange fnExactPolicyOkSpec)

/-- ITS FALSE NEIGHBOUR: 'it returns false'. Refute it at one input. -/
def fnExactPolicyOkWrong : ChangeSpec := { name := "fnExactPolicyOk", fn := fun _ => fun
  | [d] => { results := [.lit (.bool false)], args := [d] }
  | _ => none }
def FnExactPolicyOkWrongFalsely : Prop := fnExactPolicyOkRow.holds Tryd.pinned (OpenSpec.ofChange fnExactPolicyOkWrong)

/-- 'laws.FnExactPolicyWrite': WHATEVER THE INPUT: true; the input reads as it did. -/
def fnExactPolicyWriteSpec : ChangeSpec := { name := "fnExactPolicyWrite", fn := fun _ => fun
  | [d] => { results := [.lit (.bool true)], args := [d] }
  | _ => none }
def fnExactPolicyWriteRow : OpenClaim := { program := "ytcocagdbkpkkaaadoor", sum := "f3f3f8c64b6965e2e88dcf70b78d35845b7994b038b4f8b87bdd63a4a52eab25", func := "loop.example/gatelodge/laws.FnExactPolicyWrite", spec := "fnExactPolicyWrite", inPlace := ["internal/abi.NoEscape"], recurses := true, named := ["internal/strconv.uint64pow10", "math/bits.deBruijn32tab", "math/bits.deBruijn64tab"], apart := false, laid := [("math/bits.deBruijn32tab", laid_math_bits_deBruijn32tab), ("math/bits.deBruijn64tab", laid_math_bits_deBruijn64tab), ("internal/strconv.uint64pow10", laid_internal_strconv_uint64pow10)] }
def FnExactPolicyWriteSaid : Prop := fnExactPolicyWriteRow.holds Tryd.pinned (OpenSpec.ofChange fnExactPolicyWriteSpec)

/-- ITS FALSE NEIGHBOUR: 'it returns false'. Refute it at one input. -/
def fnExactPolicyWriteWrong : ChangeSpec := { name := "fnExactPolicyWrite", fn := fun _ => fun
  | [d] => { results := [.lit (.bool false)], args := [d] }
  | _ => none }
def FnExactPolicyWriteWrongFalsely : Prop := fnExactPolicyWriteRow.holds Tryd.pinned (OpenSpec.ofChange fnExactPolicyWriteWrong)

/-- 'laws.FnExactPolicyOf': WHATEVER THE INPUT: true; the input reads as it did. -/
def fnExactPolicyOfSpec : ChangeSpec := { name := "fnExactPolicyOf", fn := fun _ => fun
  | [d1, d2] => { results := [.lit (.bool true)], args := [d1, d2] }
  | _ => none }
def fnExactPolicyOfRow : OpenClaim := { program := "ytcocagdbkpkkaaadoor", sum := "f3f3f8c64b6965e2e88dcf70b78d35845b7994b038b4f8b87bdd63a4a52eab25", func := "loop.example/gatelodge/laws.FnExactPolicyOf", spec := "fnExactPolicyOf", inPlace := ["internal/abi.NoEscape"], recurses := true, named := ["internal/strconv.uint64pow10", "math/bits.deBruijn32tab", "math/bits.deBruijn64tab"], apart := false, laid := [("math/bits.deBruijn32tab", laid_math_bits_deBruijn32tab), ("math/bits.deBruijn64tab", laid_math_bits_deBruijn64tab), ("internal/strconv.uint64pow10", laid_internal_strconv_uint64pow10)] }
def FnExactPolicyOfSaid : Prop := fnExactPolicyOfRow.holds Tryd.pinned (OpenSpec.ofChange fnExactPolicyOfSpec)

/-- ITS FALSE NEIGHBOUR: 'it returns false'. Refute it at one input. -/
def fnExactPolicyOfWrong : ChangeSpec := { name := "fnExactPolicyOf", fn := fun _ => fun
  | [d1, d2] => { results := [.lit (.bool false)], args := [d1, d2] }
  | _ => none }
def FnExactPolicyOfWrongFalsely : Prop := fnExactPolicyOfRow.holds Tryd.pinned (OpenSpec.ofChange fnExactPolicyOfWrong)

/-- 'laws.FnExactPolicyFit': WHATEVER THE INPUT: true; the input reads as it did. -/
def fnExactPolicyFitSpec : ChangeSpec := { name := "fnExactPolicyFit", fn := fun _ => fun
  | [d1, d2] => { results := [.lit (.bool true)], args := [d1, d2] }
  | _ => none }
def fnExactPolicyFitRow : OpenClaim := { program := "ytcocagdbkpkkaaadoor", sum := "f3f3f8c64b6965e2e88dcf70b78d35845b7994b038b4f8b87bdd63a4a52eab25", func := "loop.example/gatelodge/laws.FnExactPolicyFit", spec := "fnExactPolicyFit", inPlace := ["internal/abi.NoEscape"], unfollowed := true, recurses := true, named := ["internal/strconv.uint64pow10", "math/bits.deBruijn32tab", "math/bits.deBruijn64tab"], apart := false, laid := [("math/bits.deBruijn32tab", laid_math_bits_deBruijn32tab), ("math/bits.deBruijn64tab", laid_math_bits_deBruijn64tab), ("internal/strconv.uint64pow10", laid_internal_strconv_uint64pow10)] }
def FnExactPolicyFitSaid : Prop := fnExactPolicyFitRow.holds Tryd.pinned (OpenSpec.ofChange fnExactPolicyFitSpec)

/-- ITS FALSE NEIGHBOUR: 'it returns false'. Refute it at one input. -/
def fnExactPolicyFitWrong : ChangeSpec := { name := "fnExactPolicyFit", fn := fun _ => fun
  | [d1, d2] => { results := [.lit (.bool false)], args := [d1, d2] }
  | _ => none }
def FnExactPolicyFitWrongFalsely : Prop := fnExactPolicyFitRow.holds Tryd.pinned (OpenSpec.ofChange fnExactPolicyFitWrong)

/-- 'laws.FnExactPolicyJoin': WHATEVER THE INPUT: true; the input reads as it did. -/
def fnExactPolicyJoinSpec : ChangeSpec := { name := "fnExactPolicyJoin", fn := fun _ => fun
  | [d1, d2] => { results := [.lit (.bool true)], args := [d1, d2] }
  | _ => none }
def fnExactPolicyJoinRow : OpenClaim := { program := "ytcocagdbkpkkaaadoor", sum := "f3f3f8c64b6965e2e88dcf70b78d35845b7994b038b4f8b87bdd63a4a52eab25", func := "loop.example/gatelodge/laws.FnExactPolicyJoin", spec := "fnExactPolicyJoin", inPlace := ["internal/abi.NoEscape"], recurses := true, named := ["internal/strconv.uint64pow10", "math/bits.deBruijn32tab", "math/bits.deBruijn64tab"], apart := false, laid := [("math/bits.deBruijn32tab", laid_math_bits_deBruijn32tab), ("math/bits.deBruijn64tab", laid_math_bits_deBruijn64tab), ("internal/strconv.uint64pow10", laid_internal_strconv_uint64pow10)] }
def FnExactPolicyJoinSaid : Prop := fnExactPolicyJoinRow.holds Tryd.pinned (OpenSpec.ofChange fnExactPolicyJoinSpec)

/-- ITS FALSE NEIGHBOUR: 'it returns false'. Refute it at one input. -/
def fnExactPolicyJoinWrong : ChangeSpec := { name := "fnExactPolicyJoin", fn := fun _ => fun
  | [d1, d2] => { results := [.lit (.bool false)], args := [d1, d2] }
  | _ => none }
def FnExactPolicyJoinWrongFalsely : Prop := fnExactPolicyJoinRow.holds Tryd.pinned (OpenSpec.ofChange fnExactPolicyJoinWrong)

/-- 'laws.FnExactPolicyOnly': WHATEVER THE INPUT: true; the input reads as it did. -/
def fnExactPolicyOnlySpec : ChangeSpec := { name := "fnExactPolicyOnly", fn := fun _ => fun
  | [d1, d2, d3, d4] => { results := [.lit (.bool true)], args := [d1, d2, d3, d4] }
  | _ => none }
def fnExactPolicyOnlyRow : OpenClaim := { program := "ytcocagdbkpkkaaadoor", sum := "f3f3f8c64b6965e2e88dcf70b78d35845b7994b038b4f8b87bdd63a4a52eab25", func := "loop.example/gatelodge/laws.FnExactPolicyOnly", spec := "fnExactPolicyOnly", inPlace := ["internal/abi.NoEscape"], recurses := true, named := ["internal/strconv.uint64pow10", "math/bits.deBruijn32tab", "math/bits.deBruijn64tab"], apart := false, laid := [("math/bits.deBruijn32tab", laid_math_bits_deBruijn32tab), ("math/bits.deBruijn64tab", laid_math_bits_deBruijn64tab), ("internal/strconv.uint64pow10", laid_internal_strconv_uint64pow10)] }
def FnExactPolicyOnlySaid : Prop := fnExactPolicyOnlyRow.holds Tryd.pinned (OpenSpec.ofChange fnExactPolicyOnlySpec)

/-- ITS FALSE NEIGHBOUR: 'it returns false'. Refute it at one input. -/
def fnExactPolicyOnlyWrong : ChangeSpec := { name := "fnExactPolicyOnly", fn := fun _ => fun
  | [d1, d2, d3, d4] => { results := [.lit (.bool false)], args := [d1, d2, d3, d4] }
  | _ => none }
def FnExactPolicyOnlyWrongFalsely : Prop := fnExactPolicyOnlyRow.holds Tryd.pinned (OpenSpec.ofChange fnExactPolicyOnlyWrong)

/-- 'laws.FnExactPolicyMap': WHATEVER THE INPUT: true; the input reads as it did. -/
def fnExactPolicyMapSpec : ChangeSpec := { name := "fnExactPolicyMap", fn := fun _ => fun
  | [d1, d2, d3] => { results := [.lit (.bool true)], args := [d1, d2, d3] }
  | _ => none }
def fnExactPolicyMapRow : OpenClaim := { program := "ytcocagdbkpkkaaadoor", sum := "f3f3f8c64b6965e2e88dcf70b78d35845b7994b038b4f8b87bdd63a4a52eab25", func := "loop.example/gatelodge/laws.FnExactPolicyMap", spec := "fnExactPolicyMap", inPlace := ["internal/abi.NoEscape"], unfollowed := true, recurses := true, named := ["internal/strconv.uint64pow10", "math/bits.deBruijn32tab", "math/bits.deBruijn64tab"], apart := false, laid := [("math/bits.deBruijn32tab", laid_math_bits_deBruijn32tab), ("math/bits.deBruijn64tab", laid_math_bits_deBruijn64tab), ("internal/strconv.uint64pow10", laid_internal_strconv_uint64pow10)] }
def FnExactPolicyMapSaid : Prop := fnExactPolicyMapRow.holds Tryd.pinned (OpenSpec.ofChange fnExactPolicyMapSpec)

/-- ITS FALSE NEIGHBOUR: 'it returns false'. Refute it at one input. -/
def fnExactPolicyMapWrong : ChangeSpec := { name := "fnExactPolicyMap", fn := fun _ => fun
  | [d1, d2, d3] => { results := [.lit (.bool false)], args := [d1, d2, d3] }
  | _ => none }
def FnExactPolicyMapWrongFalsely : Prop := fnExactPolicyMapRow.holds Tryd.pinned (OpenSpec.ofChange fnExactPolicyMapWrong)

/-- 'laws.FnPolicyFirst': WHATEVER THE INPUT: true; the input reads as it did. -/
def fnPolicyFirstSpec : ChangeSpec := { name := "fnPolicyFirst", fn := fun _ => fun
  | [d] => { results := [.lit (.bool true)], args := [d] }
  | _ => none }
def fnPolicyFirstRow : OpenClaim := { program := "ytcocagdbkpkkaaadoor", sum := "f3f3f8c64b6965e2e88dcf70b78d35845b7994b038b4f8b87bdd63a4a52eab25", func := "loop.example/gatelodge/laws.FnPolicyFirst", spec := "fnPolicyFirst", inPlace := ["internal/abi.NoEscape"], recurses := true, named := ["internal/strconv.uint64pow10", "math/bits.deBruijn32tab", "math/bits.deBruijn64tab"], apart := false, laid := [("math/bits.deBruijn32tab", laid_math_bits_deBruijn32tab), ("math/bits.deBruijn64tab", laid_math_bits_deBruijn64tab), ("internal/strconv.uint64pow10", laid_internal_strconv_uint64pow10)] }
def FnPolicyFirstSaid : Prop := fnPolicyFirstRow.holds Tryd.pinned (OpenSpec.ofChange fnPolicyFirstSpec)

/-- ITS FALSE NEIGHBOUR: 'it returns false'. Refute it at one input. -/
def fnPolicyFirstWrong : ChangeSpec := { name := "fnPolicyFirst", fn := fun _ => fun
  | [d] => { results := [.lit (.bool false)], args := [d] }
  | _ => none }
def FnPolicyFirstWrongFalsely : Prop := fnPolicyFirstRow.holds Tryd.pinned (OpenSpec.ofChange fnPolicyFirstWrong)

/-- 'laws.FnPolicySplit': WHATEVER THE INPUT: true; the input reads as it did. -/
def fnPolicySplitSpec : ChangeSpec := { name := "fnPolicySplit", fn := fun _ => fun
  | [d] => { results := [.lit (.bool true)], args := [d] }
  | _ => none }
def fnPolicySplitRow : OpenClaim := { program := "ytcocagdbkpkkaaadoor", sum := "f3f3f8c64b6965e2e88dcf70b78d35845b7994b038b4f8b87bdd63a4a52eab25", func := "loop.example/gatelodge/laws.FnPolicySplit", spec := "fnPolicySplit", inPlace := ["internal/abi.NoEscape"], recurses := true, named := ["internal/strconv.uint64pow10", "math/bits.deBruijn32tab", "math/bits.deBruijn64tab"], apart := false, laid := [("math/bits.deBruijn32tab", laid_math_bits_deBruijn32tab), ("math/bits.deBruijn64tab", laid_math_bits_deBruijn64tab), ("internal/strconv.uint64pow10", laid_internal_strconv_uint64pow10)] }
def FnPolicySplitSaid : Prop := fnPolicySplitRow.holds Tryd.pinned (OpenSpec.ofChange fnPolicySplitSpec)

/-- ITS FALSE NEIGHBOUR: 'it returns false'. Refute it at one input. -/
def fnPolicySplitWrong : ChangeSpec := { name := "fnPolicySplit", fn := fun _ => fun
  | [d] => { results := [.lit (.bool false)], args := [d] }
  | _ => none }
def FnPolicySplitWrongFalsely : Prop := fnPolicySplitRow.holds Tryd.pinned (OpenSpec.ofChange fnPolicySplitWrong)

/-- 'laws.FnPolicyFit': WHATEVER THE INPUT: true; the input reads as it did. -/
def fnPolicyFitSpec : ChangeSpec := { name := "fnPolicyFit", fn := fun _ => fun
  | [d] => { results := [.lit (.bool true)], args := [d] }
  | _ => none }
def fnPolicyFitRow : OpenClaim := { program := "ytcocagdbkpkkaaadoor", sum := "f3f3f8c64b6965e2e88dcf70b78d35845b7994b038b4f8b87bdd63a4a52eab25", func := "loop.example/gatelodge/laws.FnPolicyFit", spec := "fnPolicyFit", inPlace := ["internal/abi.NoEscape"], unfollowed := true, recurses := true, named := ["internal/strconv.uint64pow10", "math/bits.deBruijn32tab", "math/bits.deBruijn64tab"], apart := false, laid := [("math/bits.deBruijn32tab", laid_math_bits_deBruijn32tab), ("math/bits.deBruijn64tab", laid_math_bits_deBruijn64tab), ("internal/strconv.uint64pow10", laid_internal_strconv_uint64pow10)] }
def FnPolicyFitSaid : Prop := fnPolicyFitRow.holds Tryd.pinned (OpenSpec.ofChange fnPolicyFitSpec)

/-- ITS FALSE NEIGHBOUR: 'it returns false'. Refute it at one input. -/
def fnPolicyFitWrong : ChangeSpec := { name := "fnPolicyFit", fn := fun _ => fun
  | [d] => { results := [.lit (.bool false)], args := [d] }
  | _ => none }
def FnPolicyFitWrongFalsely : Prop := fnPolicyFitRow.holds Tryd.pinned (OpenSpec.ofChange fnPolicyFitWrong)

/-- 'laws.FnPolicyJoin': WHATEVER THE INPUT: true; the input reads as it did. -/
def fnPolicyJoinSpec : ChangeSpec := { name := "fnPolicyJoin", fn := fun _ => fun
  | [d1, d2] => { results := [.lit (.bool true)], args := [d1, d2] }
  | _ => none }
def fnPolicyJoinRow : OpenClaim := { program := "ytcocagdbkpkkaaadoor", sum := "f3f3f8c64b6965e2e88dcf70b78d35845b7994b038b4f8b87bdd63a4a52eab25", func := "loop.example/gatelodge/laws.FnPolicyJoin", spec := "fnPolicyJoin", inPlace := ["internal/abi.NoEscape"], unfollowed := true, recurses := true, named := ["internal/strconv.uint64pow10", "math/bits.deBruijn32tab", "math/bits.deBruijn64tab"], apart := false, laid := [("math/bits.deBruijn32tab", laid_math_bits_deBruijn32tab), ("math/bits.deBruijn64tab", laid_math_bits_deBruijn64tab), ("internal/strconv.uint64pow10", laid_internal_strconv_uint64pow10)] }
def FnPolicyJoinSaid : Prop := fnPolicyJoinRow.holds Tryd.pinned (OpenSpec.ofChange fnPolicyJoinSpec)

/-- ITS FALSE NEIGHBOUR: 'it returns false'. Refute it at one input. -/
def fnPolicyJoinWrong : ChangeSpec := { name := "fnPolicyJoin", fn := fun _ => fun
  | [d1, d2] => { results := [.lit (.bool false)], args := [d1, d2] }
  | _ => none }
def FnPolicyJoinWrongFalsely : Prop := fnPolicyJoinRow.holds Tryd.pinned (OpenSpec.ofChange fnPolicyJoinWrong)

/- THE SECOND FORM. 'bulk': how many values and letters a reading holds, each counted each time it is reached (what is shared counts as often as it is met; a slice's spare places count too). A statement '..UptoSaid' is the law's where the arguments, and the package variables that the reading takes, are together of bulk at most 1048576: NARROWER than '..Said'. Prove '..Said' where nothing that the law and all that it calls make is longer than what came in: it says more and counts as full. Else prove '..UptoSaid'. A law counts once. -/
mutual
def uptoBulk {H : Type} : DataW H → Nat
  | .lit (.string bytes) => bytes.length + 1
  | .lit _ => 1
  | .nil => 1
  | .ptr d => uptoBulk d + 1
  | .slice elems spare => uptoBulkAll elems + uptoBulkAll spare + 1
  | .agg parts => uptoBulkAll parts + 1
  | .iface _ d => uptoBulk d + 1
  | .map entries => uptoBulkEntries entries + 1
  | .held _ => 1
def uptoBulkAll {H : Type} : List (DataW H) → Nat
  | [] => 0
  | d :: r => uptoBulk d + uptoBulkAll r
def uptoBulkEntries {H : Type} : List (Lit × DataW H) → Nat
  | [] => 0
  | x :: r => uptoBulkEntry x + uptoBulkEntries r
def uptoBulkEntry {H : Type} : Lit × DataW H → Nat
  | (.string bytes, d) => bytes.length + uptoBulk d + 1
  | (_, d) => uptoBulk d + 1
 end
def uptoSmall : (H : Type) → List (DataW H) → Bool := fun _ ds => decide (uptoBulkAll ds ≤ 1048576)
def OpenSpec.upto (s : _root_.Go.ChangeSpec) : _root_.Go.OpenSpec := { _root_.Go.OpenSpec.ofChange s with cond := some uptoSmall }

/-- 'laws.FnExactPolicyOk', WHERE WHAT IT READS IS OF BULK AT MOST 1048576: true; the input reads as it did. -/
def fnExactPolicyOkUptoRow : OpenClaim := { program := "ytcocagdbkpkkaaadoor", sum := "f3f3f8c64b6965e2e88dcf70b78d35845b7994b038b4f8b87bdd63a4a52eab25", func := "loop.example/gatelodge/laws.FnExactPolicyOk", spec := "fnExactPolicyOk", inPlace := ["internal/abi.NoEscape"], recurses := true, named := ["internal/strconv.uint64pow10", "math/bits.deBruijn32tab", "math/bits.deBruijn64tab"], apart := false, laid := [("math/bits.deBruijn32tab", laid_math_bits_deBruijn32tab), ("math/bits.deBruijn64tab", laid_math_bits_deBruijn64tab), ("internal/strconv.uint64pow10", laid_internal_strconv_uint64pow10)], narrowed := true }
def FnExactPolicyOkUptoSaid : Prop := fnExactPolicyOkUptoRow.holds Tryd.pinned (OpenSpec.upto fnExactPolicyOkSpec)

/-- 'laws.FnExactPolicyWrite', WHERE WHAT IT READS IS OF BULK AT MOST 1048576: true; the input reads as it did. -/
def fnExactPolicyWriteUptoRow : OpenClaim := { program := "ytcocagdbkpkkaaadoor", sum := "f3f3f8c64b6965e2e88dcf70b78d35845b7994b038b4f8b87bdd63a4a52eab25", func := "loop.example/gatelodge/laws.FnExactPolicyWrite", spec := "fnExactPolicyWrite", inPlace := ["internal/abi.NoEscape"], recurses := true, named := ["internal/strconv.uint64pow10", "math/bits.deBruijn32tab", "math/bits.deBruijn64tab"], apart := false, laid := [("math/bits.deBruijn32tab", laid_math_bits_deBruijn32tab), ("math/bits.deBruijn64tab", laid_math_bits_deBruijn64tab), ("internal/strconv.uint64pow10", laid_internal_strconv_uint64pow10)], narrowed := true }
def FnExactPolicyWriteUptoSaid : Prop := fnExactPolicyWriteUptoRow.holds Tryd.pinned (OpenSpec.upto fnExactPolicyWriteSpec)

/-- 'laws.FnExactPolicyOf', WHERE WHAT IT READS IS OF BULK AT MOST 1048576: true; the input reads as it did. -/
def fnExactPolicyOfUptoRow : OpenClaim := { program := "ytcocagdbkpkkaaadoor", sum := "f3f3f8c64b6965e2e88dcf70b78d35845b7994b038b4f8b87bdd63a4a52eab25", func := "loop.example/gatelodge/laws.FnExactPolicyOf", spec := "fnExactPolicyOf", inPlace := ["internal/abi.NoEscape"], recurses := true, named := ["internal/strconv.uint64pow10", "math/bits.deBruijn32tab", "math/bits.deBruijn64tab"], apart := false, laid := [("math/bits.deBruijn32tab", laid_math_bits_deBruijn32tab), ("math/bits.deBruijn64tab", laid_math_bits_deBruijn64tab), ("internal/strconv.uint64pow10", laid_internal_strconv_uint64pow10)], narrowed := true }
def FnExactPolicyOfUptoSaid : Prop := fnExactPolicyOfUptoRow.holds Tryd.pinned (OpenSpec.upto fnExactPolicyOfSpec)

/-- 'laws.FnExactPolicyFit', WHERE WHAT IT READS IS OF BULK AT MOST 1048576: true; the input reads as it did. -/
def fnExactPolicyFitUptoRow : OpenClaim := { program := "ytcocagdbkpkkaaadoor", sum := "f3f3f8c64b6965e2e88dcf70b78d35845b7994b038b4f8b87bdd63a4a52eab25", func := "loop.example/gatelodge/laws.FnExactPolicyFit", spec := "fnExactPolicyFit", inPlace := ["internal/abi.NoEscape"], unfollowed := true, recurses := true, named := ["internal/strconv.uint64pow10", "math/bits.deBruijn32tab", "math/bits.deBruijn64tab"], apart := false, laid := [("math/bits.deBruijn32tab", laid_math_bits_deBruijn32tab), ("math/bits.deBruijn64tab", laid_math_bits_deBruijn64tab), ("internal/strconv.uint64pow10", laid_internal_strconv_uint64pow10)], narrowed := true }
def FnExactPolicyFitUptoSaid : Prop := fnExactPolicyFitUptoRow.holds Tryd.pinned (OpenSpec.upto fnExactPolicyFitSpec)

/-- 'laws.FnExactPolicyJoin', WHERE WHAT IT READS IS OF BULK AT MOST 1048576: true; the input reads as it did. -/
def fnExactPolicyJoinUptoRow : OpenClaim := { program := "ytcocagdbkpkkaaadoor", sum := "f3f3f8c64b6965e2e88dcf70b78d35845b7994b038b4f8b87bdd63a4a52eab25", func := "loop.example/gatelodge/laws.FnExactPolicyJoin", spec := "fnExactPolicyJoin", inPlace := ["internal/abi.NoEscape"], recurses := true, named := ["internal/strconv.uint64pow10", "math/bits.deBruijn32tab", "math/bits.deBruijn64tab"], apart := false, laid := [("math/bits.deBruijn32tab", laid_math_bits_deBruijn32tab), ("math/bits.deBruijn64tab", laid_math_bits_deBruijn64tab), ("internal/strconv.uint64pow10", laid_internal_strconv_uint64pow10)], narrowed := true }
def FnExactPolicyJoinUptoSaid : Prop := fnExactPolicyJoinUptoRow.holds Tryd.pinned (OpenSpec.upto fnExactPolicyJoinSpec)

/-- 'laws.FnExactPolicyOnly', WHERE WHAT IT READS IS OF BULK AT MOST 1048576: true; the input reads as it did. -/
def fnExactPolicyOnlyUptoRow : OpenClaim := { program := "ytcocagdbkpkkaaadoor", sum := "f3f3f8c64b6965e2e88dcf70b78d35845b7994b038b4f8b87bdd63a4a52eab25", func := "loop.example/gatelodge/laws.FnExactPolicyOnly", spec := "fnExactPolicyOnly", inPlace := ["internal/abi.NoEscape"], recurses := true, named := ["internal/strconv.uint64pow10", "math/bits.deBruijn32tab", "math/bits.deBruijn64tab"], apart := false, laid := [("math/bits.deBruijn32tab", laid_math_bits_deBruijn32tab), ("math/bits.deBruijn64tab", laid_math_bits_deBruijn64tab), ("internal/strconv.uint64pow10", laid_internal_strconv_uint64pow10)], narrowed := true }
def FnExactPolicyOnlyUptoSaid : Prop := fnExactPolicyOnlyUptoRow.holds Tryd.pinned (OpenSpec.upto fnExactPolicyOnlySpec)

/-- 'laws.FnExactPolicyMap', WHERE WHAT IT READS IS OF BULK AT MOST 1048576: true; the input reads as it did. -/
def fnExactPolicyMapUptoRow : OpenClaim := { program := "ytcocagdbkpkkaaadoor", sum := "f3f3f8c64b6965e2e88dcf70b78d35845b7994b038b4f8b87bdd63a4a52eab25", func := "loop.example/gatelodge/laws.FnExactPolicyMap", spec := "fnExactPolicyMap", inPlace := ["internal/abi.NoEscape"], unfollowed := true, recurses := true, named := ["internal/strconv.uint64pow10", "math/bits.deBruijn32tab", "math/bits.deBruijn64tab"], apart := false, laid := [("math/bits.deBruijn32tab", laid_math_bits_deBruijn32tab), ("math/bits.deBruijn64tab", laid_math_bits_deBruijn64tab), ("internal/strconv.uint64pow10", laid_internal_strconv_uint64pow10)], narrowed := true }
def FnExactPolicyMapUptoSaid : Prop := fnExactPolicyMapUptoRow.holds Tryd.pinned (OpenSpec.upto fnExactPolicyMapSpec)

/-- 'laws.FnPolicyFirst', WHERE WHAT IT READS IS OF BULK AT MOST 1048576: true; the input reads as it did. -/
def fnPolicyFirstUptoRow : OpenClaim := { program := "ytcocagdbkpkkaaadoor", sum := "f3f3f8c64b6965e2e88dcf70b78d35845b7994b038b4f8b87bdd63a4a52eab25", func := "loop.example/gatelodge/laws.FnPolicyFirst", spec := "fnPolicyFirst", inPlace := ["internal/abi.NoEscape"], recurses := true, named := ["internal/strconv.uint64pow10", "math/bits.deBruijn32tab", "math/bits.deBruijn64tab"], apart := false, laid := [("math/bits.deBruijn32tab", laid_math_bits_deBruijn32tab), ("math/bits.deBruijn64tab", laid_math_bits_deBruijn64tab), ("internal/strconv.uint64pow10", laid_internal_strconv_uint64pow10)], narrowed := true }
def FnPolicyFirstUptoSaid : Prop := fnPolicyFirstUptoRow.holds Tryd.pinned (OpenSpec.upto fnPolicyFirstSpec)

/-- 'laws.FnPolicySplit', WHERE WHAT IT READS IS OF BULK AT MOST 1048576: true; the input reads as it did. -/
def fnPolicySplitUptoRow : OpenClaim := { program := "ytcocagdbkpkkaaadoor", sum := "f3f3f8c64b6965e2e88dcf70b78d35845b7994b038b4f8b87bdd63a4a52eab25", func := "loop.example/gatelodge/laws.FnPolicySplit", spec := "fnPolicySplit", inPlace := ["internal/abi.NoEscape"], recurses := true, named := ["internal/strconv.uint64pow10", "math/bits.deBruijn32tab", "math/bits.deBruijn64tab"], apart := false, laid := [("math/bits.deBruijn32tab", laid_math_bits_deBruijn32tab), ("math/bits.deBruijn64tab", laid_math_bits_deBruijn64tab), ("internal/strconv.uint64pow10", laid_internal_strconv_uint64pow10)], narrowed := true }
def FnPolicySplitUptoSaid : Prop := fnPolicySplitUptoRow.holds Tryd.pinned (OpenSpec.upto fnPolicySplitSpec)

/-- 'laws.FnPolicyFit', WHERE WHAT IT READS IS OF BULK AT MOST 1048576: true; the input reads as it did. -/
def fnPolicyFitUptoRow : OpenClaim := { program := "ytcocagdbkpkkaaadoor", sum := "f3f3f8c64b6965e2e88dcf70b78d35845b7994b038b4f8b87bdd63a4a52eab25", func := "loop.example/gatelodge/laws.FnPolicyFit", spec := "fnPolicyFit", inPlace := ["internal/abi.NoEscape"], unfollowed := true, recurses := true, named := ["internal/strconv.uint64pow10", "math/bits.deBruijn32tab", "math/bits.deBruijn64tab"], apart := false, laid := [("math/bits.deBruijn32tab", laid_math_bits_deBruijn32tab), ("math/bits.deBruijn64tab", laid_math_bits_deBruijn64tab), ("internal/strconv.uint64pow10", laid_internal_strconv_uint64pow10)], narrowed := true }
def FnPolicyFitUptoSaid : Prop := fnPolicyFitUptoRow.holds Tryd.pinned (OpenSpec.upto fnPolicyFitSpec)

/-- 'laws.FnPolicyJoin', WHERE WHAT IT READS IS OF BULK AT MOST 1048576: true; the input reads as it did. -/
def fnPolicyJoinUptoRow : OpenClaim := { program := "ytcocagdbkpkkaaadoor", sum := "f3f3f8c64b6965e2e88dcf70b78d35845b7994b038b4f8b87bdd63a4a52eab25", func := "loop.example/gatelodge/laws.FnPolicyJoin", spec := "fnPolicyJoin", inPlace := ["internal/abi.NoEscape"], unfollowed := true, recurses := true, named := ["internal/strconv.uint64pow10", "math/bits.deBruijn32tab", "math/bits.deBruijn64tab"], apart := false, laid := [("math/bits.deBruijn32tab", laid_math_bits_deBruijn32tab), ("math/bits.deBruijn64tab", laid_math_bits_deBruijn64tab), ("internal/strconv.uint64pow10", laid_internal_strconv_uint64pow10)], narrowed := true }
def FnPolicyJoinUptoSaid : Prop := fnPolicyJoinUptoRow.holds Tryd.pinned (OpenSpec.upto fnPolicyJoinSpec)

end Rows
end Go.Proofs.YtcocagdbkpkkaaaDoor
