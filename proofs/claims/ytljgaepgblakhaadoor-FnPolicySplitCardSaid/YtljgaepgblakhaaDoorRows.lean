/-
  NARROWER THAN 'FOR EVERY INPUT', by the rows' own cells (each row's printed sentence says how): FnPolicySplit: laid · FnPolicyOnly: laid · FnPolicyMap: laid · FnPolicyNone: laid · FnPolicyUses: laid · FnPolicyTrim: laid · FnExactPolicyTrim: laid · FnExactPolicyUses: laid · FnExactGraphMake: laid · FnGraphMake: laid · FnCallNear: laid.
  DERIVED. THE GIVEN ROWS OF THIS SEAT. 11 by the template 'for every input the law returns true; each argument reads behind the call as it read before'; 0 by the template 'total and deterministic' (their statements: YtljgaepgblakhaaDoorTotals.lean).
  GIVEN WITH THE SEED: the statements are not yours to turn. If you find one false, say at which input.
  Laid BY PROGRAM, IN A SANDBOX (cutbox-rows.mjs): the forced cells as the released guide's own fill.sh prints them over the translation ee2c3f393d227515… (all of the seat's roots in one cut). By AI agents, Wed Nov 11 2026. No macro, syntax, notation, axiom, sorry.
-/
import Derived.Test.YtljgaepgblakhaaDoorChecked
import GoSem.Claim
import GoSem.ClaimJoined
import GoSem.ClaimMapViews
import Derived.JoinedTies
import Derived.KernelRfl
namespace Go.Proofs.YtljgaepgblakhaaDoor
/- THE CELL 'sum', in the pinned program and in every row, IS THE sha256 OF THE DUMP (.gsa) THAT YtljgaepgblakhaaDoorProg.lean LOADS. Nothing in Lean hashes anything: it is a label: what it is worth is what the hold of that sum in a sandbox is worth. -/
noncomputable def Tryd.pinned : Pinned := { name := "ytljgaepgblakhaadoor", sum := "ee2c3f393d22751556e22259d2ad219bea487b20c305e06c5cc3d60d30f8182c", checked := Tryd.checked }
namespace Rows
def none {H : Type} : Left H := { results := [], args := [] }

/- WHAT THE LISTED PACKAGE-LEVEL VARIABLES READ AS WHEN THE CALL BEGINS. Each datum BY PROGRAM (the guide's laid-datum.mjs) off the statement by which the dump's own 'gosem.cut.vars' lays the variable. In a bare row this is a premise. The card (YtljgaepgblakhaaDoorCards.lean) ties it to the program's text. -/
def laid_math_bits_deBruijn32tab {H : Type} : DataW H := .agg [.lit (.int .u8 0), .lit (.int .u8 1), .lit (.int .u8 28), .lit (.int .u8 2), .lit (.int .u8 29), .lit (.int .u8 14), .lit (.int .u8 24), .lit (.int .u8 3), .lit (.int .u8 30), .lit (.int .u8 22), .lit (.int .u8 20), .lit (.int .u8 15), .lit (.int .u8 25), .lit (.int .u8 17), .lit (.int .u8 4), .lit (.int .u8 8), .lit (.int .u8 31), .lit (.int .u8 27), .lit (.int .u8 13), .lit (.int .u8 23), .lit (.int .u8 21), .lit (.int .u8 19), .lit (.int .u8 16), .lit (.int .u8 7), .lit (.int .u8 26), .lit (.int .u8 12), .lit (.int .u8 18), .lit (.int .u8 6), .lit (.int .u8 11), .lit (.int .u8 5), .lit (.int .u8 10), .lit (.int .u8 9)]
def laid_math_bits_deBruijn64tab {H : Type} : DataW H := .agg [.lit (.int .u8 0), .lit (.int .u8 1), .lit (.int .u8 56), .lit (.int .u8 2), .lit (.int .u8 57), .lit (.int .u8 49), .lit (.int .u8 28), .lit (.int .u8 3), .lit (.int .u8 61), .lit (.int .u8 58), .lit (.int .u8 42), .lit (.int .u8 50), .lit (.int .u8 38), .lit (.int .u8 29), .lit (.int .u8 17), .lit (.int .u8 4), .lit (.int .u8 62), .lit (.int .u8 47), .lit (.int .u8 59), .lit (.int .u8 36), .lit (.int .u8 45), .lit (.int .u8 43), .lit (.int .u8 51), .lit (.int .u8 22), .lit (.int .u8 53), .lit (.int .u8 39), .lit (.int .u8 33), .lit (.int .u8 30), .lit (.int .u8 24), .lit (.int .u8 18), .lit (.int .u8 12), .lit (.int .u8 5), .lit (.int .u8 63), .lit (.int .u8 55), .lit (.int .u8 48), .lit (.int .u8 27), .lit (.int .u8 60), .lit (.int .u8 41), .lit (.int .u8 37), .lit (.int .u8 16), .lit (.int .u8 46), .lit (.int .u8 35), .lit (.int .u8 44), .lit (.int .u8 21), .lit (.int .u8 52), .lit (.int .u8 32), .lit (.int .u8 23), .lit (.int .u8 11), .lit (.int .u8 54), .lit (.int .u8 26), .lit (.int .u8 40), .lit (.int .u8 15), .lit (.int .u8 34), .lit (.int .u8 20), .lit (.int .u8 31), .lit (.int .u8 10), .lit (.int .u8 25), .lit (.int .u8 14), .lit (.int .u8 19), .lit (.int .u8 9), .lit (.int .u8 13), .lit (.int .u8 8), .lit (.int .u8 7), .lit (.int .u8 6)]
def laid_internal_strconv_uint64pow10 {H : Type} : DataW H := .agg [.lit (.int .u64 1), .lit (.int .u64 10), .lit (.int .u64 100), .lit (.int .u64 1000), .lit (.int .u64 10000), .lit (.int .u64 100000), .lit (.int .u64 1000000), .lit (.int .u64 10000000), .lit (.int .u64 100000000), .lit (.int .u64 1000000000), .lit (.int .u64 10000000000), .lit (.int .u64 100000000000), .lit (.int .u64 1000000000000), .lit (.int .u64 10000000000000), .lit (.int .u64 100000000000000), .lit (.int .u64 1000000000000000), .lit (.int .u64 10000000000000000), .lit (.int .u64 100000000000000000), .lit (.int .u64 1000000000000000000), .lit (.int .u64 10000000000000000000)]

/-- 'laws.FnPolicySplit': WHATEVER THE INPUT: true; the input reads as it did. -/
def fnPolicySplitSpec : ChangeSpec := { name := "fnPolicySplit", fn := fun _ => fun
  | [d] => { results := [.lit (.bool true)], args := [d] }
  | _ => none }
def fnPolicySplitRow : OpenClaim := { program := "ytljgaepgblakhaadoor", sum := "ee2c3f393d22751556e22259d2ad219bea487b20c305e06c5cc3d60d30f8182c", func := "loop.example/gatelodge/laws.FnPolicySplit", spec := "fnPolicySplit", inPlace := ["internal/abi.NoEscape"], recurses := true, named := ["internal/strconv.uint64pow10", "math/bits.deBruijn32tab", "math/bits.deBruijn64tab"], plainKeys := false, apart := false, laid := [("math/bits.deBruijn32tab", laid_math_bits_deBruijn32tab), ("math/bits.deBruijn64tab", laid_math_bits_deBruijn64tab), ("internal/strconv.uint64pow10", laid_internal_strconv_uint64pow10)] }
def FnPolicySplitSaid : Prop := fnPolicySplitRow.holds Tryd.pinned (OpenSpec.ofChange fnPolicySplitSpec)

/-- ITS FALSE NEIGHBOUR: 'it returns false'. Refute it at one input. -/
def fnPolicySplitWrong : ChangeSpec := { name := "fnPolicySplit", fn := fun _ => fun
  | [d] => { results := [.lit (.bool false)], args := [d] }
  | _ => none }
def FnPolicySplitWrongFalsely : Prop := fnPolicySplitRow.holds Tryd.pinned (OpenSpec.ofChange fnPolicySplitWrong)

/-- 'laws.FnPolicyOnly': WHATEVER THE INPUT: true; the input reads as it did. -/
def fnPolicyOnlySpec : ChangeSpec := { name := "fnPolicyOnly", fn := fun _ => fun
  | [d1, d2] => { results := [.lit (.bool true)], args := [d1, d2] }
  | _ => none }
def fnPolicyOnlyRow : OpenClaim := { program := "ytljgaepgblakhaadoor", sum := "ee2c3f393d22751556e22259d2ad219bea487b20c305e06c5cc3d60d30f8182c", func := "loop.example/gatelodge/laws.FnPolicyOnly", spec := "fnPolicyOnly", inPlace := ["internal/abi.NoEscape"], recurses := true, named := ["internal/strconv.uint64pow10", "math/bits.deBruijn32tab", "math/bits.deBruijn64tab"], plainKeys := false, apart := false, laid := [("math/bits.deBruijn32tab", laid_math_bits_deBruijn32tab), ("math/bits.deBruijn64tab", laid_math_bits_deBruijn64tab), ("internal/strconv.uint64pow10", laid_internal_strconv_uint64pow10)] }
def FnPolicyOnlySaid : Prop := fnPolicyOnlyRow.holds Tryd.pinned (OpenSpec.ofChange fnPolicyOnlySpec)

/-- ITS FALSE NEIGHBOUR: 'it returns false'. Refute it at one input. -/
def fnPolicyOnlyWrong : ChangeSpec := { name := "fnPolicyOnly", fn := fun _ => fun
  | [d1, d2] => { results := [.lit (.bool false)], args := [d1, d2] }
  | _ => none }
def FnPolicyOnlyWrongFalsely : Prop := fnPolicyOnlyRow.holds Tryd.pinned (OpenSpec.ofChange fnPolicyOnlyWrong)

/-- 'laws.FnPolicyMap': WHATEVER THE INPUT: true; the input reads as it did. -/
def fnPolicyMapSpec : ChangeSpec := { name := "fnPolicyMap", fn := fun _ => fun
  | [d1, d2] => { results := [.lit (.bool true)], args := [d1, d2] }
  | _ => none }
def fnPolicyMapRow : OpenClaim := { program := "ytljgaepgblakhaadoor", sum := "ee2c3f393d22751556e22259d2ad219bea487b20c305e06c5cc3d60d30f8182c", func := "loop.example/gatelodge/laws.FnPolicyMap", spec := "fnPolicyMap", inPlace := ["internal/abi.NoEscape"], unfollowed := true, recurses := true, named := ["internal/strconv.uint64pow10", "math/bits.deBruijn32tab", "math/bits.deBruijn64tab"], plainKeys := false, apart := false, laid := [("math/bits.deBruijn32tab", laid_math_bits_deBruijn32tab), ("math/bits.deBruijn64tab", laid_math_bits_deBruijn64tab), ("internal/strconv.uint64pow10", laid_internal_strconv_uint64pow10)] }
def FnPolicyMapSaid : Prop := fnPolicyMapRow.holds Tryd.pinned (OpenSpec.ofChange fnPolicyMapSpec)

/-- ITS FALSE NEIGHBOUR: 'it returns false'. Refute it at one input. -/
def fnPolicyMapWrong : ChangeSpec := { name := "fnPolicyMap", fn := fun _ => fun
  | [d1, d2] => { results := [.lit (.bool false)], args := [d1, d2] }
  | _ => none }
def FnPolicyMapWrongFalsely : Prop := fnPolicyMapRow.holds Tryd.pinned (OpenSpec.ofChange fnPolicyMapWrong)

/-- 'laws.FnPolicyNone': WHATEVER THE INPUT: true; the input reads as it did. -/
def fnPolicyNoneSpec : ChangeSpec := { name := "fnPolicyNone", fn := fun _ => fun
  | [d1, d2] => { results := [.lit (.bool true)], args := [d1, d2] }
  | _ => none }
def fnPolicyNoneRow : OpenClaim := { program := "ytljgaepgblakhaadoor", sum := "ee2c3f393d22751556e22259d2ad219bea487b20c305e06c5cc3d60d30f8182c", func := "loop.example/gatelodge/laws.FnPolicyNone", spec := "fnPolicyNone", inPlace := ["internal/abi.NoEscape"], unfollowed := true, recurses := true, named := ["internal/strconv.uint64pow10", "math/bits.deBruijn32tab", "math/bits.deBruijn64tab"], plainKeys := false, apart := false, laid := [("math/bits.deBruijn32tab", laid_math_bits_deBruijn32tab), ("math/bits.deBruijn64tab", laid_math_bits_deBruijn64tab), ("internal/strconv.uint64pow10", laid_internal_strconv_uint64pow10)] }
def FnPolicyNoneSaid : Prop := fnPolicyNoneRow.holds Tryd.pinned (OpenSpec.ofChange fnPolicyNoneSpec)

/-- ITS FALSE NEIGHBOUR: 'it returns false'. Refute it at one input. -/
def fnPolicyNoneWrong : ChangeSpec := { name := "fnPolicyNone", fn := fun _ => fun
  | [d1, d2] => { results := [.lit (.bool false)], args := [d1, d2] }
  | _ => none }
def FnPolicyNoneWrongFalsely : Prop := fnPolicyNoneRow.holds Tryd.pinned (OpenSpec.ofChange fnPolicyNoneWrong)

/-- 'laws.FnPolicyUses': WHATEVER THE INPUT: true; the input reads as it did. -/
def fnPolicyUsesSpec : ChangeSpec := { name := "fnPolicyUses", fn := fun _ => fun
  | [d1, d2] => { results := [.lit (.bool true)], args := [d1, d2] }
  | _ => none }
def fnPolicyUsesRow : OpenClaim := { program := "ytljgaepgblakhaadoor", sum := "ee2c3f393d22751556e22259d2ad219bea487b20c305e06c5cc3d60d30f8182c", func := "loop.example/gatelodge/laws.FnPolicyUses", spec := "fnPolicyUses", inPlace := ["internal/abi.NoEscape"], recurses := true, named := ["internal/strconv.uint64pow10", "math/bits.deBruijn32tab", "math/bits.deBruijn64tab"], plainKeys := false, apart := false, laid := [("math/bits.deBruijn32tab", laid_math_bits_deBruijn32tab), ("math/bits.deBruijn64tab", laid_math_bits_deBruijn64tab), ("internal/strconv.uint64pow10", laid_internal_strconv_uint64pow10)] }
def FnPolicyUsesSaid : Prop := fnPolicyUsesRow.holds Tryd.pinned (OpenSpec.ofChange fnPolicyUsesSpec)

/-- ITS FALSE NEIGHBOUR: 'it returns false'. Refute it at one input. -/
def fnPolicyUsesWrong : ChangeSpec := { name := "fnPolicyUses", fn := fun _ => fun
  | [d1, d2] => { results := [.lit (.bool false)], args := [d1, d2] }
  | _ => none }
def FnPolicyUsesWrongFalsely : Prop := fnPolicyUsesRow.holds Tryd.pinned (OpenSpec.ofChange fnPolicyUsesWrong)

/-- 'laws.FnPolicyTrim': WHATEVER THE INPUT: true; the input reads as it did. -/
def fnPolicyTrimSpec : ChangeSpec := { name := "fnPolicyTrim", fn := fun _ => fun
  | [d1, d2] => { results := [.lit (.bool true)], args := [d1, d2] }
  | _ => none }
def fnPolicyTrimRow : OpenClaim := { program := "ytljgaepgblakhaadoor", sum := "ee2c3f393d22751556e22259d2ad219bea487b20c305e06c5cc3d60d30f8182c", func := "loop.example/gatelodge/laws.FnPolicyTrim", spec := "fnPolicyTrim", inPlace := ["internal/abi.NoEscape"], unfollowed := true, recurses := true, named := ["internal/strconv.uint64pow10", "math/bits.deBruijn32tab", "math/bits.deBruijn64tab"], plainKeys := false, apart := false, laid := [("math/bits.deBruijn32tab", laid_math_bits_deBruijn32tab), ("math/bits.deBruijn64tab", laid_math_bits_deBruijn64tab), ("internal/strconv.uint64pow10", laid_internal_strconv_uint64pow10)] }
def FnPolicyTrimSaid : Prop := fnPolicyTrimRow.holds Tryd.pinned (OpenSpec.ofChange fnPolicyTrimSpec)

/-- ITS FALSE NEIGHBOUR: 'it returns false'. Refute it at one input. -/
def fnPolicyTrimWrong : ChangeSpec := { name := "fnPolicyTrim", fn := fun _ => fun
  | [d1, d2] => { results := [.lit (.bool false)], args := [d1, d2] }
  | _ => none }
def FnPolicyTrimWrongFalsely : Prop := fnPolicyTrimRow.holds Tryd.pinned (OpenSpec.ofChange fnPolicyTrimWrong)

/-- 'laws.FnExactPolicyTrim': WHATEVER THE INPUT: true; the input reads as it did. -/
def fnExactPolicyTrimSpec : ChangeSpec := { name := "fnExactPolicyTrim", fn := fun _ => fun
  | [d] => { results := [.lit (.bool true)], args := [d] }
  | _ => none }
def fnExactPolicyTrimRow : OpenClaim := { program := "ytljgaepgblakhaadoor", sum := "ee2c3f393d22751556e22259d2ad219bea487b20c305e06c5cc3d60d30f8182c", func := "loop.example/gatelodge/laws.FnExactPolicyTrim", spec := "fnExactPolicyTrim", inPlace := ["internal/abi.NoEscape"], unfollowed := true, recurses := true, named := ["internal/strconv.uint64pow10", "math/bits.deBruijn32tab", "math/bits.deBruijn64tab"], plainKeys := false, apart := false, laid := [("math/bits.deBruijn32tab", laid_math_bits_deBruijn32tab), ("math/bits.deBruijn64tab", laid_math_bits_deBruijn64tab), ("internal/strconv.uint64pow10", laid_internal_strconv_uint64pow10)] }
def FnExactPolicyTrimSaid : Prop := fnExactPolicyTrimRow.holds Tryd.pinned (OpenSpec.ofChange fnExactPolicyTrimSpec)

/-- ITS FALSE NEIGHBOUR: 'it returns false'. Refute it at one input. -/
def fnExactPolicyTrimWrong : ChangeSpec := { name := "fnExactPolicyTrim", fn := fun _ => fun
  | [d] => { results := [.lit (.bool false)], args := [d] }
  | _ => none }
def FnExactPolicyTrimWrongFalsely : Prop := fnExactPolicyTrimRow.holds Tryd.pinned (OpenSpec.ofChange fnExactPolicyTrimWrong)

/-- 'laws.FnExactPolicyUses': WHATEVER THE INPUT: true; the input reads as it did. -/
def fnExactPolicyUsesSpec : ChangeSpec := { name := "fnExactPolicyUses", fn := fun _ => fun
  | [d] => { results := [.lit (.bool true)], args := [d] }
  | _ => none }
def fnExactPolicyUsesRow : OpenClaim := { program := "ytljgaepgblakhaadoor", sum := "ee2c3f393d22751556e22259d2ad219bea487b20c305e06c5cc3d60d30f8182c", func := "loop.example/gatelodge/laws.FnExactPolicyUses", spec := "fnExactPolicyUses", inPlace := ["internal/abi.NoEscape"], recurses := true, named := ["internal/strconv.uint64pow10", "math/bits.deBruijn32tab", "math/bits.deBruijn64tab"], plainKeys := false, apart := false, laid := [("math/bits.deBruijn32tab", laid_math_bits_deBruijn32tab), ("math/bits.deBruijn64tab", laid_math_bits_deBruijn64tab), ("internal/strconv.uint64pow10", laid_internal_strconv_uint64pow10)] }
def FnExactPolicyUsesSaid : Prop := fnExactPolicyUsesRow.holds Tryd.pinned (OpenSpec.ofChange fnExactPolicyUsesSpec)

/-- ITS FALSE NEIGHBOUR: 'it returns false'. Refute it at one input. -/
def fnExactPolicyUsesWrong : ChangeSpec := { name := "fnExactPolicyUses", fn := fun _ => fun
  | [d] => { results := [.lit (.bool false)], args := [d] }
  | _ => none }
def FnExactPolicyUsesWrongFalsely : Prop := fnExactPolicyUsesRow.holds Tryd.pinned (OpenSpec.ofChange fnExactPolicyUsesWrong)

/-- 'laws.FnExactGraphMake': WHATEVER THE INPUT: true; the input reads as it did. -/
def fnExactGraphMakeSpec : ChangeSpec := { name := "fnExactGraphMake", fn := fun _ => fun
  | [d] => { results := [.lit (.bool true)], args := [d] }
  | _ => none }
def fnExactGraphMakeRow : OpenClaim := { program := "ytljgaepgblakhaadoor", sum := "ee2c3f393d22751556e22259d2ad219bea487b20c305e06c5cc3d60d30f8182c", func := "loop.example/gatelodge/laws.FnExactGraphMake", spec := "fnExactGraphMake", inPlace := ["internal/abi.NoEscape"], recurses := true, named := ["internal/strconv.uint64pow10", "math/bits.deBruijn32tab", "math/bits.deBruijn64tab"], plainKeys := false, apart := false, laid := [("math/bits.deBruijn32tab", laid_math_bits_deBruijn32tab), ("math/bits.deBruijn64tab", laid_math_bits_deBruijn64tab), ("internal/strconv.uint64pow10", laid_internal_strconv_uint64pow10)] }
def FnExactGraphMakeSaid : Prop := fnExactGraphMakeRow.holds Tryd.pinned (OpenSpec.ofChange fnExactGraphMakeSpec)

/-- ITS FALSE NEIGHBOUR: 'it returns false'. Refute it at one input. -/
def fnExactGraphMakeWrong : ChangeSpec := { name := "fnExactGraphMake", fn := fun _ => fun
  | [d] => { results := [.lit (.bool false)], args := [d] }
  | _ => none }
def FnExactGraphMakeWrongFalsely : Prop := fnExactGraphMakeRow.holds Tryd.pinned (OpenSpec.ofChange fnExactGraphMakeWrong)

/-- 'laws.FnGraphMake': WHATEVER THE INPUT: true; the input reads as it did. -/
def fnGraphMakeSpec : ChangeSpec := { name := "fnGraphMake", fn := fun _ => fun
  | [d1, d2] => { results := [.lit (.bool true)], args := [d1, d2] }
  | _ => none }
def fnGraphMakeRow : OpenClaim := { program := "ytljgaepgblakhaadoor", sum := "ee2c3f393d22751556e22259d2ad219bea487b20c305e06c5cc3d60d30f8182c", func := "loop.example/gatelodge/laws.FnGraphMake", spec := "fnGraphMake", inPlace := ["internal/abi.NoEscape"], recurses := true, named := ["internal/strconv.uint64pow10", "math/bits.deBruijn32tab", "math/bits.deBruijn64tab"], plainKeys := false, apart := false, laid := [("math/bits.deBruijn32tab", laid_math_bits_deBruijn32tab), ("math/bits.deBruijn64tab", laid_math_bits_deBruijn64tab), ("internal/strconv.uint64pow10", laid_internal_strconv_uint64pow10)] }
def FnGraphMakeSaid : Prop := fnGraphMakeRow.holds Tryd.pinned (OpenSpec.ofChange fnGraphMakeSpec)

/-- ITS FALSE NEIGHBOUR: 'it returns false'. Refute it at one input. -/
def fnGraphMakeWrong : ChangeSpec := { name := "fnGraphMake", fn := fun _ => fun
  | [d1, d2] => { results := [.lit (.bool false)], args := [d1, d2] }
  | _ => none }
def FnGraphMakeWrongFalsely : Prop := fnGraphMakeRow.holds Tryd.pinned (OpenSpec.ofChange fnGraphMakeWrong)

/-- 'laws.FnCallNear': WHATEVER THE INPUT: true; the input reads as it did. -/
def fnCallNearSpec : ChangeSpec := { name := "fnCallNear", fn := fun _ => fun
  | [d] => { results := [.lit (.bool true)], args := [d] }
  | _ => none }
def fnCallNearRow : OpenClaim := { program := "ytljgaepgblakhaadoor", sum := "ee2c3f393d22751556e22259d2ad219bea487b20c305e06c5cc3d60d30f8182c", func := "loop.example/gatelodge/laws.FnCallNear", spec := "fnCallNear", inPlace := ["internal/abi.NoEscape"], unfollowed := true, recurses := true, named := ["internal/strconv.uint64pow10", "math/bits.deBruijn32tab", "math/bits.deBruijn64tab"], plainKeys := false, apart := false, laid := [("math/bits.deBruijn32tab", laid_math_bits_deBruijn32tab), ("math/bits.deBruijn64tab", laid_math_bits_deBruijn64tab), ("internal/strconv.uint64pow10", laid_internal_strconv_uint64pow10)] }
def FnCallNearSaid : Prop := fnCallNearRow.holds Tryd.pinned (OpenSpec.ofChange fnCallNearSpec)

/-- ITS FALSE NEIGHBOUR: 'it returns false'. Refute it at one input. -/
def fnCallNearWrong : ChangeSpec := { name := "fnCallNear", fn := fun _ => fun
  | [d] => { results := [.lit (.bool false)], args := [d] }
  | _ => none }
def FnCallNearWrongFalsely : Prop := fnCallNearRow.holds Tryd.pinned (OpenSpec.ofChange fnCallNearWrong)

/- THE SECOND FORM. 'bulk': how many values and letters a reading holds, each counted each time it is reached (what is shared counts as often as it is met; a slice's spare places count too). A statement '..UptoSaid' is the law's where the arguments, and the package variables that the reading takes, are together of bulk at most 1048576: NARROWER than '..Said'. Prove '..Said' where nothing that the law and all that it calls make is longer than what came in: it says more and counts as full. Else prove '..UptoSaid'. A law counts once. -/
mutual
def uptoBulk {H : Type} : DataW H → Nat
  | .lit (.string bytes) => bytes.length + 1
  | .lit _ => 1
  | .nil => 1
  | .ptr d => uptoBulk d + 1
  | .slice elems spare => uptoBulkAll elems + uptoBulkAll spare + 1
  | .agg parts => uptoBulkAll parts + 1
  | .iface _ d => uptoBulk d + 1
  | .map entries => uptoBulkEntries entries + 1
  | .held _ => 1
def uptoBulkAll {H : Type} : List (DataW H) → Nat
  | [] => 0
  | d :: r => uptoBulk d + uptoBulkAll r
def uptoBulkEntries {H : Type} : List (Lit × DataW H) → Nat
  | [] => 0
  | x :: r => uptoBulkEntry x + uptoBulkEntries r
def uptoBulkEntry {H : Type} : Lit × DataW H → Nat
  | (.string bytes, d) => bytes.length + uptoBulk d + 1
  | (_, d) => uptoBulk d + 1
 end
def uptoSmall : (H : Type) → List (DataW H) → Bool := fun _ ds => decide (uptoBulkAll ds ≤ 1048576)
def OpenSpec.upto (s : _root_.Go.ChangeSpec) : _root_.Go.OpenSpec := { _root_.Go.OpenSpec.ofChange s with cond := some uptoSmall }

/-- 'laws.FnPolicySplit', WHERE WHAT IT READS IS OF BULK AT MOST 1048576: true; the input reads as it did. -/
def fnPolicySplitUptoRow : OpenClaim := { program := "ytljgaepgblakhaadoor", sum := "ee2c3f393d22751556e22259d2ad219bea487b20c305e06c5cc3d60d30f8182c", func := "loop.example/gatelodge/laws.FnPolicySplit", spec := "fnPolicySplit", inPlace := ["internal/abi.NoEscape"], recurses := true, named := ["internal/strconv.uint64pow10", "math/bits.deBruijn32tab", "math/bits.deBruijn64tab"], plainKeys := false, apart := false, laid := [("math/bits.deBruijn32tab", laid_math_bits_deBruijn32tab), ("math/bits.deBruijn64tab", laid_math_bits_deBruijn64tab), ("internal/strconv.uint64pow10", laid_internal_strconv_uint64pow10)], narrowed := true }
def FnPolicySplitUptoSaid : Prop := fnPolicySplitUptoRow.holds Tryd.pinned (OpenSpec.upto fnPolicySplitSpec)

/-- 'laws.FnPolicyOnly', WHERE WHAT IT READS IS OF BULK AT MOST 1048576: true; the input reads as it did. -/
def fnPolicyOnlyUptoRow : OpenClaim := { program := "ytljgaepgblakhaadoor", sum := "ee2c3f393d22751556e22259d2ad219bea487b20c305e06c5cc3d60d30f8182c", func := "loop.example/gatelodge/laws.FnPolicyOnly", spec := "fnPolicyOnly", inPlace := ["internal/abi.NoEscape"], recurses := true, named := ["internal/strconv.uint64pow10", "math/bits.deBruijn32tab", "math/bits.deBruijn64tab"], plainKeys := false, apart := false, laid := [("math/bits.deBruijn32tab", laid_math_bits_deBruijn32tab), ("math/bits.deBruijn64tab", laid_math_bits_deBruijn64tab), ("internal/strconv.uint64pow10", laid_internal_strconv_uint64pow10)], narrowed := true }
def FnPolicyOnlyUptoSaid : Prop := fnPolicyOnlyUptoRow.holds Tryd.pinned (OpenSpec.upto fnPolicyOnlySpec)

/-- 'laws.FnPolicyMap', WHERE WHAT IT READS IS OF BULK AT MOST 1048576: true; the input reads as it did. -/
def fnPolicyMapUptoRow : OpenClaim := { program := "ytljgaepgblakhaadoor", sum := "ee2c3f393d22751556e22259d2ad219bea487b20c305e06c5cc3d60d30f8182c", func := "loop.example/gatelodge/laws.FnPolicyMap", spec := "fnPolicyMap", inPlace := ["internal/abi.NoEscape"], unfollowed := true, recurses := true, named := ["internal/strconv.uint64pow10", "math/bits.deBruijn32tab", "math/bits.deBruijn64tab"], plainKeys := false, apart := false, laid := [("math/bits.deBruijn32tab", laid_math_bits_deBruijn32tab), ("math/bits.deBruijn64tab", laid_math_bits_deBruijn64tab), ("internal/strconv.uint64pow10", laid_internal_strconv_uint64pow10)], narrowed := true }
def FnPolicyMapUptoSaid : Prop := fnPolicyMapUptoRow.holds Tryd.pinned (OpenSpec.upto fnPolicyMapSpec)

/-- 'laws.FnPolicyNone', WHERE WHAT IT READS IS OF BULK AT MOST 1048576: true; the input reads as it did. -/
def fnPolicyNoneUptoRow : OpenClaim := { program := "ytljgaepgblakhaadoor", sum := "ee2c3f393d22751556e22259d2ad219bea487b20c305e06c5cc3d60d30f8182c", func := "loop.example/gatelodge/laws.FnPolicyNone", spec := "fnPolicyNone", inPlace := ["internal/abi.NoEscape"], unfollowed := true, recurses := true, named := ["internal/strconv.uint64pow10", "math/bits.deBruijn32tab", "math/bits.deBruijn64tab"], plainKeys := false, apart := false, laid := [("math/bits.deBruijn32tab", laid_math_bits_deBruijn32tab), ("math/bits.deBruijn64tab", laid_math_bits_deBruijn64tab), ("internal/strconv.uint64pow10", laid_internal_strconv_uint64pow10)], narrowed := true }
def FnPolicyNoneUptoSaid : Prop := fnPolicyNoneUptoRow.holds Tryd.pinned (OpenSpec.upto fnPolicyNoneSpec)

/-- 'laws.FnPolicyUses', WHERE WHAT IT READS IS OF BULK AT MOST 1048576: true; the input reads as it did. -/
def fnPolicyUsesUptoRow : OpenClaim := { program := "ytljgaepgblakhaadoor", sum := "ee2c3f393d22751556e22259d2ad219bea487b20c305e06c5cc3d60d30f8182c", func := "loop.example/gatelodge/laws.FnPolicyUses", spec := "fnPolicyUses", inPlace := ["internal/abi.NoEscape"], recurses := true, named := ["internal/strconv.uint64pow10", "math/bits.deBruijn32tab", "math/bits.deBruijn64tab"], plainKeys := false, apart := false, laid := [("math/bits.deBruijn32tab", laid_math_bits_deBruijn32tab), ("math/bits.deBruijn64tab", laid_math_bits_deBruijn64tab), ("internal/strconv.uint64pow10", laid_internal_strconv_uint64pow10)], narrowed := true }
def FnPolicyUsesUptoSaid : Prop := fnPolicyUsesUptoRow.holds Tryd.pinned (OpenSpec.upto fnPolicyUsesSpec)

/-- 'laws.FnPolicyTrim', WHERE WHAT IT READS IS OF BULK AT MOST 1048576: true; the input reads as it did. -/
def fnPolicyTrimUptoRow : OpenClaim := { program := "ytljgaepgblakhaadoor", sum := "ee2c3f393d22751556e22259d2ad219bea487b20c305e06c5cc3d60d30f8182c", func := "loop.example/gatelodge/laws.FnPolicyTrim", spec := "fnPolicyTrim", inPlace := ["internal/abi.NoEscape"], unfollowed := true, recurses := true, named := ["internal/strconv.uint64pow10", "math/bits.deBruijn32tab", "math/bits.deBruijn64tab"], plainKeys := false, apart := false, laid := [("math/bits.deBruijn32tab", laid_math_bits_deBruijn32tab), ("math/bits.deBruijn64tab", laid_math_bits_deBruijn64tab), ("internal/strconv.uint64pow10", laid_internal_strconv_uint64pow10)], narrowed := true }
def FnPolicyTrimUptoSaid : Prop := fnPolicyTrimUptoRow.holds Tryd.pinned (OpenSpec.upto fnPolicyTrimSpec)

/-- 'laws.FnExactPolicyTrim', WHERE WHAT IT READS IS OF BULK AT MOST 1048576: true; the input reads as it did. -/
def fnExactPolicyTrimUptoRow : OpenClaim := { program := "ytljgaepgblakhaadoor", sum := "ee2c3f393d22751556e22259d2ad219bea487b20c305e06c5cc3d60d30f8182c", func := "loop.example/gatelodge/laws.FnExactPolicyTrim", spec := "fnExactPolicyTrim", inPlace := ["internal/abi.NoEscape"], unfollowed := true, recurses := true, named := ["internal/strconv.uint64pow10", "math/bits.deBruijn32tab", "math/bits.deBruijn64tab"], plainKeys := false, apart := false, laid := [("math/bits.deBruijn32tab", laid_math_bits_deBruijn32tab), ("math/bits.deBruijn64tab", laid_math_bits_deBruijn64tab), ("internal/strconv.uint64pow10", laid_internal_strconv_uint64pow10)], narrowed := true }
def FnExactPolicyTrimUptoSaid : Prop := fnExactPolicyTrimUptoRow.holds Tryd.pinned (OpenSpec.upto fnExactPolicyTrimSpec)

/-- 'laws.FnExactPolicyUses', WHERE WHAT IT READS IS OF BULK AT MOST 1048576: true; the input reads as it did. -/
def fnExactPolicyUsesUptoRow : OpenClaim := { program := "ytljgaepgblakhaadoor", sum := "ee2c3f393d22751556e22259d2ad219bea487b20c305e06c5cc3d60d30f8182c", func := "loop.example/gatelodge/laws.FnExactPolicyUses", spec := "fnExactPolicyUses", inPlace := ["internal/abi.NoEscape"], recurses := true, named := ["internal/strconv.uint64pow10", "math/bits.deBruijn32tab", "math/bits.deBruijn64tab"], plainKeys := false, apart := false, laid := [("math/bits.deBruijn32tab", laid_math_bits_deBruijn32tab), ("math/bits.deBruijn64tab", laid_math_bits_deBruijn64tab), ("internal/strconv.uint64pow10", laid_internal_strconv_uint64pow10)], narrowed := true }
def FnExactPolicyUsesUptoSaid : Prop := fnExactPolicyUsesUptoRow.holds Tryd.pinned (OpenSpec.upto fnExactPolicyUsesSpec)

/-- 'laws.FnExactGraphMake', WHERE WHAT IT READS IS OF BULK AT MOST 1048576: true; the input reads as it did. -/
def fnExactGraphMakeUptoRow : OpenClaim := { program := "ytljgaepgblakhaadoor", sum := "ee2c3f393d22751556e22259d2ad219bea487b20c305e06c5cc3d60d30f8182c", func := "loop.example/gatelodge/laws.FnExactGraphMake", spec := "fnExactGraphMake", inPlace := ["internal/abi.NoEscape"], recurses := true, named := ["internal/strconv.uint64pow10", "math/bits.deBruijn32tab", "math/bits.deBruijn64tab"], plainKeys := false, apart := false, laid := [("math/bits.deBruijn32tab", laid_math_bits_deBruijn32tab), ("math/bits.deBruijn64tab", laid_math_bits_deBruijn64tab), ("internal/strconv.uint64pow10", laid_internal_strconv_uint64pow10)], narrowed := true }
def FnExactGraphMakeUptoSaid : Prop := fnExactGraphMakeUptoRow.holds Tryd.pinned (OpenSpec.upto fnExactGraphMakeSpec)

/-- 'laws.FnGraphMake', WHERE WHAT IT READS IS OF BULK AT MOST 1048576: true; the input reads as it did. -/
def fnGraphMakeUptoRow : OpenClaim := { program := "ytljgaepgblakhaadoor", sum := "ee2c3f393d22751556e22259d2ad219bea487b20c305e06c5cc3d60d30f8182c", func := "loop.example/gatelodge/laws.FnGraphMake", spec := "fnGraphMake", inPlace := ["internal/abi.NoEscape"], recurses := true, named := ["internal/strconv.uint64pow10", "math/bits.deBruijn32tab", "math/bits.deBruijn64tab"], plainKeys := false, apart := false, laid := [("math/bits.deBruijn32tab", laid_math_bits_deBruijn32tab), ("math/bits.deBruijn64tab", laid_math_bits_deBruijn64tab), ("internal/strconv.uint64pow10", laid_internal_strconv_uint64pow10)], narrowed := true }
def FnGraphMakeUptoSaid : Prop := fnGraphMakeUptoRow.holds Tryd.pinned (OpenSpec.upto fnGraphMakeSpec)

/-- 'laws.FnCallNear', WHERE WHAT IT READS IS OF BULK AT MOST 1048576: true; the input reads as it did. -/
def fnCallNearUptoRow : OpenClaim := { program := "ytljgaepgblakhaadoor", sum := "ee2c3f393d22751556e22259d2ad219bea487b20c305e06c5cc3d60d30f8182c", func := "loop.example/gatelodge/laws.FnCallNear", spec := "fnCallNear", inPlace := ["internal/abi.NoEscape"], unfollowed := true, recurses := true, named := ["internal/strconv.uint64pow10", "math/bits.deBruijn32tab", "math/bits.deBruijn64tab"], plainKeys := false, apart := false, laid := [("math/bits.deBruijn32tab", laid_math_bits_deBruijn32tab), ("math/bits.deBruijn64tab", laid_math_bits_deBruijn64tab), ("internal/strconv.uint64pow10", laid_internal_strconv_uint64pow10)], narrowed := true }
def FnCallNearUptoSaid : Prop := fnCallNearUptoRow.holds Tryd.pinned (OpenSpec.upto fnCallNearSpec)

end Rows
end Go.Proofs.YtljgaepgblakhaaDoor
