/-
  No cell of these rows narrows 'for every input' (looked for: loops, veiled, ifaces, maps, wideKeys, modest, calm, conditions, laid).
  DERIVED. THE GIVEN ROWS OF THIS SEAT. 9 by the template 'for every input the law returns true; each argument reads behind the call as it read before'; 0 by the template 'total and deterministic' (their statements: YtbijlencoilchaaTotals.lean).
  GIVEN WITH THE SEED: the statements are not yours to turn. If you find one false, say at which input.
  Laid BY PROGRAM, IN A SANDBOX (cutbox-rows.mjs): the forced cells as the released guide's own fill.sh prints them over the translation 9ea239832b636908… (all of the seat's roots in one cut). By AI agents, Wed Nov 11 2026. No macro, syntax, notation, axiom, sorry.
-/
import Derived.Test.YtbijlencoilchaaChecked
import GoSem.Claim
import GoSem.ClaimJoined
import GoSem.ClaimMapViews
import Derived.JoinedTies
import Derived.KernelRfl
namespace Go.Proofs.Ytbijlencoilchaa
/- THE CELL 'sum', in the pinned program and in every row, IS THE sha256 OF THE DUMP (.gsa) THAT YtbijlencoilchaaProg.lean LOADS. Nothing in Lean hashes anything: it is a label: what it is worth is what the hold of that sum in a sandbox is worth. -/
noncomputable def Try.pinned : Pinned := { name := "ytbijlencoilchaa", sum := "9ea239832b6369084ff3a6a94eacfb95532952742a307b2ff9129d5196fbdc86", checked := Try.checked }
namespace Rows
def none {H : Type} : Left H := { results := [], args := [] }

/-- 'laws.FnExactConstants': WHATEVER THE INPUT: true; the input reads as it did. -/
def fnExactConstantsSpec : ChangeSpec := { name := "fnExactConstants", fn := fun _ => fun
  | [] => { results := [.lit (.bool true)], args := [] }
  | _ => none }
def fnExactConstantsRow : OpenClaim := { program := "ytbijlencoilchaa", sum := "9ea239832b6369084ff3a6a94eacfb95532952742a307b2ff9129d5196fbdc86", func := "loop.example/gatelodge/laws.FnExactConstants", spec := "fnExactConstants", plainKeys := false, apart := false }
def FnExactConstantsSaid : Prop := fnExactConstantsRow.holds Try.pinned (OpenSpec.ofChange fnExactConstantsSpec)

/-- ITS FALSE NEIGHBOUR: 'it returns false'. Refute it at one input. -/
def fnExactConstantsWrong : ChangeSpec := { name := "fnExactConstants", fn := fun _ => fun
  | [] => { results := [.lit (.bool false)], args := [] }
  | _ => none }
def FnExactConstantsWrongFalsely : Prop := fnExactConstantsRow.holds Try.pinned (OpenSpec.ofChange fnExactConstantsWrong)

/-- 'laws.FnExactGateNew': WHATEVER THE INPUT: true; the input reads as it did. -/
def fnExactGateNewSpec : ChangeSpec := { name := "fnExactGateNew", fn := fun _ => fun
  | [d] => { results := [.lit (.bool true)], args := [d] }
  | _ => none }
def fnExactGateNewRow : OpenClaim := { program := "ytbijlencoilchaa", sum := "9ea239832b6369084ff3a6a94eacfb95532952742a307b2ff9129d5196fbdc86", func := "loop.example/gatelodge/laws.FnExactGateNew", spec := "fnExactGateNew", plainKeys := false, apart := false }
def FnExactGateNewSaid : Prop := fnExactGateNewRow.holds Try.pinned (OpenSpec.ofChange fnExactGateNewSpec)

/-- ITS FALSE NEIGHBOUR: 'it returns false'. Refute it at one input. -/
def fnExactGateNewWrong : ChangeSpec := { name := "fnExactGateNew", fn := fun _ => fun
  | [d] => { results := [.lit (.bool false)], args := [d] }
  | _ => none }
def FnExactGateNewWrongFalsely : Prop := fnExactGateNewRow.holds Try.pinned (OpenSpec.ofChange fnExactGateNewWrong)

/-- 'laws.FnExactCallOk': WHATEVER THE INPUT: true; the input reads as it did. -/
def fnExactCallOkSpec : ChangeSpec := { name := "fnExactCallOk", fn := fun _ => fun
  | [d] => { results := [.lit (.bool true)], args := [d] }
  | _ => none }
def fnExactCallOkRow : OpenClaim := { program := "ytbijlencoilchaa", sum := "9ea239832b6369084ff3a6a94eacfb95532952742a307b2ff9129d5196fbdc86", func := "loop.example/gatelodge/laws.FnExactCallOk", spec := "fnExactCallOk", plainKeys := false, apart := false }
def FnExactCallOkSaid : Prop := fnExactCallOkRow.holds Try.pinned (OpenSpec.ofChange fnExactCallOkSpec)

/-- ITS FALSE NEIGHBOUR: 'it returns false'. Refute it at one input. -/
def fnExactCallOkWrong : ChangeSpec := { name := "fnExactCallOk", fn := fun _ => fun
  | [d] => { results := [.lit (.bool false)], args := [d] }
  | _ => none }
def FnExactCallOkWrongFalsely : Prop := fnExactCallOkRow.holds Try.pinned (OpenSpec.ofChange fnExactCallOkWrong)

/-- 'laws.FnExactGraphOk': WHATEVER THE INPUT: true; the input reads as it did. -/
def fnExactGraphOkSpec : ChangeSpec := { name := "fnExactGraphOk", fn := fun _ => fun
  | [d] => { results := [.lit (.bool true)], args := [d] }
  | _ => none }
def fnExactGraphOkRow : OpenClaim := { program := "ytbijlencoilchaa", sum := "9ea239832b6369084ff3a6a94eacfb95532952742a307b2ff9129d5196fbdc86", func := "loop.example/gatelodge/laws.FnExactGraphOk", spec := "fnExactGraphOk", plainKeys := false, apart := false }
def FnExactGraphOkSaid : Prop := fnExactGraphOkRow.holds Try.pinned (OpenSpec.ofChange fnExactGraphOkSpec)

/-- ITS FALSE NEIGHBOUR: 'it returns false'. Refute it at one input. -/
def fnExactGraphOkWrong : ChangeSpec := { name := "fnExactGraphOk", fn := fun _ => fun
  | [d] => { results := [.lit (.bool false)], args := [d] }
  | _ => none }
def FnExactGraphOkWrongFalsely : Prop := fnExactGraphOkRow.holds Try.pinned (OpenSpec.ofChange fnExactGraphOkWrong)

/-- 'laws.FnExactTestHolds': WHATEVER THE INPUT: true; the input reads as it did. -/
def fnExactTestHoldsSpec : ChangeSpec := { name := "fnExactTestHolds", fn := fun _ => fun
  | [d1, d2] => { results := [.lit (.bool true)], args := [d1, d2] }
  | _ => none }
def fnExactTestHoldsRow : OpenClaim := { program := "ytbijlencoilchaa", sum := "9ea239832b6369084ff3a6a94eacfb95532952742a307b2ff9129d5196fbdc86", func := "loop.example/gatelodge/laws.FnExactTestHolds", spec := "fnExactTestHolds", plainKeys := false, apart := false }
def FnExactTestHoldsSaid : Prop := fnExactTestHoldsRow.holds Try.pinned (OpenSpec.ofChange fnExactTestHoldsSpec)

/-- ITS FALSE NEIGHBOUR: 'it returns false'. Refute it at one input. -/
def fnExactTestHoldsWrong : ChangeSpec := { name := "fnExactTestHolds", fn := fun _ => fun
  | [d1, d2] => { results := [.lit (.bool false)], args := [d1, d2] }
  | _ => none }
def FnExactTestHoldsWrongFalsely : Prop := fnExactTestHoldsRow.holds Try.pinned (OpenSpec.ofChange fnExactTestHoldsWrong)

/-- 'laws.FnTestHolds': WHATEVER THE INPUT: true; the input reads as it did. -/
def fnTestHoldsSpec : ChangeSpec := { name := "fnTestHolds", fn := fun _ => fun
  | [d1, d2] => { results := [.lit (.bool true)], args := [d1, d2] }
  | _ => none }
def fnTestHoldsRow : OpenClaim := { program := "ytbijlencoilchaa", sum := "9ea239832b6369084ff3a6a94eacfb95532952742a307b2ff9129d5196fbdc86", func := "loop.example/gatelodge/laws.FnTestHolds", spec := "fnTestHolds", plainKeys := false, apart := false }
def FnTestHoldsSaid : Prop := fnTestHoldsRow.holds Try.pinned (OpenSpec.ofChange fnTestHoldsSpec)

/-- ITS FALSE NEIGHBOUR: 'it returns false'. Refute it at one input. -/
def fnTestHoldsWrong : ChangeSpec := { name := "fnTestHolds", fn := fun _ => fun
  | [d1, d2] => { results := [.lit (.bool false)], args := [d1, d2] }
  | _ => none }
def FnTestHoldsWrongFalsely : Prop := fnTestHoldsRow.holds Try.pinned (OpenSpec.ofChange fnTestHoldsWrong)

/-- 'laws.FnExactGraphRun': WHATEVER THE INPUT: true; the input reads as it did. -/
def fnExactGraphRunSpec : ChangeSpec := { name := "fnExactGraphRun", fn := fun _ => fun
  | [d1, d2] => { results := [.lit (.bool true)], args := [d1, d2] }
  | _ => none }
def fnExactGraphRunRow : OpenClaim := { program := "ytbijlencoilchaa", sum := "9ea239832b6369084ff3a6a94eacfb95532952742a307b2ff9129d5196fbdc86", func := "loop.example/gatelodge/laws.FnExactGraphRun", spec := "fnExactGraphRun", plainKeys := false, apart := false }
def FnExactGraphRunSaid : Prop := fnExactGraphRunRow.holds Try.pinned (OpenSpec.ofChange fnExactGraphRunSpec)

/-- ITS FALSE NEIGHBOUR: 'it returns false'. Refute it at one input. -/
def fnExactGraphRunWrong : ChangeSpec := { name := "fnExactGraphRun", fn := fun _ => fun
  | [d1, d2] => { results := [.lit (.bool false)], args := [d1, d2] }
  | _ => none }
def FnExactGraphRunWrongFalsely : Prop := fnExactGraphRunRow.holds Try.pinned (OpenSpec.ofChange fnExactGraphRunWrong)

/-- 'laws.FnExactGraphTrim': WHATEVER THE INPUT: true; the input reads as it did. -/
def fnExactGraphTrimSpec : ChangeSpec := { name := "fnExactGraphTrim", fn := fun _ => fun
  | [d] => { results := [.lit (.bool true)], args := [d] }
  | _ => none }
def fnExactGraphTrimRow : OpenClaim := { program := "ytbijlencoilchaa", sum := "9ea239832b6369084ff3a6a94eacfb95532952742a307b2ff9129d5196fbdc86", func := "loop.example/gatelodge/laws.FnExactGraphTrim", spec := "fnExactGraphTrim", recurses := true, plainKeys := false, apart := false }
def FnExactGraphTrimSaid : Prop := fnExactGraphTrimRow.holds Try.pinned (OpenSpec.ofChange fnExactGraphTrimSpec)

/-- ITS FALSE NEIGHBOUR: 'it returns false'. Refute it at one input. -/
def fnExactGraphTrimWrong : ChangeSpec := { name := "fnExactGraphTrim", fn := fun _ => fun
  | [d] => { results := [.lit (.bool false)], args := [d] }
  | _ => none }
def FnExactGraphTrimWrongFalsely : Prop := fnExactGraphTrimRow.holds Try.pinned (OpenSpec.ofChange fnExactGraphTrimWrong)

/-- 'laws.FnExactFleetNew': WHATEVER THE INPUT: true; the input reads as it did. -/
def fnExactFleetNewSpec : ChangeSpec := { name := "fnExactFleetNew", fn := fun _ => fun
  | [d] => { results := [.lit (.bool true)], args := [d] }
  | _ => none }
def fnExactFleetNewRow : OpenClaim := { program := "ytbijlencoilchaa", sum := "9ea239832b6369084ff3a6a94eacfb95532952742a307b2ff9129d5196fbdc86", func := "loop.example/gatelodge/laws.FnExactFleetNew", spec := "fnExactFleetNew", plainKeys := false, apart := false }
def FnExactFleetNewSaid : Prop := fnExactFleetNewRow.holds Try.pinned (OpenSpec.ofChange fnExactFleetNewSpec)

/-- ITS FALSE NEIGHBOUR: 'it returns false'. Refute it at one input. -/
def fnExactFleetNewWrong : ChangeSpec := { name := "fnExactFleetNew", fn := fun _ => fun
  | [d] => { results := [.lit (.bool false)], args := [d] }
  | _ => none }
def FnExactFleetNewWrongFalsely : Prop := fnExactFleetNewRow.holds Try.pinned (OpenSpec.ofChange fnExactFleetNewWrong)

/- THE SECOND FORM. 'bulk': how many values and letters a reading holds, each counted each time it is reached (what is shared counts as often as it is met; a slice's spare places count too). A statement '..UptoSaid' is the law's where the arguments, and the package variables that the reading takes, are together of bulk at most 1048576: NARROWER than '..Said'. Prove '..Said' where nothing that the law and all that it calls make is longer than what came in: it says more and counts as full. Else prove '..UptoSaid'. A law counts once. -/
mutual
def uptoBulk {H : Type} : DataW H → Nat
  | .lit (.string bytes) => bytes.length + 1
  | .lit _ => 1
  | .nil => 1
  | .ptr d => uptoBulk d + 1
  | .slice elems spare => uptoBulkAll elems + uptoBulkAll spare + 1
  | .agg parts => uptoBulkAll parts + 1
  | .iface _ d => uptoBulk d + 1
  | .map entries => uptoBulkEntries entries + 1
  | .held _ => 1
def uptoBulkAll {H : Type} : List (DataW H) → Nat
  | [] => 0
  | d :: r => uptoBulk d + uptoBulkAll r
def uptoBulkEntries {H : Type} : List (Lit × DataW H) → Nat
  | [] => 0
  | x :: r => uptoBulkEntry x + uptoBulkEntries r
def uptoBulkEntry {H : Type} : Lit × DataW H → Nat
  | (.string bytes, d) => bytes.length + uptoBulk d + 1
  | (_, d) => uptoBulk d + 1
 end
def uptoSmall : (H : Type) → List (DataW H) → Bool := fun _ ds => decide (uptoBulkAll ds ≤ 1048576)
def OpenSpec.upto (s : _root_.Go.ChangeSpec) : _root_.Go.OpenSpec := { _root_.Go.OpenSpec.ofChange s with cond := some uptoSmall }

/-- 'laws.FnExactConstants', WHERE WHAT IT READS IS OF BULK AT MOST 1048576: true; the input reads as it did. -/
def fnExactConstantsUptoRow : OpenClaim := { program := "ytbijlencoilchaa", sum := "9ea239832b6369084ff3a6a94eacfb95532952742a307b2ff9129d5196fbdc86", func := "loop.example/gatelodge/laws.FnExactConstants", spec := "fnExactConstants", plainKeys := false, apart := false, narrowed := true }
def FnExactConstantsUptoSaid : Prop := fnExactConstantsUptoRow.holds Try.pinned (OpenSpec.upto fnExactConstantsSpec)

/-- 'laws.FnExactGateNew', WHERE WHAT IT READS IS OF BULK AT MOST 1048576: true; the input reads as it did. -/
def fnExactGateNewUptoRow : OpenClaim := { program := "ytbijlencoilchaa", sum := "9ea239832b6369084ff3a6a94eacfb95532952742a307b2ff9129d5196fbdc86", func := "loop.example/gatelodge/laws.FnExactGateNew", spec := "fnExactGateNew", plainKeys := false, apart := false, narrowed := true }
def FnExactGateNewUptoSaid : Prop := fnExactGateNewUptoRow.holds Try.pinned (OpenSpec.upto fnExactGateNewSpec)

/-- 'laws.FnExactCallOk', WHERE WHAT IT READS IS OF BULK AT MOST 1048576: true; the input reads as it did. -/
def fnExactCallOkUptoRow : OpenClaim := { program := "ytbijlencoilchaa", sum := "9ea239832b6369084ff3a6a94eacfb95532952742a307b2ff9129d5196fbdc86", func := "loop.example/gatelodge/laws.FnExactCallOk", spec := "fnExactCallOk", plainKeys := false, apart := false, narrowed := true }
def FnExactCallOkUptoSaid : Prop := fnExactCallOkUptoRow.holds Try.pinned (OpenSpec.upto fnExactCallOkSpec)

/-- 'laws.FnExactGraphOk', WHERE WHAT IT READS IS OF BULK AT MOST 1048576: true; the input reads as it did. -/
def fnExactGraphOkUptoRow : OpenClaim := { program := "ytbijlencoilchaa", sum := "9ea239832b6369084ff3a6a94eacfb95532952742a307b2ff9129d5196fbdc86", func := "loop.example/gatelodge/laws.FnExactGraphOk", spec := "fnExactGraphOk", plainKeys := false, apart := false, narrowed := true }
def FnExactGraphOkUptoSaid : Prop := fnExactGraphOkUptoRow.holds Try.pinned (OpenSpec.upto fnExactGraphOkSpec)

/-- 'laws.FnExactTestHolds', WHERE WHAT IT READS IS OF BULK AT MOST 1048576: true; the input reads as it did. -/
def fnExactTestHoldsUptoRow : OpenClaim := { program := "ytbijlencoilchaa", sum := "9ea239832b6369084ff3a6a94eacfb95532952742a307b2ff9129d5196fbdc86", func := "loop.example/gatelodge/laws.FnExactTestHolds", spec := "fnExactTestHolds", plainKeys := false, apart := false, narrowed := true }
def FnExactTestHoldsUptoSaid : Prop := fnExactTestHoldsUptoRow.holds Try.pinned (OpenSpec.upto fnExactTestHoldsSpec)

/-- 'laws.FnTestHolds', WHERE WHAT IT READS IS OF BULK AT MOST 1048576: true; the input reads as it did. -/
def fnTestHoldsUptoRow : OpenClaim := { program := "ytbijlencoilchaa", sum := "9ea239832b6369084ff3a6a94eacfb95532952742a307b2ff9129d5196fbdc86", func := "loop.example/gatelodge/laws.FnTestHolds", spec := "fnTestHolds", plainKeys := false, apart := false, narrowed := true }
def FnTestHoldsUptoSaid : Prop := fnTestHoldsUptoRow.holds Try.pinned (OpenSpec.upto fnTestHoldsSpec)

/-- 'laws.FnExactGraphRun', WHERE WHAT IT READS IS OF BULK AT MOST 1048576: true; the input reads as it did. -/
def fnExactGraphRunUptoRow : OpenClaim := { program := "ytbijlencoilchaa", sum := "9ea239832b6369084ff3a6a94eacfb95532952742a307b2ff9129d5196fbdc86", func := "loop.example/gatelodge/laws.FnExactGraphRun", spec := "fnExactGraphRun", plainKeys := false, apart := false, narrowed := true }
def FnExactGraphRunUptoSaid : Prop := fnExactGraphRunUptoRow.holds Try.pinned (OpenSpec.upto fnExactGraphRunSpec)

/-- 'laws.FnExactGraphTrim', WHERE WHAT IT READS IS OF BULK AT MOST 1048576: true; the input reads as it did. -/
def fnExactGraphTrimUptoRow : OpenClaim := { program := "ytbijlencoilchaa", sum := "9ea239832b6369084ff3a6a94eacfb95532952742a307b2ff9129d5196fbdc86", func := "loop.example/gatelodge/laws.FnExactGraphTrim", spec := "fnExactGraphTrim", recurses := true, plainKeys := false, apart := false, narrowed := true }
def FnExactGraphTrimUptoSaid : Prop := fnExactGraphTrimUptoRow.holds Try.pinned (OpenSpec.upto fnExactGraphTrimSpec)

/-- 'laws.FnExactFleetNew', WHERE WHAT IT READS IS OF BULK AT MOST 1048576: true; the input reads as it did. -/
def fnExactFleetNewUptoRow : OpenClaim := { program := "ytbijlencoilchaa", sum := "9ea239832b6369084ff3a6a94eacfb95532952742a307b2ff9129d5196fbdc86", func := "loop.example/gatelodge/laws.FnExactFleetNew", spec := "fnExactFleetNew", plainKeys := false, apart := false, narrowed := true }
def FnExactFleetNewUptoSaid : Prop := fnExactFleetNewUptoRow.holds Try.pinned (OpenSpec.upto fnExactFleetNewSpec)

end Rows
end Go.Proofs.Ytbijlencoilchaa
