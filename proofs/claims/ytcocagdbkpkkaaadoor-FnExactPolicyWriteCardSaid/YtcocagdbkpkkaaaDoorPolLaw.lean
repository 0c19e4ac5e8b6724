/- For the laws on policies. No condition. -/
import Derived.Test.YtcocagdbkpkkaaaDoorPolTied
namespace Go.Proofs.YtcocagdbkpkkaaaDoor
set_option linter.unusedSimpArgs false
open Go.RowKit
theorem ruleN_mem {rs : List Rl} {r : Rl} (h : r ∈ rs) : r.ts.length ≤ ruleN rs := by
  obtain ⟨k, hk⟩ := List.mem_iff_getElem?.1 h
  have h1 := ruleN_succ hk
  have h2 : ruleN (rs.take (k + 1)) ≤ ruleN rs := ruleN_le
  omega
end Go.Proofs.YtcocagdbkpkkaaaDoor
