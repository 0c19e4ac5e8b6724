/- For the laws on policies. No condition. -/
import Derived.Test.YtljgaepgblakhaaDoorPolTied
namespace Go.Proofs.YtljgaepgblakhaaDoor
set_option linter.unusedSimpArgs false
open Go.RowKit
theorem ruleN_mem {rs : List Rl} {r : Rl} (h : r ∈ rs) : r.ts.length ≤ ruleN rs := by
  obtain ⟨k, hk⟩ := List.mem_iff_getElem?.1 h
  have h1 := ruleN_succ hk
  have h2 : ruleN (rs.take (k + 1)) ≤ ruleN rs := ruleN_le
  omega
theorem szPolicy_in (A : Option Addr) (n c : Nat) (rs : List Rl) (e : Int) (w : World) (hr : RdR w w.heap.size A n rs) (hn : n ≤ 9223372036854775807) (h : n + ruleN rs ≤ 1048576) :
    Calls Tryd.prog 39 #[.agg #[.slice A n c, .int .i64 e], .int .i64 1048576] w (RetB (.int .i64 (1048576 - (n + ruleN rs : Nat))) w) :=
  (szPolicy_c A n c rs e 1048576 w hr hn (by omega) (by omega)).mono fun e w' ⟨he, hw⟩ => ⟨by rw [he]; simp [szV]; omega, hw⟩
end Go.Proofs.YtljgaepgblakhaaDoor
