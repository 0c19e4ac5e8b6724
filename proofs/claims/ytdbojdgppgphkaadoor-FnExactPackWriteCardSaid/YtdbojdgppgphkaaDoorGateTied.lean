/- What the listed tables of this seat give a walk that hashes. No condition. -/
import Derived.Test.YtdbojdgppgphkaaDoorOpen
import Derived.Test.YtdbojdgppgphkaaDoorOrder
import Derived.Test.YtdbojdgppgphkaaDoorTie
import Derived.Test.YtdbojdgppgphkaaDoorCards
import Derived.ChangeVars
import Derived.LaidMore
import Derived.OpenVars
import Derived.Stop.Joined
import Derived.SevenTiedAt
import Derived.Lib.LaidTab
namespace Go.Proofs.YtdbojdgppgphkaaDoor
set_option linter.unusedSimpArgs false
open Go.ChangeShapes Go.WideShapes Go.ChangeAt Go.RowKit
set_option linter.unusedVariables false
theorem laidMet_tl {P : Program} {x : String × DataW Unit} {r : List (String × DataW Unit)} {w : World} (h : laidMet P (x :: r) w) : laidMet P r w := by
  obtain ⟨ps, h1, h2, h3⟩ := h
  obtain ⟨g, t, cs, fuel, p, q, a1, a2, a3, a4, a5, rfl⟩ := h1
  exact ⟨q, a5, (List.nodup_append.1 h2).2.1, fun b off hb => h3 b off (List.mem_append_right _ hb)⟩
/-- The tables as a walk wants them. -/
def GT (W : World) : Prop := PT W W.heap.size ∧ KT W ∧ 2 < W.heap.size
theorem g_pow : Tryd.prog.globalNamed "internal/strconv.uint64pow10" = some 1 := by kernel_rfl
theorem g_words : Tryd.prog.globalNamed "loop.example/gatelodge/impl.hashWords" = some 2 := by kernel_rfl
theorem pow_tab {H : Type} : Rows.laid_internal_strconv_uint64pow10 (H := H) = Lib.tabData .u64 Lib.pow10Tab := rfl
theorem words_tab {H : Type} : Rows.laid_loop_example_gatelodge_impl_hashWords (H := H) = Lib.tabData .u32 roundK := rfl
theorem kt_of_laid {W : World} (h : laidMetH Tryd.prog [("math/bits.deBruijn32tab", Rows.laid_math_bits_deBruijn32tab), ("math/bits.deBruijn64tab", Rows.laid_math_bits_deBruijn64tab), ("internal/strconv.uint64pow10", Rows.laid_internal_strconv_uint64pow10), ("loop.example/gatelodge/impl.hashWords", Rows.laid_loop_example_gatelodge_impl_hashWords)] W) : GT W := by
  rw [MakeChecks.laidMetH_plain _ _ _ (by kernel_rfl)] at h
  have h3 := laidMet_tl (laidMet_tl h)
  have h4 := laidMet_tl h3
  rw [pow_tab] at h3
  rw [words_tab] at h4
  have hT := Lib.tabIs_of_head (t := 206) (e := 185) (n := 20) g_pow (by kernel_rfl) Tryd.underlying206 Tryd.underlying185 (by kernel_rfl) (by kernel_rfl) h3
  have hc := hT.cell g_pow 0 (by rw [Lib.pow10Tab_length]; omega)
  have hT2 := Lib.tabIs_of_head (t := 209) (e := 130) (n := 64) g_words (by kernel_rfl) Tryd.underlying209 Tryd.underlying130 (by kernel_rfl) (by kernel_rfl) h4
  have hk : KT W := fun i hi => hT2.cell g_words i hi
  exact ⟨⟨1, g_pow, World.block_lt_of_cell? W _ hc, hT⟩, hk, World.block_lt_of_cell? W _ (hk 0 (by omega))⟩
theorem laid_met (os : Os) (args : Array Value) : laidMetH Tryd.prog [("math/bits.deBruijn32tab", Rows.laid_math_bits_deBruijn32tab), ("math/bits.deBruijn64tab", Rows.laid_math_bits_deBruijn64tab), ("internal/strconv.uint64pow10", Rows.laid_internal_strconv_uint64pow10), ("loop.example/gatelodge/impl.hashWords", Rows.laid_loop_example_gatelodge_impl_hashWords)] ((World.doorLaid Tryd.prog 400 os).forCall (fun _ _ => 0) ⟨#[], args, []⟩).memory :=
  laidMetH_of_parts3 (fuel := 8) (laidMet_of_run' 8 (by kernel_rfl) (by kernel_rfl)) (by kernel_rfl) (by kernel_rfl)
end Go.Proofs.YtdbojdgppgphkaaDoor
