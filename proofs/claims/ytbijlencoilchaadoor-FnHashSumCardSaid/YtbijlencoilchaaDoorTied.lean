/- What the listed table of this seat gives a walk. No condition. -/
import Derived.Test.YtbijlencoilchaaDoorOpen
import Derived.Test.YtbijlencoilchaaDoorHashSum
import Derived.Test.YtbijlencoilchaaDoorTie
import Derived.Test.YtbijlencoilchaaDoorCards
import Derived.ChangeVars
import Derived.LaidMore
import Derived.OpenVars
import Derived.Stop.Joined
import Derived.SevenTiedAt
import Derived.Lib.LaidTab
namespace Go.Proofs.YtbijlencoilchaaDoor
open Go.ChangeShapes Go.WideShapes Go.ChangeAt Go.RowKit
set_option linter.unusedVariables false
theorem g_words : Tryd.prog.globalNamed "loop.example/gatelodge/impl.hashWords" = some 0 := by kernel_rfl
theorem words_tab {H : Type} : Rows.laid_loop_example_gatelodge_impl_hashWords (H := H) = Lib.tabData .u32 roundK := rfl
theorem kt_of_laid {W : World} (h : laidMetH Tryd.prog [("loop.example/gatelodge/impl.hashWords", Rows.laid_loop_example_gatelodge_impl_hashWords)] W) : KT W := by
  rw [MakeChecks.laidMetH_plain _ _ _ (by kernel_rfl), words_tab] at h
  have hT := Lib.tabIs_of_head (t := 62) (e := 43) (n := 64) g_words (by kernel_rfl) Tryd.underlying62 Tryd.underlying43 (by kernel_rfl) (by kernel_rfl) h
  exact fun i hi => hT.cell g_words i hi
theorem kt_pos {W : World} (h : KT W) : 0 < W.heap.size := World.block_lt_of_cell? W _ (h 0 (by omega))
end Go.Proofs.YtbijlencoilchaaDoor
