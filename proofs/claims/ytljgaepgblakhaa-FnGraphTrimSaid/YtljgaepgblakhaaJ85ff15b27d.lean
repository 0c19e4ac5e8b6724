/- Parts of laws in one text. Conditions: each lemma's own. -/
import Derived.Test.YtljgaepgblakhaaText
import Derived.Shelf.Strings.BuilderK
import Derived.Laws.Concat
import Derived.Lib.AppendIntMem
import Derived.Test.YtljgaepgblakhaaText2
namespace Go.Proofs.Ytljgaepgblakhaa
set_option linter.unusedSimpArgs false
open Go.RowKit
set_option linter.unusedVariables false
set_option linter.unnecessarySimpa false
set_option maxRecDepth 100000
theorem bldAt_below {T e : TypeId} {B b : Nat} {p : Value} {bs : List Value} {W W' : World} (h : Lib.BuilderAtF T e B b p bs W) (hb : Below W.heap.size W W') : Lib.BuilderAtF T e B b p bs W' := by
  have hlt := h.lt
  obtain ⟨hB, v, hv, hown, hne⟩ := h
  exact ⟨hB, v, (hb.block b hlt).trans hv, hown.kept (row := none) ⟨hb.os, hb.tape, hb.output, hb.size, fun k hk _ => hb.block k hk⟩ (Classical.em _), hne⟩
theorem bld_below {T e : TypeId} {B b : Nat} {bs : List Value} {W W' : World} (h : Lib.IsBuilderF T e B b bs W) (hb : Below W.heap.size W W') : Lib.IsBuilderF T e B b bs W' :=
  h.elim (fun x => .inl (bldAt_below x hb)) (fun x => .inr (bldAt_below x hb))
end Go.Proofs.Ytljgaepgblakhaa
namespace Go.Proofs.Ytljgaepgblakhaa
set_option linter.unusedSimpArgs false
open Go.RowKit
set_option linter.unusedVariables false
set_option linter.unnecessarySimpa false
set_option maxRecDepth 20000
theorem bld_new (T e : TypeId) (w : World) : Lib.IsBuilderF T e w.heap.size w.heap.size [] (w.alloc (.cells #[.pointer none, .slice none 0 0] T)) :=
  .inl ⟨Nat.le_refl _, .slice none 0 0, heap_alloc_new w _, ⟨rfl, .inl ⟨rfl, rfl⟩⟩, by simp [Value.ownBlock]⟩
theorem below_low {w W w2 : World} {B : Nat} (h : Below w.heap.size w W) (hb : Below B W w2) (hB : w.heap.size ≤ B) : Below w.heap.size w w2 := h.trans (hb.mono hB)
theorem Blk.kept {w w' : World} {g t e b : Nat} {cs : List Value} (h : Blk w g t cs) (ho : Lib.OthersKept e (some b) w w') (hg : g ≠ b) (ht : t ≠ e) : Blk w' g t cs :=
  ho g _ h (by intro e; injection e with e; exact hg e) (by rintro c fz e; injection e with _ e2 _; exact ht e2)
end Go.Proofs.Ytljgaepgblakhaa
