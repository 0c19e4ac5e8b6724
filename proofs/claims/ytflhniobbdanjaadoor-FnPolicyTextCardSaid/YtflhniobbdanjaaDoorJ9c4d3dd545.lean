/- What PolicyRead's deferred closure does: a thrown line is caught; else nothing. Conditions: each contract's own. -/
import Derived.Test.YtflhniobbdanjaaDoorJ6e82180ee1
import Derived.Test.YtflhniobbdanjaaDoorJ74016a6a2a
import Derived.Defers
import Derived.Recover
namespace Go.Proofs.YtflhniobbdanjaaDoor
set_option linter.unusedSimpArgs false
open Go.RowKit
set_option linter.unusedVariables false
set_option linter.unnecessarySimpa false
set_option maxRecDepth 20000
theorem Blk.ne_ty {w : World} {a b s t : Nat} {cs ds : List Value} (h : Blk w a s cs) (k : Blk w b t ds) (hT : s ≠ t) : a ≠ b := by
  rintro rfl
  have := h.symm.trans k
  injection this with this
  injection this with _ e _
  exact hT e
theorem catch_idle (pB fB : Nat) (w : World) :
    CallsD Tryd.prog 20 #[.pointer (some ⟨pB, 0, none⟩), .pointer (some ⟨fB, 0, none⟩)] .returning w fun e u' w' => e = .returned (.tuple #[]) ∧ u' = .returning ∧ w' = w := by
  refine callsD_of_wpS Tryd.func20 rfl fun c₀ cs hu => ?_
  apply wpS_seq
  apply wpS_region
  simp [wpOpsS, go_sem, recoverD, hu, Tryd.ntmps20, Exit.thenS]
  apply wpS_seq
  apply wpS_region
  simp [wpOpsS, go_sem, Exit.thenS]
  refine wpS_cond (t := false) (by simp [Act.eval, Array.replicate]) ?_
  simp only [Bool.false_eq_true, if_false]
  refine wpS_of_wp (wp_skip ?_)
  cases c₀
  simp_all [bodyPostS, results, Tryd.results20]
theorem catch_line (pB fB : Nat) (ln : Int) (v0 v1 v2 : Value) (w : World) (hp : Blk w pB 24 [v0, v1]) (hf : Blk w fB 3 [v2]) (hl : 1 ≤ ln) :
    CallsD Tryd.prog 20 #[.pointer (some ⟨pB, 0, none⟩), .pointer (some ⟨fB, 0, none⟩)] (.panicking (lineF 45 ln)) w fun e u' w' => e = .returned (.tuple #[]) ∧ (∃ pv, u' = .panicking [{ v := pv, recovered := true }]) ∧
      Blk w' pB 24 [.slice none 0 0, .int .i64 0] ∧ Blk w' fB 3 [.int .i64 ln] ∧ Keep w w' (fun t => t ≠ pB ∧ t ≠ fB) := by
  have hta : ∀ W, (Instr.typeAssert (.iface 45 (.agg #[.int .i64 ln])) 20 45 true).run Tryd.prog W = .ok (.tuple #[.agg #[.int .i64 ln], .bool true]) W := fun W => by kernel_rfl
  have p0 := hp.cell (i := 0) rfl
  have p1 := hp.cell (i := 1) rfl
  have pf := hp.free
  have f0 := hf.cell (i := 0) rfl
  have ff := hf.free
  have hpl := hp.lt
  have hfl := hf.lt
  have hpf : pB ≠ fB := hp.ne_ty hf (by decide)
  have hn1 : pB ≠ w.heap.size := by omega
  have hn2 : fB ≠ w.heap.size := by omega
  have HP := Lib.hid hp
  have HF := Lib.hid hf
  clear hp hf
  refine callsD_of_wpS Tryd.func20 rfl fun c₀ cs hu => ?_
  apply wpS_seq
  apply wpS_region
  unfold lineF at hu
  simp [wpOpsS, go_sem, recoverD, hu, Tryd.ntmps20, Exit.thenS]
  apply wpS_seq
  apply wpS_region
  simp [wpOpsS, go_sem, Exit.thenS]
  refine wpS_cond (t := true) (by simp [Act.eval, Array.replicate]) ?_
  simp only [if_true]
  refine wpS_of_wp ?_
  simp only [Array.replicate, List.replicate, Array.setIfInBounds, List.size_toArray, List.length_cons, List.length_nil]
  simp
  go_wp2_with fail
  go_region
  have hmax : max ln 1 = ln := by omega
  rw [hmax]
  refine ⟨rfl, _, rfl, .tuple #[], by simp [results, Tryd.results20], rfl, ⟨_, rfl⟩, ?_, ?_, ⟨rfl, rfl, rfl, by simp, fun k hk hh => ?_⟩⟩
  · exact ((((HP.out.set_ 0 (.slice none 0 0)).set_ 1 (.int .i64 0)).far (p := ⟨fB, 0, none⟩) hpf (.int .i64 ln)).alloc _).drew
  · exact (((((HF.out.far (p := ⟨pB, 0, none⟩) (Ne.symm hpf) (.slice none 0 0)).far (p := ⟨pB, 1, none⟩) (Ne.symm hpf) (.int .i64 0)).set_ 0 (.int .i64 ln))).alloc _).drew
  · obtain ⟨h1, h2⟩ := hh
    show ((((w.setCell ⟨pB, 0, none⟩ (.slice none 0 0)).setCell ⟨pB, 1, none⟩ (.int .i64 0)).setCell ⟨fB, 0, none⟩ (.int .i64 ln)).alloc _).heap[k]? = _
    rw [Below.heap_alloc _ _ k (by simp; exact hk), heap_setCell_other _ _ k _ (by simpa using h2), heap_setCell_other _ _ k _ (by simpa using h1), heap_setCell_other _ _ k _ (by simpa using h1)]
end Go.Proofs.YtflhniobbdanjaaDoor
