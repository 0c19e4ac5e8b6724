/- Slots compared with themselves. No condition. -/
import Derived.Test.YtdbojdgppgphkaaDoorSlot3
namespace Go.Proofs.YtdbojdgppgphkaaDoor
set_option linter.unusedSimpArgs false
open Go.RowKit
set_option linter.unusedVariables false
theorem fields_slots : (Tryd.prog.fieldsOf 53).toList.map (fun f => (f.offset, f.type, f.name != "_")) = [(0, 9, true), (1, 9, true)] := by kernel_rfl
theorem ut_fields_slots : Tryd.prog.underlying 53 = some (.struct (Tryd.prog.fieldsOf 53)) := by kernel_rfl
theorem ns_slots : Tryd.prog.stoodInHeld 53 = false := by kernel_rfl
theorem plain_strT : Tryd.prog.plainKey 9 = true := by kernel_rfl
theorem eq_stepS (d : Nat) (xs ys : Array Value) (f : Field) (fs : List Field) (o : Nat) (a : ByteArray) (W : World) (ho : f.offset = o) (ht : f.type = 9) (hn : (f.name != "_") = true) (hx : xs[o]? = some (.string a)) (hy : ys[o]? = some (.string a)) :
    (Op.eqFields (d + 1) xs ys (f :: fs)).run Tryd.prog W = (Op.eqFields (d + 1) xs ys fs).run Tryd.prog W := by
  have hn' : f.name ≠ "_" := by simpa using hn
  have p1 := run_part_plain (P := Tryd.prog) (w := W) plain_strT hx
  have p2 := run_part_plain (P := Tryd.prog) (w := W) plain_strT hy
  rw [Op.eqFields, if_pos hn', ht, ho]
  simp only [Sem.run_bind, p1, p2, Result.andThen_ok, run_equalIn_string W d 9 a a Tryd.underlying9]
  simp
theorem eqSlots_run (A B : ByteArray) (W : World) : (Op.equalIn 10000 53 (.agg #[.string A, .string B]) (.agg #[.string A, .string B])).run Tryd.prog W = .ok true W := by
  rw [run_equalIn_agg W 9999 53 _ _ ut_fields_slots ns_slots]
  have hf := fields_slots
  generalize (Tryd.prog.fieldsOf 53).toList = fs at *
  have hl : fs.length = 2 := by
    have := congrArg List.length hf
    simpa using this
  match fs, hl, hf with
  | [f0, f1], _, hf =>
    simp only [List.map_cons, List.map_nil, List.cons.injEq, Prod.mk.injEq, and_true] at hf
    obtain ⟨⟨a0, b0, c0⟩, ⟨a1, b1, c1⟩⟩ := hf
    rw [eq_stepS 9998 _ _ f0 _ 0 A W a0 b0 c0 rfl rfl, eq_stepS 9998 _ _ f1 _ 1 B W a1 b1 c1 rfl rfl]
    rfl
end Go.Proofs.YtdbojdgppgphkaaDoor
