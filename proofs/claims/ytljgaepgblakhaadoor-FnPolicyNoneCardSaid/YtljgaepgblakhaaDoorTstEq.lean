/- Two tests compared as one value. No condition. -/
import Derived.Test.YtljgaepgblakhaaDoorPol
namespace Go.Proofs.YtljgaepgblakhaaDoor
set_option linter.unusedSimpArgs false
open Go.RowKit
set_option linter.unusedVariables false
theorem fields_tst : (Tryd.prog.fieldsOf 83).toList.map (fun f => (f.offset, f.type, f.name != "_")) = [(0, 3, true), (1, 3, true), (2, 3, true), (3, 3, true)] := by kernel_rfl
theorem ut_fields_tst : Tryd.prog.underlying 83 = some (.struct (Tryd.prog.fieldsOf 83)) := by kernel_rfl
theorem ns_tst : Tryd.prog.stoodInHeld 83 = false := by kernel_rfl
theorem plain_intT : Tryd.prog.plainKey 3 = true := by kernel_rfl
theorem eq_stepT (d : Nat) (xs ys : Array Value) (f : Field) (fs : List Field) (o : Nat) (a b : Int) (W : World) (ho : f.offset = o) (ht : f.type = 3) (hn : (f.name != "_") = true) (hx : xs[o]? = some (.int .i64 a)) (hy : ys[o]? = some (.int .i64 b)) :
    (Op.eqFields (d + 1) xs ys (f :: fs)).run Tryd.prog W = if a = b then (Op.eqFields (d + 1) xs ys fs).run Tryd.prog W else .ok false W := by
  have hn' : f.name ≠ "_" := by simpa using hn
  have p1 := run_part_plain (P := Tryd.prog) (w := W) plain_intT hx
  have p2 := run_part_plain (P := Tryd.prog) (w := W) plain_intT hy
  rw [Op.eqFields, if_pos hn', ht, ho]
  simp only [Sem.run_bind, p1, p2, Result.andThen_ok, run_equalIn_int W d 3 .i64 .i64 a b Tryd.underlying3]
  by_cases h : a = b
  · simp [h]
  · simp [h]
theorem eqTst_run (p q : Tst) (W : World) : (Op.equalIn 10000 83 (tstV p) (tstV q)).run Tryd.prog W = .ok (tstEq p q) W := by
  obtain ⟨f, m, op, x⟩ := p
  obtain ⟨f', m', op', x'⟩ := q
  unfold tstV
  rw [run_equalIn_agg W 9999 83 _ _ ut_fields_tst ns_tst]
  have hf := fields_tst
  generalize (Tryd.prog.fieldsOf 83).toList = fs at *
  have hl : fs.length = 4 := by
    have := congrArg List.length hf
    simpa using this
  match fs, hl, hf with
  | [f0, f1, f2, f3], _, hf =>
    simp only [List.map_cons, List.map_nil, List.cons.injEq, Prod.mk.injEq, and_true] at hf
    obtain ⟨⟨a0, b0, c0⟩, ⟨a1, b1, c1⟩, ⟨a2, b2, c2⟩, ⟨a3, b3, c3⟩⟩ := hf
    rw [eq_stepT 9998 _ _ f0 _ 0 f f' W a0 b0 c0 rfl rfl, eq_stepT 9998 _ _ f1 _ 1 m m' W a1 b1 c1 rfl rfl, eq_stepT 9998 _ _ f2 _ 2 op op' W a2 b2 c2 rfl rfl, eq_stepT 9998 _ _ f3 _ 3 x x' W a3 b3 c3 rfl rfl]
    have hnil : (Op.eqFields (9998 + 1) #[Value.int .i64 f, .int .i64 m, .int .i64 op, .int .i64 x] #[Value.int .i64 f', .int .i64 m', .int .i64 op', .int .i64 x'] []).run Tryd.prog W = .ok true W := rfl
    rw [hnil]
    unfold tstEq
    by_cases e1 : f = f' <;> by_cases e2 : m = m' <;> by_cases e3 : op = op' <;> by_cases e4 : x = x' <;> simp [e1, e2, e3, e4]
theorem eqTstAgg_run (f m op x f' m' op' x' : Int) (W : World) : (Op.equalIn 10000 83 (.agg #[.int .i64 f, .int .i64 m, .int .i64 op, .int .i64 x]) (.agg #[.int .i64 f', .int .i64 m', .int .i64 op', .int .i64 x'])).run Tryd.prog W = .ok (tstEq ⟨f, m, op, x⟩ ⟨f', m', op', x'⟩) W :=
  eqTst_run ⟨f, m, op, x⟩ ⟨f', m', op', x'⟩ W
end Go.Proofs.YtljgaepgblakhaaDoor
