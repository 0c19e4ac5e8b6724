/- Two points compared as one value. No condition. -/
import Derived.Test.YtljgaepgblakhaaPoint
namespace Go.Proofs.Ytljgaepgblakhaa
set_option linter.unusedSimpArgs false
open Go.RowKit
set_option linter.unusedVariables false
theorem fields_pt : (Try.prog.fieldsOf 29).toList.map (fun f => (f.offset, f.type, f.name != "_")) = [(0, 3, true), (1, 3, true), (2, 3, true), (3, 3, true), (4, 3, true), (5, 3, true), (6, 3, true)] := by kernel_rfl
theorem ut_fields : Try.prog.underlying 29 = some (.struct (Try.prog.fieldsOf 29)) := by kernel_rfl
theorem ns_pt : Try.prog.stoodInHeld 29 = false := by kernel_rfl
theorem plain_int : Try.prog.plainKey 3 = true := by kernel_rfl
theorem info_int1 : (Try.prog.info? 3).map (·.size) = some 1 := by kernel_rfl
theorem eq_step (d : Nat) (xs ys : Array Value) (f : Field) (fs : List Field) (o : Nat) (a b : Int) (W : World) (ho : f.offset = o) (ht : f.type = 3) (hn : (f.name != "_") = true) (hx : xs[o]? = some (.int .i64 a)) (hy : ys[o]? = some (.int .i64 b)) :
    (Op.eqFields (d + 1) xs ys (f :: fs)).run Try.prog W = if a = b then (Op.eqFields (d + 1) xs ys fs).run Try.prog W else .ok false W := by
  have hn' : f.name ≠ "_" := by simpa using hn
  have p1 := run_part_plain (P := Try.prog) (w := W) plain_int hx
  have p2 := run_part_plain (P := Try.prog) (w := W) plain_int hy
  rw [Op.eqFields, if_pos hn', ht, ho]
  simp only [Sem.run_bind, p1, p2, Result.andThen_ok, run_equalIn_int W d 3 .i64 .i64 a b Try.underlying3]
  by_cases h : a = b
  · simp [h]
  · simp [h]
theorem eqPt_run (p q : Pt) (W : World) : (Op.equalIn 10000 29 (ptV p) (ptV q)).run Try.prog W = .ok (ptEq p q) W := by
  obtain ⟨v, f, m, op, x, y, n⟩ := p
  obtain ⟨v', f', m', op', x', y', n'⟩ := q
  unfold ptV
  rw [run_equalIn_agg W 9999 29 _ _ ut_fields ns_pt]
  have hf := fields_pt
  generalize (Try.prog.fieldsOf 29).toList = fs at *
  have hl : fs.length = 7 := by
    have := congrArg List.length hf
    simpa using this
  match fs, hl, hf with
  | [f0, f1, f2, f3, f4, f5, f6], _, hf =>
    simp only [List.map_cons, List.map_nil, List.cons.injEq, Prod.mk.injEq, and_true] at hf
    obtain ⟨⟨a0, b0, c0⟩, ⟨a1, b1, c1⟩, ⟨a2, b2, c2⟩, ⟨a3, b3, c3⟩, ⟨a4, b4, c4⟩, ⟨a5, b5, c5⟩, ⟨a6, b6, c6⟩⟩ := hf
    rw [eq_step 9998 _ _ f0 _ 0 v v' W a0 b0 c0 rfl rfl, eq_step 9998 _ _ f1 _ 1 f f' W a1 b1 c1 rfl rfl, eq_step 9998 _ _ f2 _ 2 m m' W a2 b2 c2 rfl rfl, eq_step 9998 _ _ f3 _ 3 op op' W a3 b3 c3 rfl rfl,
      eq_step 9998 _ _ f4 _ 4 x x' W a4 b4 c4 rfl rfl, eq_step 9998 _ _ f5 _ 5 y y' W a5 b5 c5 rfl rfl, eq_step 9998 _ _ f6 _ 6 n n' W a6 b6 c6 rfl rfl]
    have hnil : (Op.eqFields (9998 + 1) #[Value.int .i64 v, .int .i64 f, .int .i64 m, .int .i64 op, .int .i64 x, .int .i64 y, .int .i64 n] #[Value.int .i64 v', .int .i64 f', .int .i64 m', .int .i64 op', .int .i64 x', .int .i64 y', .int .i64 n'] []).run Try.prog W = .ok true W := rfl
    rw [hnil]
    unfold ptEq
    by_cases e0 : v = v' <;> by_cases e1 : f = f' <;> by_cases e2 : m = m' <;> by_cases e3 : op = op' <;> by_cases e4 : x = x' <;> by_cases e5 : y = y' <;> by_cases e6 : n = n' <;> simp [e0, e1, e2, e3, e4, e5, e6]
theorem eqAgg_run (v f m op x y n v' f' m' op' x' y' n' : Int) (W : World) : (Op.equalIn 10000 29 (.agg #[.int .i64 v, .int .i64 f, .int .i64 m, .int .i64 op, .int .i64 x, .int .i64 y, .int .i64 n]) (.agg #[.int .i64 v', .int .i64 f', .int .i64 m', .int .i64 op', .int .i64 x', .int .i64 y', .int .i64 n'])).run Try.prog W = .ok (ptEq ⟨v, f, m, op, x, y, n⟩ ⟨v', f', m', op', x', y', n'⟩) W :=
  eqPt_run ⟨v, f, m, op, x, y, n⟩ ⟨v', f', m', op', x', y', n'⟩ W
end Go.Proofs.Ytljgaepgblakhaa
