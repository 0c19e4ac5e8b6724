/- Points as the keys of a map. No condition. -/
import Derived.Test.YtljgaepgblakhaaUsed
import Derived.Test.YtljgaepgblakhaaOpen
import Derived.Maps.OwnSet
import Derived.DeepKeys4
namespace Go.Proofs.Ytljgaepgblakhaa
set_option linter.unusedSimpArgs false
open Go.RowKit Go.Maps
set_option linter.unusedVariables false
set_option linter.unnecessarySimpa false
set_option maxRecDepth 100000
theorem ut_ptF : Try.prog.underlying 29 = some (.struct (Try.prog.fieldsOf 29)) := ut_fields
theorem wide_pt : (match Try.prog.underlying 29 with | some (.array _ _) | some (.struct _) => true | _ => false) = true := by rw [ut_ptF]
theorem row_pt : 29 < Try.prog.types.size := of_decide_eq_true (by kernel_rfl)
theorem law_pt : Keyed Try.prog 29 := Keyed.of_law (deep_law_laid laidOut (m := 2) (by omega) row_pt (by kernel_rfl) wide_pt)
theorem size_succ : Try.prog.types.size = (Try.prog.types.size - 1) + 1 := by kernel_rfl
theorem keyType_pt : Try.prog.keyType 29 = true := by kernel_rfl
theorem cellsOf_pt : Try.prog.cellsOf 29 = 7 := by kernel_rfl
theorem cellsOf_int : Try.prog.cellsOf 3 = 1 := by kernel_rfl
theorem names_pt : ((Try.prog.fieldsOf 29).all fun f => f.name != "_") = true := by kernel_rfl
theorem small_wf {x : Int} (h : smallI x) : (Lit.int .i64 x).wf = true := by
  unfold smallI at h
  have h1 : IntKind.i64.min ≤ x := by show (-9223372036854775808 : Int) ≤ x; omega
  have h2 : x ≤ IntKind.i64.max := by show x ≤ (9223372036854775807 : Int); omega
  show (decide (IntKind.i64.min ≤ x) && decide (x ≤ IntKind.i64.max)) = true
  rw [decide_eq_true h1, decide_eq_true h2]; rfl
theorem lits_int (d : Nat) (x : Int) (h : smallI x) : Try.prog.keyLits (d + 1) 3 [.int .i64 x] = some [.int .i64 x] := by
  unfold Program.keyLits
  simp [Try.underlying3, small_wf h]
theorem key_ex (p : Pt) (h : smallP p) : ∃ l, keyOf Try.prog 29 (ptV p) = some l := by
  obtain ⟨v, f, m, op, x, y, n⟩ := p
  obtain ⟨h0, h1, h2, h3, h4, h5, h6⟩ := h
  simp only at h0 h1 h2 h3 h4 h5 h6
  unfold keyOf
  rw [ut_ptF]
  simp only
  have hf : (ptV ⟨v, f, m, op, x, y, n⟩).formed Try.prog 29 = true := by
    unfold ptV Value.formed
    rw [ut_ptF]
    simp [cellsOf_pt]
  rw [if_pos (by rw [keyType_pt, hf]; rfl)]
  have hc : (ptV ⟨v, f, m, op, x, y, n⟩).cells.toList = [.int .i64 v, .int .i64 f, .int .i64 m, .int .i64 op, .int .i64 x, .int .i64 y, .int .i64 n] := rfl
  rw [hc]
  unfold Program.keyLits
  simp only [ut_ptF]
  have hall : ((Try.prog.fieldsOf 29).all (·.name != "_")) = true := names_pt
  rw [if_pos ⟨by rw [cellsOf_pt]; rfl, hall⟩]
  have hfs := fields_pt
  generalize (Try.prog.fieldsOf 29).toList = fs at *
  have hl : fs.length = 7 := by
    have := congrArg List.length hfs
    simpa using this
  match fs, hl, hfs with
  | [f0, f1, f2, f3, f4, f5, f6], _, hfs =>
    simp only [List.map_cons, List.map_nil, List.cons.injEq, Prod.mk.injEq, and_true] at hfs
    obtain ⟨⟨a0, b0, c0⟩, ⟨a1, b1, c1⟩, ⟨a2, b2, c2⟩, ⟨a3, b3, c3⟩, ⟨a4, b4, c4⟩, ⟨a5, b5, c5⟩, ⟨a6, b6, c6⟩⟩ := hfs
    rw [size_succ]
    simp [a0, b0, a1, b1, a2, b2, a3, b3, a4, b4, a5, b5, a6, b6, cellsOf_int, lits_int, h0, h1, h2, h3, h4, h5, h6]
noncomputable def klP (p : Pt) : Lit := (keyOf Try.prog 29 (ptV p)).getD (.bool false)
theorem kl_key {p : Pt} (h : smallP p) : keyOf Try.prog 29 (ptV p) = some (klP p) := by
  obtain ⟨l, hl⟩ := key_ex p h
  unfold klP
  rw [hl]; rfl
theorem ptV_inj {p q : Pt} (h : ptV p = ptV q) : p = q := by
  obtain ⟨a, b, c, d, e, f, g⟩ := p
  obtain ⟨a', b', c', d', e', f', g'⟩ := q
  unfold ptV at h
  simp at h
  simp [h]
theorem kl_ne {p q : Pt} (hp : smallP p) (hq : smallP q) (h : p ≠ q) : klP p ≠ klP q := fun e => by
  have h1 := kl_key hp
  have h2 := kl_key hq
  rw [← e] at h2
  exact h (ptV_inj (law_pt.inj h1 h2))
/-- The map holds just these points, each with its place. -/
def Ties (D : DataW Unit) (ps : List Pt) : Prop := ∀ p, smallP p → Maps.has D (klP p) = decide (p ∈ ps) ∧ (p ∈ ps → D.atKey (klP p) (.lit (.int .i64 0)) = .lit (.int .i64 ((ps.idxOf p : Nat) : Int)))
theorem ties_nil : Ties (.map []) [] := fun p hp => ⟨by simp [Maps.has], fun h => by simp at h⟩
theorem ties_put {D : DataW Unit} {ps : List Pt} {x : Pt} (h : Ties D ps) (hD : IsMap D) (hx : smallP x) (hn : x ∉ ps) : Ties (D.put (klP x) (.lit (.int .i64 ((ps.length : Nat) : Int)))) (ps ++ [x]) := by
  intro p hp
  by_cases e : p = x
  · subst e
    have hk := law_pt.key (kl_key hp)
    rw [has_put_same hD hk, atKey_put_same hD hk]
    refine ⟨by simp, fun _ => ?_⟩
    rw [List.idxOf_append]
    simp [hn]
  · have hne := kl_ne hp hx e
    rw [has_put_other hne, atKey_put_other hne]
    obtain ⟨h1, h2⟩ := h p hp
    refine ⟨by rw [h1]; simp [e], fun hm => ?_⟩
    have hm' : p ∈ ps := by simpa [e] using hm
    rw [h2 hm', List.idxOf_append]
    simp [hm']
end Go.Proofs.Ytljgaepgblakhaa
