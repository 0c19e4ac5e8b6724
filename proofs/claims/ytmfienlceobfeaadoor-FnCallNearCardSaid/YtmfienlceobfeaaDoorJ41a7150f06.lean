/- For the laws on what returns a policy: what stays while marks are written. No condition. -/
import Derived.Test.YtmfienlceobfeaaDoorJb4d405ca82
import Derived.Test.YtmfienlceobfeaaDoorJc7e08d8ad5
import Derived.Test.YtmfienlceobfeaaDoorJe17d57b08f
namespace Go.Proofs.YtmfienlceobfeaaDoor
set_option linter.unusedSimpArgs false
open Go.RowKit
set_option linter.unusedVariables false
set_option linter.unnecessarySimpa false
/-- Blocks from lo on, below hi, are as they were. -/
def Mid (lo hi : Nat) (w w' : World) : Prop := Keep w w' (fun t => lo ≤ t ∧ t < hi)
section
variable {lo hi : Nat} {w wk W w2 : World}
theorem Mid.start (lo hi : Nat) (w : World) : Mid lo hi w w := Keep.refl _ _
theorem Mid.via (h : Mid lo hi w wk) (k : Below wk.heap.size wk W) (b : Below W.heap.size W w2) : Mid lo hi w w2 :=
  Keep.trans h (Keep.of_below (ok := fun t => t < wk.heap.size) (below_via k b) (fun t ht _ => ht)) (fun t _ ht => Nat.lt_of_lt_of_le ht h.size)
theorem Mid.viaK (h : Mid lo hi w wk) (k : Below wk.heap.size wk W) {ok : Nat → Prop} (b : Keep W w2 ok) (hr : ∀ t, lo ≤ t → t < hi → ok t) : Mid lo hi w w2 :=
  Keep.trans (Keep.trans h (Keep.of_below (ok := fun t => t < wk.heap.size) k (fun t ht _ => ht)) (fun t _ ht => Nat.lt_of_lt_of_le ht h.size)) b (fun t ht _ => hr t ht.1 ht.2)
theorem OP.mid {lo' hi' ER ET n c : Nat} {A : Option Addr} {qs : List (Rl × Value)} (h : OP w lo hi ER ET A n c qs) (m : Mid lo' hi' w wk) (h1 : lo' ≤ lo) (h2 : hi ≤ hi') (k : Below wk.heap.size wk W) : OP W lo hi ER ET A n c qs :=
  (OP.keep h m (fun t h3 h4 => ⟨Nat.le_trans h1 h3, Nat.lt_of_lt_of_le h4 h2⟩)).up k
theorem OP.rdX {ER ET n c : Nat} {A : Option Addr} {qs : List (Rl × Value)} {rs : List Rl} (h : OP W lo hi ER ET A n c qs) (e : rls qs = rs) : RdR W W.heap.size A n rs := e ▸ h.rd
theorem below_mark {lo hi : Nat} (h : Below w.heap.size w wk) (k : Below wk.heap.size wk W) (b : Keep W w2 (fun t => t < lo ∨ hi ≤ t)) (hl : w.heap.size ≤ lo) : Below w.heap.size w w2 :=
  (below_via h k).trans (b.below (Nat.le_trans h.size k.size) (fun t ht => .inl (Nat.lt_of_lt_of_le ht hl)))
theorem keep_cell {lo hi : Nat} (h : Keep w wk (fun t => t < lo ∨ hi ≤ t)) {b o : Nat} (hb : b < w.heap.size) (hk : b < lo ∨ hi ≤ b) : wk.cell? ⟨b, o, none⟩ = w.cell? ⟨b, o, none⟩ := World.cell?_of_block (w := w) (a := ⟨b, o, none⟩) (h.block b hb hk)
end
/-- The call returns such a policy in memory of its own, and whether it is one. -/
def RetPB (ER ET : Nat) (Rs : List Rl) (Re : Int) (ok : Bool) (w : World) (e : Ending) (w' : World) : Prop :=
  ∃ A c qs, e = .returned (.tuple #[.agg #[.slice A Rs.length c, .int .i64 Re], .bool ok]) ∧ rls qs = Rs ∧ OP w' w.heap.size w'.heap.size ER ET A Rs.length c qs ∧ Apart qs ∧ Below w.heap.size w w'
/-- Of few rules. -/
def Few (rs : List Rl) : Prop := rs.length ≤ 100 ∧ ruleN rs ≤ 1000
theorem few_ok {p : Pol} (h : polOk p = true) : Few p.rs := by
  obtain ⟨rs, e⟩ := p
  have h8 := (polOk_rules h).1
  refine ⟨show rs.length ≤ 100 by omega, ?_⟩
  have key : ∀ (l : List Rl), (∀ r ∈ l, r.ts.length ≤ 4) → ruleN l ≤ 4 * l.length := by
    intro l
    induction l with
    | nil => intro _; simp [ruleN]
    | cons r l ih =>
      intro hl
      have h1 := ih (fun r hr => hl r (by simp [hr]))
      have h2 := hl r (by simp)
      simp only [ruleN, List.map_cons, List.sum_cons, List.length_cons] at h1 ⊢
      omega
  have := key rs (polOk_ts h)
  show ruleN rs ≤ 1000
  omega
theorem few_nil : Few [] := ⟨by simp, by simp [ruleN]⟩
theorem few_okP (p : Pol) : Few (okP p).rs := by
  unfold okP
  split
  · rename_i h; exact few_ok h
  · exact few_nil
theorem few_join (p q : Pol) : Few (joinP p q).rs := by
  unfold joinP
  split
  · exact few_okP _
  · exact few_nil
theorem few_cnt {qs : List (Rl × Value)} {Rs : List Rl} (h : rls qs = Rs) (hf : Few Rs) : cnt qs ≤ 10000 := by
  subst h
  have h1 := cnt_ruleN qs
  have h2 := hf.1
  rw [rls_len] at h2
  have h3 := hf.2
  omega
theorem cnt_of {qs : List (Rl × Value)} {rs : List Rl} (h : rls qs = rs) : cnt qs = 3 * rs.length + 4 * ruleN rs := by
  subst h
  rw [cnt_ruleN, rls_len]
end Go.Proofs.YtmfienlceobfeaaDoor
