/- A range over a function whose iterator keeps cells of its own, of one type, and hands out memory that it has made: the law for the statement. Conditions: each lemma's own. -/
import Derived.RangeFuncNested
import Derived.RangeFuncBound
import Derived.RangeFuncCalls
import Derived.RangeFuncLeaves
import Derived.RangeFuncWrites
import Derived.Test.YtmfienlceobfeaaDoorBase
namespace Go.Proofs.YtmfienlceobfeaaDoor
set_option linter.unusedSimpArgs false
open Go.RowKit
set_option linter.unusedVariables false
set_option linter.unnecessarySimpa false
/-- From W to W' nothing has turned but blocks from B on whose element type is t; and new ones. -/
structure KeepT (B t : Nat) (W W' : World) : Prop where
  os : W'.os = W.os
  tape : W'.tape = W.tape
  output : W'.output = W.output
  size : W.heap.size ≤ W'.heap.size
  block : ∀ k o, W.heap[k]? = some o → (k < B ∨ ∀ cs fr, o ≠ .cells cs t fr) → W'.heap[k]? = some o
section
variable {B B' t : Nat} {W W' X : World}
theorem KeepT.refl (B t : Nat) (W : World) : KeepT B t W W := ⟨rfl, rfl, rfl, Nat.le_refl _, fun _ _ h _ => h⟩
theorem KeepT.trans (h : KeepT B t W W') (k : KeepT B t W' X) : KeepT B t W X := ⟨k.os.trans h.os, k.tape.trans h.tape, k.output.trans h.output, Nat.le_trans h.size k.size, fun i o hi ho => k.block i o (h.block i o hi ho) ho⟩
theorem KeepT.mono (h : KeepT B t W W') (hB : B' ≤ B) : KeepT B' t W W' := ⟨h.os, h.tape, h.output, h.size, fun i o hi ho => h.block i o hi (ho.imp (fun x => by omega) id)⟩
theorem KeepT.of_below (h : Below W.heap.size W W') : KeepT B t W W' := ⟨h.os, h.tape, h.output, h.size, fun i o hi _ => (h.block i (Array.getElem?_eq_some_iff.1 hi).1).trans hi⟩
theorem KeepT.set_ {g o : Nat} {cs : Array Value} {fr : Nat × Nat} (hg : W.heap[g]? = some (.cells cs t fr)) (hB : B ≤ g) (u : Value) : KeepT B t W (W.setCell ⟨g, o, none⟩ u) :=
  ⟨rfl, rfl, rfl, by simp, fun k x hk hx => by
    have hne : g ≠ k := by
      rintro rfl
      rw [hg] at hk
      injection hk with hk
      rcases hx with hx | hx
      · omega
      · exact hx cs fr hk.symm
    exact (heap_setCell_other W ⟨g, o, none⟩ k u (fun e => hne (by simpa using e.symm))).trans hk⟩
end
/-- The iterator's contract: it hands each round what it has made (Xok), asks of a round that goes on that it keeps Kp, and turns but cells of its own, of element type t. -/
def SeqStopsX {α : Type} (F : Fence) (n : Nat) (P : Program) (g : Nat) (lb : Array Value) (encs : α → Array Value) (Xok : α → World → Prop) (t : Nat) (Kp : World → World → Prop) (S Sp : List α → Prop) (w : World) : Prop :=
  ∀ (l : Nat) (J Jx : List α → World → Prop) (W : World), Below w.heap.size w W → (∀ s A B, J s A → KeepT W.heap.size t A B → J s B) → (∀ s A B, Jx s A → KeepT W.heap.size t A B → Jx s B) →
    (∀ pre x W1, J pre W1 → Xok x W1 → YieldAt F (n - 1) P l (encs x) W1 fun e W' =>
      (e = .returned (.bool true) ∧ J (pre ++ [x]) W' ∧ Kp W1 W') ∨ (e = .returned (.bool false) ∧ Jx (pre ++ [x]) W')) →
    J [] W →
    CallsIn F n P g (#[.func (.yield l) #[] #[]] ++ lb) W fun e W' => (∃ v, e = .returned v) ∧ ((∃ xs, S xs ∧ J xs W') ∨ (∃ pre, Sp pre ∧ Jx pre W'))
/-- The two blocks that the statement lays for itself: its calls' block D, its record behind it. -/
def Book (D : Nat) (r : Loop) (W : World) : Prop := W.heap[D]? = some (.deferred (some [])) ∧ W.heap[D + 1]? = some (.loop r)
section
variable {D B t : Nat} {r : Loop} {W X : World}
theorem Book.lay (w : World) (r : Loop) : Book w.heap.size r ((w.alloc (.deferred (some []))).alloc (.loop r)) := by
  constructor
  · rw [Below.heap_alloc _ _ _ (by simp)]
    exact World.alloc_heap_new w _
  · have := World.alloc_heap_new (w.alloc (.deferred (some []))) (.loop r)
    rwa [World.size_alloc] at this
theorem Book.keepT (h : Book D r W) (k : KeepT B t W X) : Book D r X := ⟨k.block _ _ h.1 (.inr (fun _ _ e => nomatch e)), k.block _ _ h.2 (.inr (fun _ _ e => nomatch e))⟩
theorem Book.from_ (h : Book D r W) (k : KeepsFrom D W X) : Book D r X := ⟨k.same D _ (Nat.le_refl D) h.1 rfl, k.same (D + 1) _ (Nat.le_succ D) h.2 rfl⟩
theorem Book.turn (h : Book D r W) (r' : Loop) : Book D r' (W.putObj (D + 1) (.loop r')) :=
  ⟨(World.putObj_heap_other (show D ≠ D + 1 by omega)).trans h.1, World.putObj_heap_same (Array.getElem?_eq_some_iff.1 h.2).1⟩
theorem Book.shut (h : Book D r W) (o : Obj) : (W.putObj (D + 1) o).heap[D]? = some (.deferred (some [])) := (World.putObj_heap_other (show D ≠ D + 1 by omega)).trans h.1
end
/-- The jump by which a round is left. -/
def jumpX : Exit → Option Code
  | .ret => some .ret
  | .exit id => some (.exit id)
  | .goto l => some (.goto l)
  | _ => none
variable {F : Fence} {n : Nat} {P : Program}
/-- The statement, by its iterator's contract; the loop's variable may lie in a cell that each round lays. -/
theorem wpIn_rangeFunc_ownX {α : Type} {g : Operand} {ps : Array Tmp} {asg bod : Code} {Q : Exit → Act → World → Prop} {a : Act} {w w0 : World} {gf t : Nat} {lb : Array Value}
    {encs : α → Array Value} {Xok : α → World → Prop} {Kp : World → World → Prop} {S Sp : List α → Prop}
    (round0 : F.round = none) (deep : 1 ≤ n) (hg : a.eval g = .func (.func gf) #[] lb) (hF : F.fn gf) (enters : ∀ args w, (callFunc gf args).run P w = .ok (.enter gf args) w) (arity : ∀ x, (encs x).size = ps.size)
    (C : SeqStopsX F (n - 1) P gf lb encs Xok t Kp S Sp w0) (since : Below w0.heap.size w0 w)
    (kTrans : ∀ {A B C : World}, Kp A B → Kp B C → Kp A C) (kPut : ∀ (W : World) (l : Nat) (o o' : Obj), w.heap.size ≤ l → W.heap[l]? = some o → o.isCells = false → o.isWalk = false → Kp W (W.putObj l o'))
    (I : List α → World → Prop) (Ix : Code → List α → World → Prop) (iOwn : OwnFrom w.heap.size I) (xOwn : ∀ c, OwnFrom w.heap.size (Ix c)) (iT : ∀ s A B, I s A → KeepT w.heap.size t A B → I s B) (xT : ∀ c s A B, Ix c s A → KeepT w.heap.size t A B → Ix c s B) (i0 : I [] w)
    (Ax : α → Act → World → Prop) (aOwn : ∀ x a', OwnFrom w.heap.size (fun (_ : Unit) W => Ax x a' W))
    (assign : ∀ (l : Nat) (pre : List α) (x : α) (W : World) (K : Act → World → Prop), I pre W → Xok x W → (∀ a' W', KeepsFrom w.heap.size W W' → Kp W W' → I pre W' → Ax x a' W' → K a' W') → asg.wpIn (F.inRound l) (n - 1 - 1) P (Exit.then K (fun _ _ _ => False)) { tmps := (ps.zip (encs x)).foldl (fun t (p, v) => t.setIfInBounds p v) a.tmps, defers := [] } W)
    (body : ∀ (l : Nat) (pre : List α) (x : α) (a' : Act) (W : World), I pre W → Ax x a' W → bod.wpIn (F.inRound l) (n - 1 - 1) P (ownPostG w.heap.size Kp I Ix (pre ++ [x]) W) a' W)
    (done : ∀ (D : Nat) (xs : List α) (W : World), w.heap.size ≤ D → S xs → I xs W → W.heap[D]? = some (.deferred (some [])) → Q .normal { a with defers := { target := .collected D, args := #[] } :: a.defers } W)
    (stop : ∀ (D : Nat) (c : Code) (pre : List α) (W : World), w.heap.size ≤ D → Sp pre → Ix c pre W → W.heap[D]? = some (.deferred (some [])) → c.wpIn F n P Q { a with defers := { target := .collected D, args := #[] } :: a.defers } W) :
    (Code.rangeFunc g ps asg bod).wpIn F n P Q a w := by
  refine wpIn_rangeFunc fun fn hfn => ?_
  rw [round0]
  obtain ⟨D, hD⟩ : ∃ D, D = w.heap.size := ⟨_, rfl⟩
  obtain ⟨r, hr⟩ : ∃ r : LoopState → Option Code → Loop, r = fun st pe => { state := st, pending := pe, fn, tmps := a.tmps, params := ps, assign := asg, body := bod, defers := D } := ⟨_, rfl⟩
  have b0 := Book.lay w (r .ready none)
  have j0 : I [] ((w.alloc (.deferred (some []))).alloc (.loop (r .ready none))) := iOwn.alloc _ (iOwn.alloc _ i0)
  have s0 : Below w0.heap.size w0 ((w.alloc (.deferred (some []))).alloc (.loop (r .ready none))) := since.trans ((((Below.refl _ w).alloc (Nat.le_refl _) _).alloc (by simp) _).mono since.size)
  have z0 : w.heap.size ≤ ((w.alloc (.deferred (some []))).alloc (.loop (r .ready none))).heap.size := by simp; omega
  rw [← hD] at b0
  refine ⟨D + 1, [{ target := .collected D, args := #[] }], (w.alloc (.deferred (some []))).alloc (.loop (r .ready none)), { target := .fn (.func gf) lb, args := #[.func (.yield (D + 1)) #[] #[]] }, (w.alloc (.deferred (some []))).alloc (.loop (r .ready none)), gf, #[.func (.yield (D + 1)) #[] #[]] ++ lb, (w.alloc (.deferred (some []))).alloc (.loop (r .ready none)), ?_, ?_, ?_, ?_, fun _ => deep, ?_⟩
  · rw [hr, hD]; exact run_enterLoop_outer _ _ _ _ _
  · simp only [resolve, hg]
    simp [go_sem]
  · intro f' hf'
    simp [Target.leads] at hf'
    subst hf'
    exact hF
  · simp [invoke, go_sem, enters]
  generalize (w.alloc (.deferred (some []))).alloc (.loop (r .ready none)) = W0 at *
  refine (C (D + 1) (fun pre W => I pre W ∧ Book D (r .ready none) W) (fun pre W => ∃ c, Ix c pre W ∧ Book D (r .done (some c)) W) W0 s0 (fun s A B h k => ⟨iT s A B h.1 (k.mono z0), h.2.keepT k⟩) (fun s A B ⟨c, h1, h2⟩ k => ⟨c, xT c s A B h1 (k.mono z0), h2.keepT k⟩) ?_ ⟨j0, b0⟩).mono ?_
  · intro pre x W0 hJ hx
    obtain ⟨hi0, hb0⟩ := hJ
    have hy := run_yield (P := P) (args := encs x) hb0.2 (by rw [hr]; exact arity x)
    rw [hr] at hy
    refine ⟨fn, _, asg, bod, hy, roundIn_of_wpIn hfn (assign _ pre x W0 _ hi0 hx fun a' W hka hkpa hi hax => ?_)⟩
    rw [← hD] at hka
    have hb := hb0.from_ hka
    have hbz := hb.turn { r .ready none with state := .busy }
    have hiz := iOwn.putObj (.loop { r .ready none with state := .busy }) hi (show w.heap.size ≤ D + 1 by omega) hb.2 rfl
    have haz := (aOwn x a').putObj (s := ()) (.loop { r .ready none with state := .busy }) hax (show w.heap.size ≤ D + 1 by omega) hb.2 rfl
    have hkz : Kp W (W.putObj (D + 1) (.loop { r .ready none with state := .busy })) := kPut _ _ _ _ (by omega) hb.2 rfl rfl
    have hbeg := run_beginRound (P := P) hb.2 (by rw [hr])
    -- what is done behind the body, however it has been left
    have behind : ∀ (j : Option Code) (V : World), KeepsFrom D (W.putObj (D + 1) (.loop { r .ready none with state := .busy })) V →
        (Instr.endRound (D + 1) j).run P V = .ok (.bool j.isNone) (V.putObj (D + 1) (.loop (r (if j.isNone then .ready else .done) j))) ∧ V.heap[D + 1]? = some (.loop { r .ready none with state := .busy }) ∧ Book D (r (if j.isNone then .ready else .done) j) (V.putObj (D + 1) (.loop (r (if j.isNone then .ready else .done) j))) := fun j V hk => by
      have hv := hbz.from_ hk
      refine ⟨?_, hv.2, hv.turn _⟩
      have := run_endRound (P := P) j hv.2
      rw [hr] at this ⊢
      exact this
    refine ⟨_, hbeg, wpIn_mono (body _ pre x a' _ hiz haz) ?_⟩
    rw [← hD]
    intro e b V hp
    have left : ∀ c, jumpX e = some c → KeepsFrom D (W.putObj (D + 1) (.loop { r .ready none with state := .busy })) V → Ix c (pre ++ [x]) V →
        ∃ v W', (Instr.endRound (D + 1) (jumpX e)).run P V = .ok v W' ∧ ((Ending.returned v = .returned (.bool true) ∧ (I (pre ++ [x]) W' ∧ Book D (r .ready none) W') ∧ Kp W0 W') ∨ (Ending.returned v = .returned (.bool false) ∧ ∃ c, Ix c (pre ++ [x]) W' ∧ Book D (r .done (some c)) W')) := fun c hj hk hc => by
      obtain ⟨q1, q2, q3⟩ := behind (jumpX e) V hk
      rw [hj] at q1 q3 ⊢
      exact ⟨_, _, q1, .inr ⟨rfl, c, (xOwn c).putObj _ hc (by omega) q2 rfl, q3⟩⟩
    cases e with
    | normal =>
      obtain ⟨q1, q2, q3⟩ := behind none V hp.1
      exact ⟨_, _, q1, .inl ⟨rfl, ⟨iOwn.putObj _ hp.2.2 (by omega) q2 rfl, q3⟩, kTrans hkpa (kTrans (kTrans hkz hp.2.1) (kPut _ _ _ _ (by omega) q2 rfl rfl))⟩⟩
    | ret => exact left _ rfl hp.1 hp.2
    | exit id => exact left _ rfl hp.1 hp.2
    | goto l => exact left _ rfl hp.1 hp.2
    | panic ch => exact hp.elim
    | outgrown => exact hp.elim
  · rintro e V ⟨⟨v, rfl⟩, h⟩
    rcases h with ⟨xs, hS, hi, hb⟩ | ⟨pre, hSp, c, hi, hb⟩
    · have q := run_endLoop (P := P) hb.2 (by rw [hr]; simp)
      rw [hr] at q
      exact ⟨none, _, q, done D xs _ (by omega) hS (iOwn.putObj _ hi (by omega) hb.2 rfl) (hb.shut _)⟩
    · have q := run_endLoop (P := P) hb.2 (by rw [hr]; simp)
      rw [hr] at q
      exact ⟨some c, _, q, stop D c pre _ (by omega) hSp ((xOwn c).putObj _ hi (by omega) hb.2 rfl) (hb.shut _)⟩
end Go.Proofs.YtmfienlceobfeaaDoor
