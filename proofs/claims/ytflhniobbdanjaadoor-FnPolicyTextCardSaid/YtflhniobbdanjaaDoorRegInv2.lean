/- A region that draws its order, by an invariant, guarded operations too: each operation is stepped through once. Conditions: each lemma's own. -/
import Derived.OrdersHeld
import Derived.Deep.RegionHeld3
import Derived.Test.YtflhniobbdanjaaDoorRegInv
import Derived.Test.YtflhniobbdanjaaDoorBase
namespace Go.Proofs.YtflhniobbdanjaaDoor
set_option linter.unusedSimpArgs false
open Go.RowKit
set_option linter.unusedVariables false
set_option linter.unnecessarySimpa false
section
variable {P : Program} {ops : Array Oper} {Q : Exit → Act → World → Prop}
/-- Each operation waits only for such as stand ahead of it. -/
theorem ready_allG (hb : (ops.toList.zipIdx.all fun q => q.1.after.all fun e => !Region.binds .any e || decide (e.on < q.2)) = true) (L : Array Bool) (hL : L.size = ops.size) (hr : Region.ready .any ops L = []) : cntL L = ops.size := by
  have key : ∀ i, i < ops.size → L.getD i true = true := by
    intro i
    induction i using Nat.strongRecOn with
    | _ i ih =>
      intro hi
      cases hg : L.getD i true with
      | true => rfl
      | false =>
        exfalso
        have ho : ops[i]? = some ops[i] := Array.getElem?_eq_getElem hi
        have hm : i ∈ Region.ready .any ops L := by
          refine mem_ready.2 ⟨hg, ops[i], ho, fun e he hbi => ?_⟩
          have h1 := List.all_eq_true.1 hb (ops[i], i) (List.mem_zipIdx_iff_getElem?.2 (by simpa using ho))
          have h2 : e.on < i := by
            simp only [Array.all_eq_true'] at h1
            have := h1 e he
            rw [hbi] at this
            simpa using this
          have h3 := ih e.on h2 (by omega)
          have hlt : e.on < L.size := by omega
          simp [hlt] at h3 ⊢
          exact h3
        rw [hr] at hm
        cases hm
  unfold cntL
  have : L.toList.count true = L.toList.length := List.count_eq_length.2 (fun b hb' => by
    obtain ⟨i, hi, e⟩ := List.getElem_of_mem hb'
    have h1 := key i (by simp at hi; omega)
    simp at hi
    simp [hi] at h1
    rw [← e]
    simpa using h1.symm)
  rw [this]
  simpa using hL
/-- A step of an operation, wanted or not. -/
def StepG (P : Program) (ops : Array Oper) (Q : Exit → Act → World → Prop) (T : (Nat → Value) → Array Value) (W : Nat → World → Prop) (V : Nat → Value → World → Prop) (N : Nat) (i : Nat) (o : Oper) : Prop :=
  ∀ u w c, c < N → W c w → (∀ j ∈ (o.after.toList.filter (Region.binds .any)).map Edge.on, V j (u j) w) →
    ∀ K : Act → World → Prop, (∀ v w', W (c + 1) w' → (∀ j x, V j x w → V j x w') → V i v w' → K ⟨T (updU u i v), []⟩ w') →
      if Region.wanted o (yielded ops (T u)) = true then o.wp P ⟨T u, []⟩ w K Q else K ((⟨T u, []⟩ : Act).put o.dst undef) w
def StepsG (P : Program) (ops : Array Oper) (Q : Exit → Act → World → Prop) (T : (Nat → Value) → Array Value) (W : Nat → World → Prop) (V : Nat → Value → World → Prop) (N : Nat) : Nat → List Oper → Prop
  | _, [] => True
  | i, o :: os => StepG P ops Q T W V N i o ∧ StepsG P ops Q T W V N (i + 1) os
theorem StepsG.get {T : (Nat → Value) → Array Value} {W : Nat → World → Prop} {V : Nat → Value → World → Prop} {N : Nat} : ∀ {l : List Oper} {k : Nat}, StepsG P ops Q T W V N k l → ∀ {i : Nat} {o : Oper}, l[i]? = some o → StepG P ops Q T W V N (k + i) o
  | [], _, _, _, _, h => by simp at h
  | x :: l, k, h, 0, o, ho => by
    simp at ho
    subst ho
    exact h.1
  | x :: l, k, h, i + 1, o, ho => by
    have := h.2.get (i := i) (o := o) (by simpa using ho)
    rw [show k + (i + 1) = k + 1 + i by omega]
    exact this
theorem wpAny_invG {T : (Nat → Value) → Array Value} {W : Nat → World → Prop} {V : Nat → Value → World → Prop} (hs : StepsG P ops Q T W V ops.size 0 ops.toList)
    (hb : (ops.toList.zipIdx.all fun q => q.1.after.all fun e => !Region.binds .any e || decide (e.on < q.2)) = true)
    (hd : ∀ u w, W ops.size w → (∀ j, j < ops.size → V j (u j) w) → Q .normal ⟨T u, []⟩ w) :
    ∀ (fuel : Nat) (L : Array Bool) (u : Nat → Value) (w : World), L.size = ops.size → ops.size ≤ cntL L + fuel → W (cntL L) w → (∀ j, L.getD j false = true → V j (u j) w) → wpAny P .any ops Q fuel L ⟨T u, []⟩ w := by
  have fin : ∀ (L : Array Bool) (u : Nat → Value) (w : World), L.size = ops.size → cntL L = ops.size → W (cntL L) w → (∀ j, L.getD j false = true → V j (u j) w) → Q .normal ⟨T u, []⟩ w := by
    intro L u w hL hc hW hV
    rw [hc] at hW
    refine hd u w hW (fun j hj => hV j ?_)
    have hall : ∀ b ∈ L.toList, true = b := List.count_eq_length.1 (by unfold cntL at hc; rw [hc]; simpa using hL.symm)
    have hlt : j < L.size := by omega
    have := hall L[j] (by simp)
    simp [hlt, ← this]
  intro fuel
  induction fuel with
  | zero =>
    intro L u w hL hf hW hV
    have hc : cntL L = ops.size := by have := cntL_le L; omega
    refine ⟨?_, fin L u w hL hc hW hV⟩
    cases hr : Region.ready .any ops L with
    | nil => rfl
    | cons i rs =>
      exfalso
      have hi : i ∈ Region.ready .any ops L := by rw [hr]; exact List.mem_cons_self
      have hun := (mem_ready.1 hi).1
      have h1 := cntL_set hun
      have h2 := cntL_le (L.setIfInBounds i true)
      simp at h2
      omega
  | succ fuel ih =>
    intro L u w hL hf hW hV
    refine ⟨fun hr => fin L u w hL (ready_allG hb L hL hr) hW hV, fun i hi => ?_⟩
    obtain ⟨hun, o, ho, hall⟩ := mem_ready.1 hi
    have hst := hs.get (i := i) (o := o) (by simpa using ho)
    rw [Nat.zero_add] at hst
    have hset := cntL_set hun
    have hlt : cntL L < ops.size := by
      have h2 := cntL_le (L.setIfInBounds i true)
      simp at h2
      omega
    have := hst u w (cntL L) hlt hW (fun j hj => by
      obtain ⟨e, he, rfl⟩ := List.mem_map.1 hj
      obtain ⟨he1, he2⟩ := List.mem_filter.1 he
      exact hV _ (hall e (by simpa using he1) he2)) (wpAny P .any ops Q fuel (L.setIfInBounds i true)) (fun v w' hW' hm hv => ih _ _ _ (by simpa using hL) (by omega) (by rw [hset]; exact hW') (fun j hj => by
        unfold updU
        by_cases hjk : j = i
        · subst hjk
          rw [if_pos rfl]
          exact hv
        · rw [if_neg hjk]
          refine hm _ _ (hV j ?_)
          rw [Array.getD_eq_getD_getElem?, Array.getElem?_setIfInBounds_ne (by omega)] at hj
          rw [Array.getD_eq_getD_getElem?]
          exact hj))
    unfold wpOp
    simp only [ho]
    split
    · rename_i hw
      rw [if_pos hw] at this
      exact .inl this
    · rename_i hw
      rw [if_neg hw] at this
      exact this
/-- **A region that draws its order, by an invariant**; sl: the slot of each operation. -/
theorem wp_region_invG {id : Nat} (sl : List (Option Nat)) (W : Nat → World → Prop) (V : Nat → Value → World → Prop) {arr : Array Value} {w : World} (hm : P.follows .mixedOrders = true)
    (hb : (ops.toList.zipIdx.all fun q => q.1.after.all fun e => !Region.binds .any e || decide (e.on < q.2)) = true) (hW : W 0 w.drew)
    (hs : StepsG P ops Q (fun u => setAll arr sl u) W V ops.size 0 ops.toList)
    (hd : ∀ u w, W ops.size w → (∀ j, j < ops.size → V j (u j) w) → Q .normal ⟨setAll arr sl u, []⟩ w) : (Code.region id ops true).wp P Q ⟨arr, []⟩ w := by
  have e := setAll_id arr sl (fun j => match sl[j]? with | some (some s) => arr.getD s undef | _ => undef) 0 (fun j s hj => by rw [Nat.zero_add]; simp only [hj])
  have key := wpAny_invG (T := fun u => setAll arr sl u) hs hb hd ops.size (Array.replicate ops.size false) (fun j => match sl[j]? with | some (some s) => arr.getD s undef | _ => undef) w.drew (by simp) (by omega) (by
    have : cntL (Array.replicate ops.size false) = 0 := by unfold cntL; simp [List.count_replicate]
    rw [this]; exact hW) (fun j hj => by
    simp [Array.getD_eq_getD_getElem?, Array.getElem?_replicate] at hj
    split at hj <;> simp_all)
  refine wp_region_any hm ?_
  unfold setAll at key
  rw [e] at key
  exact key
/-- Whether a guarded operation is wanted. -/
theorem wanted_of {o : Oper} {tmps : Array Value} {j s : Nat} {want b : Bool} (hg : o.guard = some (j, want)) (hd : (ops[j]?).bind (·.dst) = some s) (ht : tmps[s]? = some (.bool b)) :
    Region.wanted o (yielded ops tmps) = (b == want) := by
  have hy : yielded ops tmps j = some b := by
    unfold yielded
    have e : ((ops[j]?).bind (·.dst)).bind (tmps[·]?) = some (.bool b) := by rw [hd]; exact ht
    simp only [e]
  unfold Region.wanted
  rw [hg]
  simp only [hy]
  cases b <;> cases want <;> rfl
theorem if_yes {p : Prop} [Decidable p] {a b : Prop} (h : p) (ha : a) : if p then a else b := by rw [if_pos h]; exact ha
theorem if_no {p : Prop} [Decidable p] {a b : Prop} (h : ¬ p) (hb : b) : if p then a else b := by rw [if_neg h]; exact hb
end
theorem cell_up {w w' : World} {p : Addr} {u : Value} (h : w.cell? p = some u) (k : Below w.heap.size w w') : w'.cell? p = some u := (k.cell (World.block_lt_of_cell? w p h)).trans h
end Go.Proofs.YtflhniobbdanjaaDoor
