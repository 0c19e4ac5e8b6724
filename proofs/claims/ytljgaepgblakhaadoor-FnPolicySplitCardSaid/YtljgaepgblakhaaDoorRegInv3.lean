/- A region that draws its order, by an invariant of what has come up, the slots and the world. Conditions: each lemma's own. -/
import Derived.Test.YtljgaepgblakhaaDoorRegInv2
namespace Go.Proofs.YtljgaepgblakhaaDoor
set_option linter.unusedSimpArgs false
open Go.RowKit
set_option linter.unusedVariables false
set_option linter.unnecessarySimpa false
def updB (l : Nat → Bool) (i : Nat) : Nat → Bool := fun j => if j = i then true else l j
section
variable {P : Program} {ops : Array Oper} {Q : Exit → Act → World → Prop}
def StepI (P : Program) (Q : Exit → Act → World → Prop) (T : (Nat → Value) → Array Value) (I : (Nat → Bool) → (Nat → Value) → World → Prop) (i : Nat) (o : Oper) : Prop :=
  o.guard = none ∧ ∀ l u w, l i = false → (∀ j ∈ (o.after.toList.filter (Region.binds .any)).map Edge.on, l j = true) → I l u w →
    ∀ K : Act → World → Prop, (∀ v w', I (updB l i) (updU u i v) w' → K ⟨T (updU u i v), []⟩ w') → o.wp P ⟨T u, []⟩ w K Q
def StepsI (P : Program) (Q : Exit → Act → World → Prop) (T : (Nat → Value) → Array Value) (I : (Nat → Bool) → (Nat → Value) → World → Prop) : Nat → List Oper → Prop
  | _, [] => True
  | i, o :: os => StepI P Q T I i o ∧ StepsI P Q T I (i + 1) os
theorem StepsI.get {T : (Nat → Value) → Array Value} {I : (Nat → Bool) → (Nat → Value) → World → Prop} : ∀ {l : List Oper} {k : Nat}, StepsI P Q T I k l → ∀ {i : Nat} {o : Oper}, l[i]? = some o → StepI P Q T I (k + i) o
  | [], _, _, _, _, h => by simp at h
  | x :: l, k, h, 0, o, ho => by
    simp at ho
    subst ho
    exact h.1
  | x :: l, k, h, i + 1, o, ho => by
    have := h.2.get (i := i) (o := o) (by simpa using ho)
    rw [show k + (i + 1) = k + 1 + i by omega]
    exact this
theorem updB_set (L : Array Bool) (i : Nat) (hi : i < L.size) : (fun j => (L.setIfInBounds i true).getD j false) = updB (fun j => L.getD j false) i := by
  funext j
  unfold updB
  by_cases h : j = i
  · subst h
    simp [hi]
  · rw [if_neg h, Array.getD_eq_getD_getElem?, Array.getElem?_setIfInBounds_ne (by omega), ← Array.getD_eq_getD_getElem?]
theorem wpAny_invI {T : (Nat → Value) → Array Value} {I : (Nat → Bool) → (Nat → Value) → World → Prop} (hs : StepsI P Q T I 0 ops.toList)
    (hb : (ops.toList.zipIdx.all fun q => q.1.after.all fun e => !Region.binds .any e || decide (e.on < q.2)) = true)
    (hd : ∀ l u w, (∀ j, j < ops.size → l j = true) → I l u w → Q .normal ⟨T u, []⟩ w) :
    ∀ (fuel : Nat) (L : Array Bool) (u : Nat → Value) (w : World), L.size = ops.size → ops.size ≤ cntL L + fuel → I (fun j => L.getD j false) u w → wpAny P .any ops Q fuel L ⟨T u, []⟩ w := by
  have fin : ∀ (L : Array Bool) (u : Nat → Value) (w : World), L.size = ops.size → cntL L = ops.size → I (fun j => L.getD j false) u w → Q .normal ⟨T u, []⟩ w := by
    intro L u w hL hc hI
    refine hd _ u w (fun j hj => ?_) hI
    have hall : ∀ b ∈ L.toList, true = b := List.count_eq_length.1 (by unfold cntL at hc; rw [hc]; simpa using hL.symm)
    have hlt : j < L.size := by omega
    have := hall L[j] (by simp)
    simp [hlt, ← this]
  intro fuel
  induction fuel with
  | zero =>
    intro L u w hL hf hI
    have hc : cntL L = ops.size := by have := cntL_le L; omega
    refine ⟨?_, fin L u w hL hc hI⟩
    cases hr : Region.ready .any ops L with
    | nil => rfl
    | cons i rs =>
      exfalso
      have hi : i ∈ Region.ready .any ops L := by rw [hr]; exact List.mem_cons_self
      have hun := (mem_ready.1 hi).1
      have h1 := cntL_set hun
      have h2 := cntL_le (L.setIfInBounds i true)
      simp at h2
      omega
  | succ fuel ih =>
    intro L u w hL hf hI
    refine ⟨fun hr => fin L u w hL (ready_allG hb L hL hr) hI, fun i hi => ?_⟩
    obtain ⟨hun, o, ho, hall⟩ := mem_ready.1 hi
    obtain ⟨hg, hst⟩ := hs.get (i := i) (o := o) (by simpa using ho)
    rw [Nat.zero_add] at hst
    have hset := cntL_set hun
    have hlt : i < L.size := by
      rcases Nat.lt_or_ge i L.size with h | h
      · exact h
      · simp [Array.getElem?_eq_none h] at hun
    have := hst (fun j => L.getD j false) u w (by simp [hlt] at hun ⊢; exact hun) (fun j hj => by
      obtain ⟨e, he, rfl⟩ := List.mem_map.1 hj
      obtain ⟨he1, he2⟩ := List.mem_filter.1 he
      exact hall e (by simpa using he1) he2) hI (wpAny P .any ops Q fuel (L.setIfInBounds i true)) (fun v w' hI' => ih _ _ _ (by simpa using hL) (by omega) (by rw [updB_set L i hlt]; exact hI'))
    unfold wpOp
    simp only [ho]
    have hw : Region.wanted o (yielded ops (T u)) = true := by unfold Region.wanted; rw [hg]
    rw [if_pos hw]
    exact .inl this
/-- **A region that draws its order, by an invariant**; sl: the slot of each operation. -/
theorem wp_region_invI {id : Nat} (sl : List (Option Nat)) (I : (Nat → Bool) → (Nat → Value) → World → Prop) {arr : Array Value} {w : World} (hm : P.follows .mixedOrders = true)
    (hb : (ops.toList.zipIdx.all fun q => q.1.after.all fun e => !Region.binds .any e || decide (e.on < q.2)) = true) (h0 : ∀ u l, (∀ j, l j = false) → I l u w.drew)
    (hs : StepsI P Q (fun u => setAll arr sl u) I 0 ops.toList)
    (hd : ∀ l u w, (∀ j, j < ops.size → l j = true) → I l u w → Q .normal ⟨setAll arr sl u, []⟩ w) : (Code.region id ops true).wp P Q ⟨arr, []⟩ w := by
  have e := setAll_id arr sl (fun j => match sl[j]? with | some (some s) => arr.getD s undef | _ => undef) 0 (fun j s hj => by rw [Nat.zero_add]; simp only [hj])
  have key := wpAny_invI (T := fun u => setAll arr sl u) hs hb hd ops.size (Array.replicate ops.size false) (fun j => match sl[j]? with | some (some s) => arr.getD s undef | _ => undef) w.drew (by simp) (by omega) (h0 _ _ (fun j => by
    simp only [Array.getD_eq_getD_getElem?, Array.getElem?_replicate]
    split <;> simp))
  refine wp_region_any hm ?_
  unfold setAll at key
  rw [e] at key
  exact key
end
end Go.Proofs.YtljgaepgblakhaaDoor
