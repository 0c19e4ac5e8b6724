/- A region that draws its order, by an invariant: each operation is stepped through once, whatever has come up before it. Conditions: each lemma's own. -/
import Derived.OrdersHeld
import Derived.Deep.RegionHeld3
import Derived.Test.YtflhniobbdanjaaDoorRows
namespace Go.Proofs.YtflhniobbdanjaaDoor
set_option linter.unusedSimpArgs false
set_option linter.unusedVariables false
set_option linter.unnecessarySimpa false
section
variable {P : Program} {ops : Array Oper} {Q : Exit → Act → World → Prop} {md : Region.Mode}
/-- How many are listed. -/
def cntL (L : Array Bool) : Nat := L.toList.count true
theorem cntL_le (L : Array Bool) : cntL L ≤ L.size := by
  unfold cntL
  have := List.count_le_length (a := true) (l := L.toList)
  simpa using this
theorem cntL_set {L : Array Bool} {i : Nat} (hi : L.getD i true = false) : cntL (L.setIfInBounds i true) = cntL L + 1 := by
  have hlt : i < L.size := by
    rcases Nat.lt_or_ge i L.size with h | h
    · exact h
    · simp [Array.getElem?_eq_none h] at hi
  unfold cntL
  rw [Array.toList_setIfInBounds, List.count_set (by simpa using hlt)]
  have e : L.toList[i]'(by simpa using hlt) = false := by
    have : L.getD i true = L[i] := by simp [hlt]
    rw [this] at hi
    simpa using hi
  rw [e]
  simp
/-- One operation from a state that meets the invariant leads to one that meets it. -/
def InvStep (P : Program) (md : Region.Mode) (Q : Exit → Act → World → Prop) (I : Array Bool → Act → World → Prop) (i : Nat) (o : Oper) : Prop :=
  o.guard = none ∧ ∀ L a w, I L a w → L.getD i true = false → (o.after.all fun e => !Region.binds md e || L.getD e.on false) = true →
    ∀ K : Act → World → Prop, (∀ a' w', I (L.setIfInBounds i true) a' w' → K a' w') → o.wp P a w K Q
def InvSteps (P : Program) (md : Region.Mode) (Q : Exit → Act → World → Prop) (I : Array Bool → Act → World → Prop) : Nat → List Oper → Prop
  | _, [] => True
  | i, o :: os => InvStep P md Q I i o ∧ InvSteps P md Q I (i + 1) os
theorem InvSteps.get {I : Array Bool → Act → World → Prop} : ∀ {l : List Oper} {k : Nat}, InvSteps P md Q I k l → ∀ {i : Nat} {o : Oper}, l[i]? = some o → InvStep P md Q I (k + i) o
  | [], _, _, _, _, h => by simp at h
  | x :: l, k, h, 0, o, ho => by
    simp at ho
    subst ho
    exact h.1
  | x :: l, k, h, i + 1, o, ho => by
    have := h.2.get (i := i) (o := o) (by simpa using ho)
    rw [show k + (i + 1) = k + 1 + i by omega]
    exact this
theorem wpAny_inv {I : Array Bool → Act → World → Prop} (hs : InvSteps P md Q I 0 ops.toList)
    (hd : ∀ L a w, I L a w → cntL L = ops.size → Q .normal a w) (hsz : ∀ L a w, I L a w → L.size = ops.size)
    (hac : ∀ L : Array Bool, L.size = ops.size → Region.ready md ops L = [] → cntL L = ops.size) :
    ∀ (fuel : Nat) (L : Array Bool) (a : Act) (w : World), ops.size ≤ cntL L + fuel → I L a w → wpAny P md ops Q fuel L a w
  | 0, L, a, w, hf, hI => by
    have hc : cntL L = ops.size := by
      have := cntL_le L
      have := hsz L a w hI
      omega
    refine ⟨?_, hd L a w hI hc⟩
    cases hr : Region.ready md ops L with
    | nil => rfl
    | cons i rs =>
      exfalso
      have hi : i ∈ Region.ready md ops L := by rw [hr]; exact List.mem_cons_self
      have hun := (mem_ready.1 hi).1
      have h1 := cntL_set hun
      have h2 := cntL_le (L.setIfInBounds i true)
      have h3 := hsz L a w hI
      simp at h2
      omega
  | fuel + 1, L, a, w, hf, hI => by
    refine ⟨fun hr => hd L a w hI (hac L (hsz L a w hI) hr), fun i hi => ?_⟩
    have hi' := hi
    obtain ⟨hun, o, ho, hall⟩ := mem_ready.1 hi
    obtain ⟨hg, hst⟩ := hs.get (i := i) (o := o) (by simpa using ho)
    rw [Nat.zero_add] at hst
    unfold wpOp
    simp only [ho]
    have hw : Region.wanted o (yielded ops a.tmps) = true := by unfold Region.wanted; rw [hg]
    rw [if_pos hw]
    refine .inl (hst L a w hI hun ?_ _ (fun a' w' h' => wpAny_inv hs hd hsz hac fuel _ a' w' (by rw [cntL_set hun]; omega) h'))
    simp only [Array.all_eq_true']
    intro e he
    have := hall e he
    cases hb : Region.binds md e with
    | false => simp
    | true => simp [this hb]

/-- Each operation waits only for such as stand ahead of it. -/
theorem ready_all (hb : (ops.toList.zipIdx.all fun q => q.1.after.all fun e => decide (e.on < q.2)) = true) (L : Array Bool) (hL : L.size = ops.size) (hr : Region.ready md ops L = []) : cntL L = ops.size := by
  have key : ∀ i, i < ops.size → L.getD i true = true := by
    intro i
    induction i using Nat.strongRecOn with
    | _ i ih =>
      intro hi
      cases hg : L.getD i true with
      | true => rfl
      | false =>
        exfalso
        have ho : ops[i]? = some ops[i] := Array.getElem?_eq_getElem hi
        have hm : i ∈ Region.ready md ops L := by
          refine mem_ready.2 ⟨hg, ops[i], ho, fun e he _ => ?_⟩
          have h1 := List.all_eq_true.1 hb (ops[i], i) (List.mem_zipIdx_iff_getElem?.2 (by simpa using ho))
          have h2 : e.on < i := by
            simp only [Array.all_eq_true'] at h1
            exact of_decide_eq_true (h1 e he)
          have h3 := ih e.on h2 (by omega)
          have hlt : e.on < L.size := by omega
          simp [hlt] at h3 ⊢
          exact h3
        rw [hr] at hm
        cases hm
  unfold cntL
  have : L.toList.count true = L.toList.length := List.count_eq_length.2 (fun b hb' => by
    obtain ⟨i, hi, e⟩ := List.getElem_of_mem hb'
    have h1 := key i (by simp at hi; omega)
    simp at hi
    simp [hi] at h1
    rw [← e]
    simpa using h1.symm)
  rw [this]
  simpa using hL
def updU (u : Nat → Value) (i : Nat) (v : Value) : Nat → Value := fun j => if j = i then v else u j
/-- The state of a region that draws its order, whatever has come up: slots T u; W of the count of what has come up; V of what an operation has left in its slot. -/
def InvU (T : (Nat → Value) → Array Value) (W : Nat → World → Prop) (V : Nat → Value → World → Prop) (n : Nat) (L : Array Bool) (a : Act) (w : World) : Prop :=
  L.size = n ∧ ∃ u, a = ⟨T u, []⟩ ∧ W (cntL L) w ∧ ∀ j, L.getD j false = true → V j (u j) w
def StepU (P : Program) (md : Region.Mode) (Q : Exit → Act → World → Prop) (T : (Nat → Value) → Array Value) (W : Nat → World → Prop) (V : Nat → Value → World → Prop) (N : Nat) (i : Nat) (o : Oper) : Prop :=
  o.guard = none ∧ ∀ u w c, c < N → W c w → (∀ j ∈ (o.after.toList.filter (Region.binds md)).map Edge.on, V j (u j) w) →
    ∀ K : Act → World → Prop, (∀ v w', W (c + 1) w' → (∀ j x, V j x w → V j x w') → V i v w' → K ⟨T (updU u i v), []⟩ w') → o.wp P ⟨T u, []⟩ w K Q
def StepsU (P : Program) (md : Region.Mode) (Q : Exit → Act → World → Prop) (T : (Nat → Value) → Array Value) (W : Nat → World → Prop) (V : Nat → Value → World → Prop) (N : Nat) : Nat → List Oper → Prop
  | _, [] => True
  | i, o :: os => StepU P md Q T W V N i o ∧ StepsU P md Q T W V N (i + 1) os
theorem StepsU.inv {T : (Nat → Value) → Array Value} {W : Nat → World → Prop} {V : Nat → Value → World → Prop} {n : Nat} : ∀ {l : List Oper} {k : Nat}, StepsU P md Q T W V n k l → InvSteps P md Q (InvU T W V n) k l
  | [], _, _ => trivial
  | o :: os, k, h => by
    refine ⟨⟨h.1.1, ?_⟩, h.2.inv⟩
    rintro L a w ⟨hL, u, rfl, hW, hV⟩ hun hdep K hK
    refine h.1.2 u w (cntL L) (by have h1 := cntL_set hun; have h2 := cntL_le (L.setIfInBounds k true); simp at h2; omega) hW (fun j hj => ?_) K (fun v w' hW' hm hv => hK _ _ ⟨by simpa using hL, updU u k v, rfl, by rw [cntL_set hun]; exact hW', fun j hj => ?_⟩)
    · obtain ⟨e, he, rfl⟩ := List.mem_map.1 hj
      obtain ⟨he1, he2⟩ := List.mem_filter.1 he
      simp only [Array.all_eq_true'] at hdep
      have := hdep e (by simpa using he1)
      rw [he2] at this
      exact hV _ (by simpa using this)
    · unfold updU
      by_cases hjk : j = k
      · subst hjk
        rw [if_pos rfl]
        exact hv
      · rw [if_neg hjk]
        have : L.getD j false = true := by
          rw [Array.getD_eq_getD_getElem?, Array.getElem?_setIfInBounds_ne (by omega)] at hj
          rw [Array.getD_eq_getD_getElem?]
          exact hj
        exact hm _ _ (hV j this)
/-- **A region that draws its order, by an invariant**: each operation once, whatever has come up before it. -/
theorem wp_region_inv {id : Nat} (T : (Nat → Value) → Array Value) (W : Nat → World → Prop) (V : Nat → Value → World → Prop) {a : Act} {w : World} (hm : P.follows .mixedOrders = true)
    (hb : (ops.toList.zipIdx.all fun q => q.1.after.all fun e => decide (e.on < q.2)) = true) (u : Nat → Value) (ha : a = ⟨T u, []⟩) (hW : W 0 w.drew)
    (hs : StepsU P .any Q T W V ops.size 0 ops.toList)
    (hd : ∀ u w, W ops.size w → (∀ j, j < ops.size → V j (u j) w) → Q .normal ⟨T u, []⟩ w) : (Code.region id ops true).wp P Q a w := by
  refine wp_region_any hm (wpAny_inv (I := InvU T W V ops.size) hs.inv ?_ (fun L a w h => h.1) (fun L hL hr => ready_all hb L hL hr) ops.size _ _ _ (by omega) ?_)
  · rintro L a w ⟨hL, u, rfl, hW, hV⟩ hc
    rw [hc] at hW
    refine hd u w hW (fun j hj => hV j ?_)
    have hall : ∀ b ∈ L.toList, true = b := List.count_eq_length.1 (by unfold cntL at hc; rw [hc]; simpa using hL.symm)
    have hlt : j < L.size := by omega
    have := hall L[j] (by simp)
    simp [hlt, ← this]
  · refine ⟨by simp, u, ha, ?_, fun j hj => ?_⟩
    · have : cntL (Array.replicate ops.size false) = 0 := by unfold cntL; simp [List.count_replicate]
      rw [this]; exact hW
    · simp [Array.getD_eq_getD_getElem?, Array.getElem?_replicate] at hj
      split at hj <;> simp_all
end
def putS (u : Nat → Value) (t : Array Value) (q : Option Nat × Nat) : Array Value := match q.1 with
  | some s => t.setIfInBounds s (u q.2)
  | none => t
theorem ka {K : Act → World → Prop} {t t' : Array Value} {w : World} (h : K ⟨t, []⟩ w) (e : t = t') : K ⟨t', []⟩ w := e ▸ h
/-- The slots with what the operations have left in theirs. -/
def setAll (arr : Array Value) (sl : List (Option Nat)) (u : Nat → Value) : Array Value := sl.zipIdx.foldl (putS u) arr
theorem putS_id {arr : Array Value} {u : Nat → Value} {q : Option Nat × Nat} (h : ∀ s, q.1 = some s → u q.2 = arr.getD s undef) : putS u arr q = arr := by
  obtain ⟨x, k⟩ := q
  cases x with
  | none => rfl
  | some s =>
    have := h s rfl
    simp only at this
    show arr.setIfInBounds s (u k) = arr
    rw [this]
    apply Array.ext
    · simp
    · intro i h1 h2
      rw [Array.getElem_setIfInBounds (by simpa using h2)]
      split
      · rename_i e
        subst e
        simp [h2]
      · rfl
theorem setAll_id (arr : Array Value) (sl : List (Option Nat)) (u : Nat → Value) (k : Nat) (h : ∀ j s, sl[j]? = some (some s) → u (k + j) = arr.getD s undef) :
    (sl.zipIdx k).foldl (putS u) arr = arr := by
  induction sl generalizing k with
  | nil => rfl
  | cons x xs ih =>
    rw [List.zipIdx_cons, List.foldl_cons, putS_id (fun s e => by
      have := h 0 s (by simpa using e)
      rwa [Nat.add_zero] at this)]
    exact ih (k + 1) (fun j s hj => by
      have := h (j + 1) s (by simpa using hj)
      rw [show k + 1 + j = k + (j + 1) by omega]
      exact this)
section
variable {P : Program} {ops : Array Oper} {Q : Exit → Act → World → Prop}
/-- As wp_region_inv; sl: the slot of each operation. -/
theorem wp_region_invS {id : Nat} (sl : List (Option Nat)) (W : Nat → World → Prop) (V : Nat → Value → World → Prop) {arr : Array Value} {w : World} (hm : P.follows .mixedOrders = true)
    (hb : (ops.toList.zipIdx.all fun q => q.1.after.all fun e => decide (e.on < q.2)) = true) (hW : W 0 w.drew)
    (hs : StepsU P .any Q (fun u => setAll arr sl u) W V ops.size 0 ops.toList)
    (hd : ∀ u w, W ops.size w → (∀ j, j < ops.size → V j (u j) w) → Q .normal ⟨setAll arr sl u, []⟩ w) : (Code.region id ops true).wp P Q ⟨arr, []⟩ w := by
  refine wp_region_inv (fun u => setAll arr sl u) W V hm hb (fun j => match sl[j]? with | some (some s) => arr.getD s undef | _ => undef) ?_ hW hs hd
  have := setAll_id arr sl (fun j => match sl[j]? with | some (some s) => arr.getD s undef | _ => undef) 0 (fun j s hj => by rw [Nat.zero_add]; simp only [hj])
  unfold setAll
  rw [this]
end
end Go.Proofs.YtflhniobbdanjaaDoor
