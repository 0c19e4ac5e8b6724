/- Plain words on a trimmed graph: it says what it said, no point comes twice, none makes no difference, and trimming it again changes nothing. No condition but each lemma's own. -/
import Derived.Test.YtljgaepgblakhaaJ929dd2a828
namespace Go.Proofs.Ytljgaepgblakhaa
set_option linter.unusedSimpArgs false
open Go.RowKit
set_option linter.unusedVariables false
set_option linter.unnecessarySimpa false
/-- No look leads to one place. -/
def NoSame (ps : List Pt) : Prop := ∀ p ∈ ps, p.op ≠ 0 → p.y ≠ p.n
theorem ins_same {ps : List Pt} {x : Pt} (h : NoSame ps) (hx : x.op ≠ 0 → x.y ≠ x.n) : NoSame (ins ps x) := by
  unfold ins
  split
  · exact h
  · intro p hp
    rcases List.mem_append.1 hp with h1 | h1
    · exact h p h1
    · simp at h1
      subst h1
      exact hx
theorem look_same {ps : List Pt} {x : Pt} (h : NoSame ps) : NoSame (look ps x).1 := by
  unfold look
  split
  · exact h
  · rename_i hne
    exact ins_same h (fun _ => hne)
theorem leaf_eq {p : Pt} {i : Int} (h : ptB p i = true) (h0 : p.op = 0) : p = leafP p.v ∧ 1 ≤ p.v ∧ p.v ≤ 4 := by
  obtain ⟨v, f, m, op, x, y, n⟩ := p
  simp only at h0
  subst h0
  unfold ptB verB leafB at h
  simp at h
  unfold leafP
  simp
  omega
/-- What is marked is the beginning, or what a marked look leads to. -/
theorem markAll_inv {g : List Pt} {k i : Nat} {U : List Bool} (h : (markAll g k U).getD i false = true) :
    U.getD i false = true ∨ ∃ j p, j < k ∧ g[j]? = some p ∧ p.op ≠ 0 ∧ (markAll g k U).getD j false = true ∧ (p.y.toNat = i ∨ p.n.toNat = i) := by
  induction k generalizing U with
  | zero => exact .inl h
  | succ k ih =>
    rw [markAll] at h ⊢
    rcases ih h with h1 | ⟨j, p, hj, hp, h0, hm, hw⟩
    · by_cases hU : U.getD i false = true
      · exact .inl hU
      · refine .inr ?_
        unfold markAt at h1
        split at h1
        · rename_i p hp
          split at h1
          · rename_i hc
            refine ⟨k, p, by omega, hp, hc.2, markAll_mono (markAt_mono hc.1), ?_⟩
            rw [set_getD, set_getD] at h1
            split at h1
            · rename_i e; exact .inr e.1.symm
            · split at h1
              · rename_i e; exact .inl e.1.symm
              · exact absurd h1 hU
          · exact absurd h1 hU
        · exact absurd h1 hU
    · exact .inr ⟨j, p, by omega, hp, h0, hm, hw⟩
theorem usedF_inv {g : List Pt} {a i : Nat} (h : (usedF g a).getD i false = true) :
    i = a ∨ ∃ j p, j ≤ a ∧ g[j]? = some p ∧ p.op ≠ 0 ∧ (usedF g a).getD j false = true ∧ (p.y.toNat = i ∨ p.n.toNat = i) := by
  unfold usedF at h ⊢
  rcases markAll_inv h with h1 | ⟨j, p, hj, h2⟩
  · rw [set_getD] at h1
    split at h1
    · rename_i e; exact .inl e.1
    · simp only [List.getD, List.getElem?_replicate] at h1
      split at h1 <;> simp at h1
  · exact .inr ⟨j, p, by omega, h2⟩
/-- What a pass has come to, behind k points. -/
structure Pass (g : List Pt) (U : List Bool) (k : Nat) (st : List Pt × List Int) : Prop where
  gp : GP st.1
  nd : st.1.Nodup
  ns : NoSame st.1
  len : st.1.length ≤ k
  tlen : st.2.length = g.length
  low : ∀ j, 0 ≤ st.2.getD j 0
  lt : ∀ j, j < k → U.getD j false = true → st.2.getD j 0 < st.1.length ∧ ∀ num xs, runAt st.1 num xs (st.2.getD j 0).toNat = runAt g num xs j
  leads : ∀ j p, j < k → U.getD j false = true → g[j]? = some p → p.op ≠ 0 →
    (st.2.getD p.y.toNat 0 = st.2.getD j 0 ∧ st.2.getD p.n.toNat 0 = st.2.getD j 0) ∨ ∃ q, st.1[(st.2.getD j 0).toNat]? = some q ∧ q.op ≠ 0 ∧ q.y = st.2.getD p.y.toNat 0 ∧ q.n = st.2.getD p.n.toNat 0
  onto : ∀ m, m < st.1.length → ∃ j, j < k ∧ U.getD j false = true ∧ st.2.getD j 0 = (m : Int)
theorem Ext.at {ps qs : List Pt} (h : Ext ps qs) {k : Nat} {q : Pt} (hq : ps[k]? = some q) : qs[k]? = some q := by
  obtain ⟨t, rfl⟩ := h
  rw [List.getElem?_append_left (List.getElem?_eq_some_iff.1 hq).1]
  exact hq
/-- One point more: put at place e of ps', said alike, and led alike. -/
theorem pass_step {g : List Pt} {U : List Bool} {k : Nat} {st : List Pt × List Int} (I : Pass g U k st) (hg : GP g) (hk : k < g.length) {x : Pt} (hx : g[k]? = some x) (hU : U.getD k false = true) {r : List Pt × Int} (P : Put st.1 1 r) (hs : NoSame r.1)
    (hsay : ∀ num xs, says r num xs = runAt g num xs k)
    (hlead : x.op ≠ 0 → (st.2.getD x.y.toNat 0 = r.2 ∧ st.2.getD x.n.toNat 0 = r.2) ∨ ∃ q, r.1[r.2.toNat]? = some q ∧ q.op ≠ 0 ∧ q.y = st.2.getD x.y.toNat 0 ∧ q.n = st.2.getD x.n.toNat 0)
    (honto : r.1.length = st.1.length ∨ r.2 = st.1.length) : Pass g U (k + 1) (r.1, st.2.set k r.2) := by
  have hst := I.tlen
  have hl := P.ext.len
  have hlen := P.len
  have hIl := I.len
  have own : ∀ j, j ≠ k → (st.2.set k r.2).getD j 0 = st.2.getD j 0 := fun j hj => by rw [iset_getD, if_neg (by omega)]
  have self : (st.2.set k r.2).getD k 0 = r.2 := by rw [iset_getD, if_pos ⟨rfl, by omega⟩]
  refine ⟨P.gp, P.nd, hs, by simp only; omega, by simp only [List.length_set]; exact hst, fun j => ?_, fun j hj hjU => ?_, fun j p hj hjU hp h0 => ?_, fun m hm => ?_⟩
  · simp only
    by_cases h : j = k
    · subst h; rw [self]; exact P.lo
    · rw [own j h]; exact I.low j
  · simp only
    by_cases h : j = k
    · subst h
      rw [self]
      exact ⟨P.hi, hsay⟩
    · rw [own j h]
      obtain ⟨h1, h2⟩ := I.lt j (by omega) hjU
      have h0 := I.low j
      refine ⟨by omega, fun num xs => ?_⟩
      rw [P.ext.run P.gp (by omega)]
      exact h2 num xs
  · simp only
    obtain ⟨_, _, _, _, _, _, _, w1, w2, w3, w4⟩ := ptB_look (hg j p hp) h0
    rw [own p.y.toNat (by omega), own p.n.toNat (by omega)]
    by_cases h : j = k
    · subst h
      rw [self]
      rw [hx] at hp
      injection hp with hp
      subst hp
      exact hlead h0
    · rw [own j h]
      rcases I.leads j p (by omega) hjU hp h0 with h1 | ⟨q, hq, h1⟩
      · exact .inl h1
      · exact .inr ⟨q, P.ext.at hq, h1⟩
  · simp only at hm ⊢
    by_cases h : m < st.1.length
    · obtain ⟨j, h1, h2, h3⟩ := I.onto m h
      exact ⟨j, by omega, h2, by rw [own j (by omega)]; exact h3⟩
    · have hhi := P.hi
      rcases honto with h1 | h1
      · omega
      · exact ⟨k, by omega, hU, by rw [self]; omega⟩
theorem ins_onto (ps : List Pt) (x : Pt) : (ins ps x).length = ps.length ∨ ((ps.idxOf x : Nat) : Int) = (ps.length : Int) := by
  unfold ins
  split
  · exact .inl rfl
  · rename_i h
    exact .inr (by rw [List.idxOf_eq_length h])
theorem pass_sem {g : List Pt} (hg : GP g) (hgo : GOk g) {a : Nat} : ∀ k, k ≤ g.length → Pass g (usedF g a) k (passT g (usedF g a) k) := by
  intro k
  induction k with
  | zero =>
    intro _
    refine ⟨GP.nil_, by simp [passT], fun p hp => by simp [passT] at hp, by simp [passT], by simp [passT], fun j => ?_, fun j hj => by omega, fun j p hj => by omega, fun m hm => by simp [passT] at hm⟩
    simp only [passT, List.getD, List.getElem?_replicate]; split <;> simp
  | succ k ih =>
    intro hk
    have I := ih (by omega)
    rw [passT]
    generalize passT g (usedF g a) k = st at *
    obtain ⟨x, hx⟩ := some_at (rfl : g.length = g.length) (show k < g.length by omega)
    have hIl := I.len
    unfold stepT
    rw [hx]
    simp only
    by_cases hU : (usedF g a).getD k false = true
    · rw [if_pos hU]
      by_cases h0 : x.op = 0
      · rw [if_pos h0]
        obtain ⟨e, v1, v2⟩ := leaf_eq (hg k x hx) h0
        obtain ⟨P, S⟩ := leaf_put I.gp I.nd (v := x.v) ⟨v1, v2⟩
        rw [← e] at P S
        have := pass_step I hg (by omega) hx hU P (ins_same I.ns (fun h => absurd h0 h)) (fun num xs => by rw [S num xs, runAt_leaf hx h0]) (fun h => absurd h0 h) (ins_onto _ _)
        exact this
      · rw [if_neg h0]
        obtain ⟨hUy, hUn⟩ := usedF_closed hgo hx h0 hU
        obtain ⟨p1, p2, p3, p4, p5, p6, p7, w1, w2, w3, w4⟩ := ptB_look (hg k x hx) h0
        obtain ⟨ly, ry⟩ := I.lt x.y.toNat (by omega) hUy
        obtain ⟨ln, rn⟩ := I.lt x.n.toNat (by omega) hUn
        have ly0 := I.low x.y.toNat
        have ln0 := I.low x.n.toNat
        have hv : x.v = 0 := by
          have := hg k x hx
          rw [ptB, if_neg h0] at this
          simp at this
          omega
        have hpt : ptB (led x st.2) st.1.length = true := by
          unfold ptB led
          simp only
          rw [if_neg h0]
          simp only [wordB, Bool.and_eq_true, Bool.or_eq_true, decide_eq_true_eq, beq_iff_eq]
          omega
        obtain ⟨P, S⟩ := look_put I.gp I.nd (x := led x st.2) h0 hpt
        refine pass_step I hg (by omega) hx hU P (look_same I.ns) (fun num xs => ?_) (fun _ => ?_) ?_
        · rw [S num xs, gp_look hg hx h0]
          show (if lookB (led x st.2) num xs = true then runAt st.1 num xs (st.2.getD x.y.toNat 0).toNat else runAt st.1 num xs (st.2.getD x.n.toNat 0).toNat) = _
          rw [ry num xs, rn num xs]
          rfl
        · unfold look
          split
          · rename_i he
            exact .inl ⟨rfl, he.symm⟩
          · obtain ⟨_, gq⟩ := ins_put I.gp I.nd hpt
            exact .inr ⟨led x st.2, by simpa using gq, h0, rfl, rfl⟩
        · unfold look
          split
          · exact .inl rfl
          · exact ins_onto _ _
    · rw [if_neg hU]
      have hne : ∀ j, j < k + 1 → (usedF g a).getD j false = true → j < k := fun j hj hjU => by
        by_cases h : j = k
        · subst h; exact absurd hjU hU
        · omega
      exact ⟨I.gp, I.nd, I.ns, by omega, I.tlen, I.low, fun j hj hjU => I.lt j (hne j hj hjU) hjU, fun j p hj hjU hp h => I.leads j p (hne j hj hjU) hjU hp h, fun m hm => by
        obtain ⟨j, h1, h2⟩ := I.onto m hm
        exact ⟨j, by omega, h2⟩⟩
/-- All points of a graph are marked from its last one on. -/
def AllUsed (t : List Pt) : Prop := ∀ m, m < t.length → (usedF t (t.length - 1)).getD m false = true
/-- What a graph is behind a pass. -/
structure Neat (t : List Pt) : Prop where
  gp : GP t
  nd : t.Nodup
  ns : NoSame t
  all : AllUsed t
  pos : 1 ≤ t.length
  max : t.length ≤ 120
theorem pass_neat {g : List Pt} (hg : GP g) (h120 : g.length ≤ 120) {a : Nat} (ha : a < g.length) :
    Neat (passT g (usedF g a) (a + 1)).1 ∧ (passT g (usedF g a) (a + 1)).2.getD a 0 = ((passT g (usedF g a) (a + 1)).1.length : Int) - 1 ∧ (passT g (usedF g a) (a + 1)).1.length ≤ a + 1 ∧
    ∀ num xs, runAt (passT g (usedF g a) (a + 1)).1 num xs ((passT g (usedF g a) (a + 1)).1.length - 1) = runAt g num xs a := by
  have hgo := (graph_ok (hg.graph (by omega) h120)).1
  have I := pass_sem hg hgo (a := a) (a + 1) (by omega)
  have hself := usedF_self ha
  generalize hU : usedF g a = U at *
  generalize passT g U (a + 1) = st at *
  obtain ⟨lt, ra⟩ := I.lt a (by omega) hself
  have lo := I.low a
  have hlen := I.len
  have ho : GOk st.1 := (graph_ok (I.gp.graph (by omega) (by omega))).1
  -- marked from there on is all that a marked point became
  have key : ∀ d i, i + d = a → U.getD i false = true → (usedF st.1 (st.2.getD a 0).toNat).getD (st.2.getD i 0).toNat false = true := by
    intro d
    induction d using Nat.strongRecOn with
    | ind d ih =>
      intro i hid hiU
      have inv := hiU
      rw [← hU] at inv
      rcases usedF_inv inv with rfl | ⟨j, p, hj, hp, h0, hjU, hw⟩
      · exact usedF_self (by omega)
      · rw [hU] at hjU
        obtain ⟨_, _, _, _, _, _, _, w1, w2, w3, w4⟩ := ptB_look (hg j p hp) h0
        have hm := ih (a - j) (by omega) j (by omega) hjU
        have hlj := (I.lt j (by omega) hjU).1
        rcases I.leads j p (by omega) hjU hp h0 with ⟨e1, e2⟩ | ⟨q, hq, hq0, e1, e2⟩
        · rcases hw with rfl | rfl
          · rw [e1]; exact hm
          · rw [e2]; exact hm
        · obtain ⟨c1, c2⟩ := usedF_closed ho hq hq0 hm
          rcases hw with rfl | rfl
          · rw [← e1]; exact c1
          · rw [← e2]; exact c2
  have all : ∀ m, m < st.1.length → (usedF st.1 (st.2.getD a 0).toNat).getD m false = true := fun m hm => by
    obtain ⟨j, h1, h2, h3⟩ := I.onto m hm
    have := key (a - j) j (by omega) h2
    rw [h3] at this
    simpa using this
  have hlast : (st.2.getD a 0).toNat = st.1.length - 1 := by
    have h1 := all (st.1.length - 1) (by omega)
    by_cases h : (st.2.getD a 0).toNat < st.1.length - 1
    · rw [usedF_high ho h] at h1; cases h1
    · omega
  refine ⟨⟨I.gp, I.nd, I.ns, fun m hm => by rw [← hlast]; exact all m hm, by omega, by omega⟩, by omega, hlen, fun num xs => ?_⟩
  rw [← hlast]
  exact ra num xs
theorem trimN_neat {g : List Pt} (hg : GP g) (h120 : g.length ≤ 120) {a f : Nat} (ha : a < g.length) (hf : 1 ≤ f) :
    Neat (trimN f g a) ∧ (trimN f g a).length ≤ a + 1 ∧ ∀ num xs, runAt (trimN f g a) num xs ((trimN f g a).length - 1) = runAt g num xs a := by
  obtain ⟨f, rfl⟩ : ∃ f', f = f' + 1 := ⟨f - 1, by omega⟩
  obtain ⟨h1, h2, h3, h4⟩ := pass_neat hg h120 ha
  rw [trimN, if_pos h2]
  exact ⟨h1, h3, h4⟩
/-- A neat graph is left as it is. -/
theorem neat_pass {t : List Pt} (h : Neat t) : ∀ k, k ≤ t.length → (passT t (usedF t (t.length - 1)) k).1 = t.take k ∧ (passT t (usedF t (t.length - 1)) k).2.length = t.length ∧ ∀ j, j < k → (passT t (usedF t (t.length - 1)) k).2.getD j 0 = (j : Int) := by
  intro k
  induction k with
  | zero => intro _; exact ⟨by simp [passT], by simp [passT], fun j hj => by omega⟩
  | succ k ih =>
    intro hk
    obtain ⟨e1, e2, e3⟩ := ih (by omega)
    rw [passT]
    have hall := h.all k (by omega)
    generalize usedF t (t.length - 1) = U at *
    generalize passT t U k = st at *
    obtain ⟨x, hx⟩ := some_at (rfl : t.length = t.length) (show k < t.length by omega)
    have hxk : t[k]'(by omega) = x := by
      have := List.getElem?_eq_getElem (l := t) (i := k) (by omega)
      rw [hx] at this
      injection this with this
      exact this.symm
    have hni : x ∉ t.take k := by
      intro hm
      obtain ⟨i, hi, e⟩ := List.getElem_of_mem hm
      rw [List.length_take] at hi
      rw [List.getElem_take, ← hxk] at e
      exact List.pairwise_iff_getElem.1 h.nd i k (by omega) (by omega) (by omega) e
    have hins : ins st.1 x = t.take (k + 1) ∧ ((st.1.idxOf x : Nat) : Int) = (k : Int) := by
      rw [e1]
      unfold ins
      rw [if_neg hni, List.take_add_one, hx, List.idxOf_eq_length hni, List.length_take]
      refine ⟨rfl, by omega⟩
    have upd : ∀ j, j < k + 1 → (st.2.set k ((st.1.idxOf x : Nat) : Int)).getD j 0 = (j : Int) := fun j hj => by
      rw [iset_getD]
      split
      · rename_i hc; rw [hins.2, hc.1]
      · rename_i hc; exact e3 j (by omega)
    unfold stepT
    rw [hx]
    simp only
    rw [if_pos hall]
    by_cases h0 : x.op = 0
    · rw [if_pos h0]
      exact ⟨hins.1, by simp [e2], upd⟩
    · rw [if_neg h0]
      obtain ⟨_, _, _, _, _, _, _, w1, w2, w3, w4⟩ := ptB_look (h.gp k x hx) h0
      have hled : led x st.2 = x := by
        obtain ⟨v, f, m, op, xx, y, n⟩ := x
        simp only at w1 w2 w3 w4
        unfold led
        simp only
        rw [e3 y.toNat (by omega), e3 n.toNat (by omega)]
        congr 1 <;> omega
      have hne := h.ns x (List.mem_of_getElem? hx) h0
      rw [hled]
      unfold look
      rw [if_neg hne]
      exact ⟨hins.1, by simp [e2], upd⟩
theorem neat_trim {t : List Pt} (h : Neat t) {f : Nat} (hf : 1 ≤ f) : trimN f t (t.length - 1) = t := by
  obtain ⟨f, rfl⟩ : ∃ f', f = f' + 1 := ⟨f - 1, by omega⟩
  have hp := h.pos
  obtain ⟨e1, e2, e3⟩ := neat_pass h t.length (Nat.le_refl _)
  rw [trimN]
  rw [show t.length - 1 + 1 = t.length from by omega, e3 (t.length - 1) (by omega), e1, List.take_length]
  rw [if_pos (by omega)]
theorem Neat.ok {t : List Pt} (h : Neat t) : graphB t = true := h.gp.graph h.pos h.max
end Go.Proofs.Ytljgaepgblakhaa
