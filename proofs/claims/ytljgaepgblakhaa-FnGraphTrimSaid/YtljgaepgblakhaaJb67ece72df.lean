/- Drawn graphs. Conditions: each contract's own. -/
import Derived.Test.YtljgaepgblakhaaDrawPol
import Derived.Test.YtljgaepgblakhaaJ4d074fd43d
import Derived.Test.YtljgaepgblakhaaJe8c7e429b6
import Derived.Test.YtljgaepgblakhaaRegInv
namespace Go.Proofs.Ytljgaepgblakhaa
set_option linter.unusedSimpArgs false
open Go.RowKit
set_option linter.unusedVariables false
set_option linter.unnecessarySimpa false
set_option maxRecDepth 20000
/-- Points in memory of their own, from block B on, at most K. -/
def PtsIs (E B K : Nat) (v : Value) (w : World) : Prop := ∃ (A : Option Addr) (n c : Nat) (ps : List Pt), v = .slice A n c ∧ w.ownsRow B E 7 (.slice A n c) n (pts ps) ∧ n ≤ K
theorem makeR_le (p : Pol) : (makeR p).length ≤ 120 := by
  unfold makeR
  split
  · rename_i hok
    obtain ⟨rs, els⟩ := p
    obtain ⟨g0, g1, g2, g3⟩ := makeG_lt (polOk_els hok) (polOk_all hok).2.1 (polOk_all hok).1
    have h0 := (make_put (polOk_els hok) rs (polOk_all hok).2.1).1
    exact (trimN_neat (f := (makeG els rs).1.length) h0.gp (by omega) (show (makeG els rs).2.toNat < (makeG els rs).1.length by omega) (by omega)).1.max
  · exact Nat.zero_le _
/-- A literal of ints, and the place of one of them. -/
def LitIs (t g B m : Nat) (l : List Int) (x : Value) (w : World) : Prop := ∃ b, x = .slice (some ⟨b, 0, none⟩) m m ∧ B ≤ b ∧ b ≠ g ∧ Blk w b t (ints l)
def LitAt (t g B : Nat) (x : Value) (w : World) : Prop := ∃ b o l z, x = .pointer (some ⟨b, o, none⟩) ∧ B ≤ b ∧ b ≠ g ∧ Blk w b t (ints l) ∧ (ints l)[o]? = some (.int .i64 z)
def VarIs (t g B : Nat) (x : Value) (w : World) : Prop := ∃ b pt, x = .pointer (some ⟨b, 0, none⟩) ∧ B ≤ b ∧ b ≠ g ∧ Blk w b t (Pt.cells pt)
def NumIs (x : Value) : Prop := ∃ y, x = .int .i64 y
def NumIn (m : Int) (x : Value) : Prop := ∃ y, x = .int .i64 y ∧ 0 ≤ y ∧ y < m
theorem LitIs.gr {t g B m : Nat} {l : List Int} {x : Value} {w w' : World} (h : LitIs t g B m l x w) (k : w.grownBy w' (some g)) : LitIs t g B m l x w' := by
  obtain ⟨b, e, h1, h2, h3⟩ := h
  exact ⟨b, e, h1, h2, h3.other k (by simpa using Ne.symm h2)⟩
theorem LitAt.gr {t g B : Nat} {x : Value} {w w' : World} (h : LitAt t g B x w) (k : w.grownBy w' (some g)) : LitAt t g B x w' := by
  obtain ⟨b, o, l, z, e, h1, h2, h3, h4⟩ := h
  exact ⟨b, o, l, z, e, h1, h2, h3.other k (by simpa using Ne.symm h2), h4⟩
theorem VarIs.gr {t g B : Nat} {x : Value} {w w' : World} (h : VarIs t g B x w) (k : w.grownBy w' (some g)) : VarIs t g B x w' := by
  obtain ⟨b, pt, e, h1, h2, h3⟩ := h
  exact ⟨b, pt, e, h1, h2, h3.other k (by simpa using Ne.symm h2)⟩
/-- What each operation of the drawn point leaves. -/
def PV (tI tP g B m c : Nat) (S : Option Addr) (j : Nat) (x : Value) (w : World) : Prop :=
  match j with
  | 0 | 3 | 8 | 12 | 14 | 18 => x = .pointer (some ⟨g, 0, none⟩)
  | 1 | 6 | 11 | 13 | 17 | 21 => NumIs x
  | 2 => LitIs tI g B 3 [4294967295, 3, 15] x w
  | 4 => NumIn 3 x
  | 5 => LitAt tI g B x w
  | 7 => LitIs tI g B 2 [1, 3] x w
  | 9 => NumIn 2 x
  | 10 => LitAt tI g B x w
  | 15 | 19 => x = .slice S m c
  | 16 | 20 => x = .int .i64 m
  | 22 => ∃ pt, x = ptV pt
  | 23 => VarIs tP g B x w
  | _ => True
theorem PV.gr {tI tP g B m c : Nat} {S : Option Addr} {w w' : World} (k : w.grownBy w' (some g)) (j : Nat) (x : Value) (h : PV tI tP g B m c S j x w) : PV tI tP g B m c S j x w' := by
  unfold PV at *
  split <;> simp only at h ⊢ <;> first | exact LitIs.gr h k | exact LitAt.gr h k | exact VarIs.gr h k | exact h
theorem setCells_by (w : World) (b o : Nat) (cs : List Value) : w.grownBy (setCells w b o cs) (some b) := by
  have key : ∀ (cs : List Value) (W : World) (o : Nat), w.grownBy W (some b) → w.grownBy (setCells W b o cs) (some b) := by
    intro cs
    induction cs with
    | nil => intro W o h; exact h
    | cons u cs ih => intro W o h; exact ih _ _ (gr_set h (p := ⟨b, o, none⟩) (.inl rfl) u)
  exact key cs w o (gr_refl w b)
theorem Blk.ne_type {w : World} {a b s t : Nat} {cs ds : List Value} (h : Blk w a s cs) (k : Blk w b t ds) (hT : s ≠ t) : a ≠ b := by
  rintro rfl
  have := h.symm.trans k
  injection this with this
  injection this with _ e _
  exact hT e
theorem PV.set {tI tP g B m c b : Nat} {S : Option Addr} {w : World} {pt0 pt : Pt} {j : Nat} {x : Value} (hT : tI ≠ tP) (hb : Blk w b tP pt0.cells) (h : PV tI tP g B m c S j x w) : PV tI tP g B m c S j x (setCells w b 0 pt.cells) := by
  have kk := setCells_by w b 0 pt.cells
  have kI : ∀ {b' : Nat} {cs : List Value}, Blk w b' tI cs → Blk (setCells w b 0 pt.cells) b' tI cs := fun k => k.other kk (by have := Ne.symm (k.ne_type hb hT); simpa using this)
  have kV : VarIs tP g B x w → VarIs tP g B x (setCells w b 0 pt.cells) := by
    rintro ⟨b', p', e, h1, h2, h3⟩
    by_cases hbb : b' = b
    · subst hbb
      exact ⟨b', pt, e, h1, h2, h3.setCells 0 pt.cells⟩
    · exact ⟨b', p', e, h1, h2, h3.other kk (by simpa using Ne.symm hbb)⟩
  have kL : ∀ {m l}, LitIs tI g B m l x w → LitIs tI g B m l x (setCells w b 0 pt.cells) := fun ⟨b', e, h1, h2, h3⟩ => ⟨b', e, h1, h2, kI h3⟩
  have kA : LitAt tI g B x w → LitAt tI g B x (setCells w b 0 pt.cells) := fun ⟨b', o, l, z, e, h1, h2, h3, h4⟩ => ⟨b', o, l, z, e, h1, h2, kI h3, h4⟩
  unfold PV at *
  split <;> simp only at h ⊢ <;> first | exact kL h | exact kA h | exact kV h | exact h
def PW (g t : Nat) (q : Int) (A : Option Addr) (n c : Nat) (xs : List Int) (w0 : World) (k : Nat) (w : World) : Prop :=
  ∃ q', Dr w g t q' A n c xs ∧ q ≤ q' ∧ q' ≤ q + (k : Int) ∧ w0.grownBy w (some g)
theorem PW.more {g t : Nat} {q : Int} {A : Option Addr} {n c : Nat} {xs : List Int} {w0 : World} {k : Nat} {w : World} (h : PW g t q A n c xs w0 k w) : PW g t q A n c xs w0 (k + 1) w := by
  obtain ⟨q', h1, h2, h3, h4⟩ := h
  exact ⟨q', h1, h2, by omega, h4⟩
theorem lit_atG (l : List Int) (i : Int) (h0 : 0 ≤ i) (hi : i < l.length) : ∃ x, (ints l)[i.toNat]? = some (.int .i64 x) ∧ x ∈ l := by
  obtain ⟨k, rfl⟩ := Int.eq_ofNat_of_zero_le h0
  have : k < l.length := by omega
  exact ⟨l[k], by simp [ints, this], List.getElem_mem _⟩
end Go.Proofs.Ytljgaepgblakhaa
