/- FnExactGraphTrim: for all points the law returns true and leaves its argument as it was. No condition. -/
import Derived.Test.YtbijlencoilchaaOpen2
import Derived.Test.YtbijlencoilchaaMark
namespace Go.Proofs.Ytbijlencoilchaa
open Go.ChangeShapes Go.WideShapes Go.ChangeAt Go.RowKit
set_option linter.unusedVariables false
set_option linter.unnecessarySimpa false
theorem trim_len (f : Nat) : ∀ (g : List Pt) (a : Nat), GOk g → a < g.length → (trimN f g a).length ≤ 120 := by
  induction f with
  | zero => intro g a hg ha; exact hg.1
  | succ f ih =>
    intro g a hg ha
    obtain ⟨h1, h2, h3, h4⟩ := pass_next hg ha
    rw [trimN]
    split
    · exact h1.1
    · exact ih _ _ h1 (by omega)
/-- What both sides make of a graph. -/
def trimR (g : List Pt) : List Pt := if graphB g = true then trimN g.length g (g.length - 1) else []
theorem trimR_len (g : List Pt) : (trimR g).length ≤ 120 := by
  unfold trimR
  split
  · rename_i h
    obtain ⟨h1, h2⟩ := graph_ok h
    exact trim_len _ _ _ h1 (by omega)
  · simp
theorem specTrim_x (A : Option Addr) (n c : Nat) (g : List Pt) (w : World) (hr : Rd w w.heap.size 7 A n (pts g)) (hn : n ≤ 9223372036854775807) :
    Calls Try.prog 32 #[.slice A n c] w (RetOwn 76 7 (trimR g).length (pts (trimR g)) w) := by
  have hl : g.length = n := by have := hr.1; rw [pts_len] at this; omega
  unfold trimR
  rw [hl]
  exact specGraphTrim_c A n c g w hr hn
theorem implTrim_x (A : Option Addr) (n c : Nat) (g : List Pt) (w : World) (hr : Rd w w.heap.size 7 A n (pts g)) (hn : n ≤ 9223372036854775807) :
    Calls Try.prog 33 #[.slice A n c] w (RetOwn 76 7 (trimR g).length (pts (trimR g)) w) := by
  have hl : g.length = n := by have := hr.1; rw [pts_len] at this; omega
  unfold trimR
  rw [hl]
  exact graphTrim_c A n c g w hr hn
theorem own_lt {w : World} {base e size n c : Nat} {A : Option Addr} {xs : List Value} (h : w.ownsRow base e size (.slice A n c) n xs) (b : Nat) (hb : (Value.slice A n c).ownBlock = some b) : base ≤ b ∧ b < w.heap.size := h.lt b hb
theorem own_apart {w w' : World} {base base' e size n c n' c' : Nat} {A A' : Option Addr} {xs xs' : List Value} (h : w.ownsRow base e size (.slice A n c) n xs) (h' : w'.ownsRow base' e size (.slice A' n' c') n' xs') (hb : w.heap.size ≤ base') : (Value.slice A' n' c').ownBlock = none ∨ (Value.slice A' n' c').ownBlock ≠ (Value.slice A n c).ownBlock := by
  cases hA : (Value.slice A' n' c').ownBlock with
  | none => exact .inl rfl
  | some b =>
    right
    intro e
    have h1 := (h'.lt b hA).1
    have h2 := (h.lt b e.symm).2
    omega
set_option maxHeartbeats 1600000 in
theorem graphTrim_law (A : Option Addr) (n c : Nat) (ps : List Pt) (w : World) (hr : Rd w w.heap.size 7 A n (pts ps)) (hn : n ≤ 9223372036854775807) :
    Calls Try.prog 10 #[.slice A n c] w (RetB (.bool true) w) := by
  have HR := Lib.hid hr
  clear hr
  by_cases hbig : n ≤ 1048576
  · have HS := Lib.hid (fun (A : Option Addr) (c : Nat) (w : World) h => specTrim_x A n c ps w h hn)
    have HI := Lib.hid (fun (A : Option Addr) (c : Nat) (w : World) h => implTrim_x A n c ps w h hn)
    have hm := trimR_len ps
    generalize trimR ps = R at *
    generalize hmR : R.length = m at *
    go_enter Try.func10, Try.ntmps10
    go_wp2_with (go_at_call 20; refine (szPointS_c A n c _ _ hn (by omega) (by omega)).mono ?_; rintro e w' ⟨rfl, rfl⟩)
    · exfalso
      rename (szV _ _ < 0) => h
      simp [szV] at h; omega
    · rename (0 ≤ szV _ _) => h; clear h
      (go_wp2_with fail); (go_at_call 22; refine (toPointS_c A n c ps _ HR.out hbig).mono ?_; rintro e w1 ⟨A1, c1, rfl, o1, b1⟩; have R1 := Lib.hid (Rd.of_own o1); have H1 := Lib.hid b1; clear o1 b1)
      (go_wp2_with fail); (go_at_call 32; refine (HS.out A1 c1 _ R1.out).mono ?_; rintro e w2 ⟨A2, c2, rfl, o2, b2⟩; have R2 := Lib.hid (Rd.of_own o2); have O2 := Lib.hid o2; have H2 := Lib.hid (below_via H1.out b2); clear o2 b2 R1)
      have s2 := H2.out.size
      (go_wp2_with fail); (go_at_call 22; refine (toPointS_c A n c ps _ (HR.out.upB H2.out s2) hbig).mono ?_; rintro e w3 ⟨A3, c3, rfl, o3, b3⟩; have O3 := Lib.hid o3; have s3 := b3.size; have R3 := Lib.hid (R2.out.up b3); have H3 := Lib.hid (below_via H2.out b3); have Q3 := Lib.hid (R2.out.below b3); clear o3 b3 R2)
      (go_wp2_with fail); (go_at_call 33; refine (HI.out A3 c3 _ (Rd.of_own O3.out)).mono ?_; rintro e w4 ⟨A4, c4, rfl, o4, b4⟩; have O4 := Lib.hid o4; have s4 := b4.size; have X4 := Lib.hid (own_up O3.out b4); have R4 := Lib.hid (R3.out.up b4); have Q4 := Lib.hid (Q3.out.below (b4.mono s3)); have H4 := Lib.hid (below_via H3.out b4); clear o4 b4 R3 Q3)
      (go_wp2_with fail); (go_at_call 24; refine (eqPointS_c A4 A2 m c4 m c2 R R _ (Rd.of_own O4.out) R4.out (by omega) (by omega)).mono ?_; rintro e w5 ⟨rfl, b5⟩; have s5 := b5.size; have O5 := Lib.hid (own_up O4.out b5); have X5 := Lib.hid (own_up X4.out b5); have Q5 := Lib.hid (Q4.out.below (b5.mono (by omega))); have H5 := Lib.hid (below_via H4.out b5); clear b5 Q4 R4 O4 X4)
      (go_wp2_with fail); (go_at_call 22; refine (toPointS_c A n c ps _ (HR.out.upB H5.out (by have := H5.out.size; omega)) hbig).mono ?_; rintro e w6 ⟨A6, c6, rfl, o6, b6⟩; have R6 := Lib.hid (Rd.of_own o6); have s6 := b6.size; have O6 := Lib.hid (own_up O5.out b6); have X6 := Lib.hid (own_up X5.out b6); have Q6 := Lib.hid (Q5.out.below (b6.mono (by omega))); have H6 := Lib.hid (below_via H5.out b6); clear o6 b6 Q5 O5 X5)
      (go_wp2_with fail); (go_at_call 24; refine (eqPointS_c A3 A6 n c3 n c6 ps ps _ (Rd.of_own X6.out) R6.out hn hn).mono ?_; rintro e w7 ⟨rfl, b7⟩; have s7 := b7.size; have O7 := Lib.hid (own_up O6.out b7); have X7 := Lib.hid (own_up X6.out b7); have Q7 := Lib.hid (Q6.out.below (b7.mono (by omega))); have H7 := Lib.hid (below_via H6.out b7); clear b7 Q6 O6 X6 R6)
      (go_wp2_with fail); (go_at_call 34; refine (markPointS_c _ A3 n c3 1 _ _ X7.out (by omega)).mono ?_; rintro e w8 ⟨rfl, o8, g8⟩; have s8 := g8.size; have O8 := Lib.hid (O7.out.kept g8 (own_apart O3.out O7.out (Nat.le_refl _))); have Q8 := Lib.hid (Q7.out.grown g8 (by omega) (fun b e => (X7.out.lt b e).1)); have H8 := Lib.hid (H7.out.grown g8 (by have := H7.out.size; omega) (fun b e => by have := (X7.out.lt b e).1; omega)); clear o8 g8 Q7 O7 X7)
      (go_wp2_with fail); (go_at_call 24; refine (eqPointS_c A4 A2 m c4 m c2 R R _ (Rd.of_own O8.out) (Q8.out.more (by omega)) (by omega) (by omega)).mono ?_; rintro e w9 ⟨rfl, b9⟩; have s9 := b9.size; have O9 := Lib.hid (own_up O8.out b9); have Q9 := Lib.hid (Q8.out.below (b9.mono (by omega))); have H9 := Lib.hid (below_via H8.out b9); clear b9 O8 Q8)
      (go_wp2_with fail); (go_at_call 34; refine (markPointS_c _ A4 m c4 1 _ _ O9.out (by omega)).mono ?_; rintro e w10 ⟨rfl, o10, g10⟩; have s10 := g10.size; have O10 := Lib.hid o10; have Q10 := Lib.hid (Q9.out.grown g10 (by omega) (fun b e => by have := (O9.out.lt b e).1; omega)); have H10 := Lib.hid (H9.out.grown g10 (by have := H9.out.size; omega) (fun b e => by have := (O9.out.lt b e).1; have := H2.out.size; omega)); clear o10 g10 O9 Q9)
      (go_wp2_with fail); (go_at_call 35; refine (heldPointS_c A4 m c4 1 _ (Rd.of_own O10.out) (by omega)).mono ?_; rintro e w11 ⟨rfl, b11⟩; have s11 := b11.size; have O11 := Lib.hid (own_up O10.out b11); have Q11 := Lib.hid (Q10.out.below (b11.mono (by omega))); have H11 := Lib.hid (below_via H10.out b11); clear b11 O10 Q10)
      (go_wp2_with fail); (go_at_call 22; refine (toPointS_c A n c ps _ (HR.out.upB H11.out (by have := H11.out.size; omega)) hbig).mono ?_; rintro e w12 ⟨A12, c12, rfl, o12, b12⟩; have R12 := Lib.hid (Rd.of_own o12); have s12 := b12.size; have O12 := Lib.hid (own_up O11.out b12); have Q12 := Lib.hid (Q11.out.below (b12.mono (by omega))); have H12 := Lib.hid (below_via H11.out b12); clear o12 b12 O11 Q11)
      (go_wp2_with fail); (go_at_call 33; refine (HI.out A12 c12 _ R12.out).mono ?_; rintro e w13 ⟨A13, c13, rfl, o13, b13⟩; have R13 := Lib.hid (Rd.of_own o13); have s13 := b13.size; have O13 := Lib.hid (own_up O12.out b13); have Q13 := Lib.hid (Q12.out.below (b13.mono (by omega))); have H13 := Lib.hid (below_via H12.out b13); clear o13 b13 O12 Q12)
      (go_wp2_with fail); (go_at_call 24; refine (eqPointS_c A13 A2 m c13 m c2 R R _ R13.out (Q13.out.more (by omega)) (by omega) (by omega)).mono ?_; rintro e w14 ⟨rfl, b14⟩; have s14 := b14.size; have O14 := Lib.hid (own_up O13.out b14); have H14 := Lib.hid (below_via H13.out b14); clear b14 O13 Q13)
      (go_wp2_with fail); (go_at_call 35; refine (heldPointS_c A4 m c4 1 _ (Rd.of_own O14.out) (by omega)).mono ?_; rintro e w15 ⟨rfl, b15⟩; have H15 := Lib.hid (below_via H14.out b15); clear b15)
      go_wp2
      go_returns
      exact ⟨rfl, H15.out⟩
  · go_enter Try.func10, Try.ntmps10
    go_wp2_with (go_at_call 20; refine (szPointS_c A n c _ _ hn (by omega) (by omega)).mono ?_; rintro e w' ⟨rfl, rfl⟩)
    · go_returns
      exact ⟨rfl, by go_grown⟩
    · exfalso
      rename (0 ≤ szV _ _) => h
      simp [szV] at h; split at h <;> omega
theorem fnExactGraphTrim_w (v0 : Value) (W : World) (h0 : IsPointS W v0) : Calls Try.prog 10 #[v0] W (RetB (.bool true) W) := by
  obtain ⟨A, n, c, ps, rfl, hr, hn⟩ := h0
  exact graphTrim_law A n c ps W hr (by unfold maxLen at hn; omega)
set_option maxRecDepth 100000 in
theorem fnExactGraphTrim_lifted (os : Os) (started : os.Started) (H : Type) (enc : TypeId × Value → H) :
    ReturnsInHanded {} Try.checked os 10 .any (Rows.fnExactGraphTrimSpec.pre6 enc Try.prog Try.f10 Rows.fnExactGraphTrimRow.domain false) (Rows.fnExactGraphTrimSpec.post enc Try.prog Try.f10 false true false false) := by
  refine returnsInHanded_of_change (C := Try.checked) own started (by kernel_rfl) Try.func10
    (ChangeSpec.witness6 (enc := enc) (C := Try.checked) false ⟨#[], #[.slice none 0 0], []⟩ 8 (by kernel_rfl) (by kernel_rfl) (by kernel_rfl) (by kernel_rfl)) ?_
  intro W base args ds gs before hval0 hW hcnd _
  have hval : ∀ (j : Nat) t v, Try.f10.params[j]? = some t → args[j]? = some v → Value.okWide Try.prog W .any base t v := hval0
  have hW' := hW
  obtain ⟨p, q, hA0, hV, rfl, hfz, hnd⟩ := hW
  have hA : DataW.TrodAll enc Try.prog W 0 (fun _ => true) true Try.f10.params.toList args.toList ds p := hA0
  rw [Try.params10] at hA hval
  obtain ⟨v0, vs0, d0, ds0, p0, q0, hargs, rfl, rfl, h0, r0⟩ := trodAll_cons hA
  obtain ⟨rfl, rfl, rfl⟩ := trodAll_nil r0
  obtain rfl : args = #[v0] := by cases args; simp_all
  obtain ⟨rfl, rfl⟩ := trodVars_none hV
  have k0 := h0
  have lt0 : ∀ x ∈ p0, x.block < W.heap.size := by obtain ⟨m, hm⟩ := k0; exact DataW.trod_lt m _ _ _ hm
  have o0 := open_PointS (hval 0 39 v0 rfl rfl) h0
  clear hA0 hval0
  refine (fnExactGraphTrim_w v0 W o0).mono fun e W' ⟨he, bel⟩ => ?_
  subst he
  exact ⟨_, rfl, _, _, _, [], _, [], hW', trodAll_mk1 (shut_bool Try.underlying4 _), (trodAll_cons_mk (Below.trod laidOut (by kernel_rfl) (of_decide_eq_true (by kernel_rfl)) k0 bel lt0) trodAll_mk0), rfl, bel.frame _, fun h => by cases h⟩

theorem fnExactGraphTrim_holds : Rows.FnExactGraphTrimSaid :=
  OpenClaim.holds_of_wide 10 Try.f10 rfl rfl rfl rfl rfl rfl rfl ⟨rfl, rfl, rfl, rfl, rfl⟩ rfl rfl rfl rfl rfl (by kernel_rfl) Try.func10 (by kernel_rfl)
    (of_decide_eq_true (by kernel_rfl)) (by unfold Func.isWrapper; rw [if_neg (of_decide_eq_false (by kernel_rfl))]; exact ⟨rfl, rfl⟩)
    (fun os started H enc _ => fnExactGraphTrim_lifted os started H enc)
#print axioms fnExactGraphTrim_holds
end Go.Proofs.Ytbijlencoilchaa
