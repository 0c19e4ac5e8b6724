/- The program's words near what a policy looks at. Conditions: each contract's own. -/
import Derived.Test.YtmfienlceobfeaaDoorJ1519996ac1
import Derived.Test.YtmfienlceobfeaaDoorSortInts
import Derived.Test.YtmfienlceobfeaaDoorJccf418240a
import Derived.Test.YtmfienlceobfeaaDoorJ9015c1cad7
import Derived.Shelf.SlicesE.DeleteFunc
import Derived.Lib.AppendIntMem
namespace Go.Proofs.YtmfienlceobfeaaDoor
set_option linter.unusedSimpArgs false
open Go.RowKit
set_option linter.unusedVariables false
set_option linter.unnecessarySimpa false
set_option maxRecDepth 20000
theorem one_intsN (zs : List Int) : ∀ u ∈ ints zs, u.oneCell' = true := by
  intro u hu
  obtain ⟨x, _, rfl⟩ := List.mem_map.1 hu
  rfl
theorem ints_app (a b : List Int) : ints a ++ ints b = ints (a ++ b) := by simp [ints]
theorem own_castN {w : World} {base e n n' c : Nat} {A : Option Addr} {xs xs' : List Value} (h : w.ownsRow base e 1 (.slice A n c) n xs) (hx : xs = xs') (hn : n' = n) : w.ownsRow base e 1 (.slice A n' c) n' xs' := by subst hx hn; exact h
theorem rawW_take {f : Int} {rs : List Rl} {k : Nat} {r : Rl} (h : rs[k]? = some r) : rawW f (rs.take (k + 1)) = rawW f (rs.take k) ++ rawR f r := by
  unfold rawW
  rw [List.take_add_one, h]; simp
theorem rawT_take {f : Int} {ts : List Tst} {k : Nat} {t : Tst} (h : ts[k]? = some t) : (ts.take (k + 1)).flatMap (rawT f) = (ts.take k).flatMap (rawT f) ++ rawT f t := by
  rw [List.take_add_one, h]; simp
theorem rawT_len (f : Int) (t : Tst) : (rawT f t).length ≤ 3 := by unfold rawT; split <;> simp
/-- Sorted, each once, those that are words: that is what the other way gives. -/
theorem uniq_near (rs : List Rl) (f : Int) : uniqI ((0 :: rawW f rs).filter wordB) = nearW rs f := by
  have h := uniqI_spec ((0 :: rawW f rs).filter wordB)
  refine asc_ext _ _ h.1 (nearW_asc rs f) fun x => ?_
  rw [h.2, nearW_mem, List.mem_filter, List.mem_cons]
  constructor
  · rintro ⟨rfl | hx, hw⟩
    · exact .inl rfl
    · exact .inr ⟨hx, hw⟩
  · rintro (rfl | ⟨hx, hw⟩)
    · exact ⟨.inl rfl, by decide⟩
    · exact ⟨.inr hx, hw⟩
theorem predN_c (x : Int) (w : World) : Calls Tryd.prog 34 #[.int .i64 x] w (fun e w' => e = .returned (.bool (!wordB x)) ∧ ∃ q, w' = w.drewN q) := by
  go_enter Tryd.func34, Tryd.ntmps34
  go_wp2_with (go_at_call 22; refine (wordOk_c _ _).mono ?_; rintro e w' ⟨rfl, rfl⟩)
  all_goals go_returns
  all_goals (refine ⟨retv ?_, 0, rfl⟩)
  all_goals simp_all
theorem pred_at (w : World) : PredAt Tryd.prog 34 #[] (Value.int .i64) (fun x => !wordB x) w := fun W x _ => predN_c x W
theorem pred_over (g o n : Nat) (w : World) : PredOver Tryd.prog 34 #[] (Value.int .i64) (fun x => !wordB x) g o n w := fun n os dk x _ => predN_c x _
theorem enters_pred : ∀ args w, (callFunc 34 args).run Tryd.prog w = .ok (.enter 34 args) w := enters_of Tryd.func34 (by kernel_rfl) rfl
theorem deleteInts_c (g n c : Nat) (zs : List Int) (base : Nat) (w : World) (h : w.ownsRow base 3 1 (.slice (some ⟨g, 0, none⟩) n c) n (ints zs)) (hn : n ≤ 1000000) :
    Calls Tryd.prog 33 #[.slice (some ⟨g, 0, none⟩) n c, .func (.func 34) #[] #[]] w (fun e w' => e = .returned (.slice (some ⟨g, 0, none⟩) (zs.filter wordB).length c) ∧ w'.ownsRow base 3 1 (.slice (some ⟨g, 0, none⟩) (zs.filter wordB).length c) (zs.filter wordB).length (ints (zs.filter wordB)) ∧ w.grownBy w' (some g)) := by
  have hl : zs.length = n := by have := h.1; rw [ints_len] at this; omega
  subst hl
  rcases h.2 with ⟨hv, h0⟩ | ⟨g', cap, cur, hv, hb, hh, h1, h2, h3, h4⟩
  · cases hv
  · injection hv with a b d
    injection a with a
    injection a with a
    subst a d
    have hle : (zs.filter wordB).length ≤ zs.length := List.length_filter_le _ _
    have hc := Tryd.slices_DeleteFunc (Value.int .i64) (fun _ => rfl) (fun x => !wordB x) 34 #[] enters_pred 0 (fun w => by kernel_rfl) g 0 c zs.toArray w (pred_at w) (pred_over g 0 _ w) (holds_own h) (by simp; omega) (by simpa using h1)
    simp only [List.size_toArray, Bool.not_not] at hc
    refine hc.mono ?_
    rintro e w' ⟨rfl, q, rfl⟩
    have hsz : (zs.filter wordB ++ List.replicate (zs.length - (zs.filter wordB).length) 0).length = zs.toArray.size := by simp; omega
    have e1 := Lib.putRow_eq_setCells (Value.int .i64) w g 0 zs.toArray (zs.filter wordB ++ List.replicate (zs.length - (zs.filter wordB).length) 0) q (holds_own h) hsz
    rw [e1, kit_setCells]
    have o1 := own_setAll (own_drewS h q) (cs := ints (zs.filter wordB ++ List.replicate (zs.length - (zs.filter wordB).length) 0)) (by rw [ints_len]; simpa using hsz)
    have o2 := own_take1 o1 hle
    have e2 : (ints (zs.filter wordB ++ List.replicate (zs.length - (zs.filter wordB).length) 0)).take (zs.filter wordB).length = ints (zs.filter wordB) := by
      unfold ints
      rw [List.map_append, List.take_append_of_le_length (by simp), List.take_of_length_le (by simp)]
    rw [e2] at o2
    exact ⟨rfl, o2, gr_setCellsI (gr_drewN (gr_refl w g) q) 0 _⟩
end Go.Proofs.YtmfienlceobfeaaDoor
