/- Whether a rule fits a call; the first rule that fits: both sides. Conditions: each contract's own. -/
import Derived.Test.YtljgaepgblakhaaDoorImplText2
import Derived.Test.YtljgaepgblakhaaDoorCall2
namespace Go.Proofs.YtljgaepgblakhaaDoor
set_option linter.unusedSimpArgs false
open Go.RowKit
set_option linter.unusedVariables false
set_option linter.unnecessarySimpa false
set_option maxRecDepth 20000
def fitsT (num : Int) (xs : List Int) (t : Tst) : Bool := fitsB t.f t.m t.op t.x num xs
def ruleFitsB (num : Int) (xs : List Int) (r : Rl) : Bool := decide (r.lo ≤ num ∧ num ≤ r.hi) && r.ts.all (fitsT num xs)
/-- The place of the first that holds. -/
theorem find_at {α : Type} {p : α → Bool} {l : List α} {k : Nat} {a : α} (h : l[k]? = some a) (hp : p a = true) (hb : (l.take k).all (fun x => !p x) = true) : l.find? p = some a ∧ l.findIdx? p = some k := by
  induction l generalizing k with
  | nil => simp at h
  | cons b l ih =>
    cases k with
    | zero =>
      simp at h
      subst h
      simp [List.find?_cons, List.findIdx?_cons, hp]
    | succ k =>
      rw [List.take_succ_cons, List.all_cons, Bool.and_eq_true] at hb
      have hbp : p b = false := by simpa using hb.1
      obtain ⟨h1, h2⟩ := ih (by simpa using h) hb.2
      simp [List.find?_cons, List.findIdx?_cons, hbp, h1, h2]
theorem find_none {α : Type} {p : α → Bool} {l : List α} (hb : l.all (fun x => !p x) = true) : l.find? p = none ∧ l.findIdx? p = none := by
  rw [List.all_eq_true] at hb
  refine ⟨List.find?_eq_none.2 fun x hx => by simpa using hb x hx, List.findIdx?_eq_none_iff.2 fun x hx => by simpa using hb x hx⟩
/-- What becomes of a call, both being ok. -/
def polV (p : Pol) (num : Int) (xs : List Int) : Int := match p.rs.find? (ruleFitsB num xs) with | some r => r.v | none => p.els
def fitV (p : Pol) (num : Int) (xs : List Int) : Int := match p.rs.findIdx? (ruleFitsB num xs) with | some k => (k : Int) + 1 | none => 0
def polOfV (p : Pol) (num : Int) (xs : List Int) : Int := if polOk p && callB num xs then polV p num xs else 4
def polFitV (p : Pol) (num : Int) (xs : List Int) : Int := if polOk p && callB num xs then fitV p num xs else -1
theorem polOk_rules {rs : List Rl} {e : Int} (h : polOk ⟨rs, e⟩ = true) : rs.length ≤ 8 ∧ rs.all ruleB = true := by
  simp only [polOk, polB, Bool.and_eq_true, decide_eq_true_eq] at h
  exact ⟨h.1.1.1, h.1.2⟩
theorem rule_tests {rs : List Rl} {k : Nat} {r : Rl} (h : rs.all ruleB = true) (hk : rs[k]? = some r) : r.ts.all tstB = true := by
  rw [List.all_eq_true] at h
  exact (rule_and (h r (List.mem_of_getElem? hk))).2.2.2.2.2
theorem tst_mem {ts : List Tst} {k : Nat} {t : Tst} (h : ts.all tstB = true) (hk : ts[k]? = some t) : tstB t = true := by
  rw [List.all_eq_true] at h
  exact h t (List.mem_of_getElem? hk)
theorem blk_two (w : World) (t s : Nat) (us vs : List Value) : Blk ((w.alloc (.cells us.toArray t)).alloc (.cells vs.toArray s)) w.heap.size t us ∧ Blk ((w.alloc (.cells us.toArray t)).alloc (.cells vs.toArray s)) (w.heap.size + 1) s vs := by
  refine ⟨(Blk.new w t us).alloc _, ?_⟩
  have := Blk.new (w.alloc (.cells us.toArray t)) s vs
  rwa [World.size_alloc] at this
set_option maxHeartbeats 4000000 in
theorem specFits_c (r : Rl) (TA : Option Addr) (tc : Nat) (num : Int) (B : Option Addr) (d : Nat) (xs : List Int) (w : World) (hok : r.ts.all tstB = true) (hrl : r.ts.length ≤ 9223372036854775807) (hr : Rd w w.heap.size 4 TA r.ts.length (tsts r.ts)) (hq : Rd w w.heap.size 1 B 4 (ints xs)) :
    Calls Tryd.prog 68 #[.agg #[.int .i64 r.v, .int .i64 r.lo, .int .i64 r.hi, .slice TA r.ts.length tc], .agg #[.int .i64 num, .slice B 4 d]] w (RetB (.bool (ruleFitsB num xs r)) w) := by
  have HR := Lib.hid hr
  have HQ := Lib.hid hq
  have HOK := Lib.hid hok
  have HB2 := Lib.hid (blk_two w 35 28 [.int .i64 r.v, .int .i64 r.lo, .int .i64 r.hi, .slice TA r.ts.length tc] [.int .i64 num, .slice B 4 d])
  clear hr hq hok
  go_enter Tryd.func68, Tryd.ntmps68
  go_wp2
  go_loopw [5] (fun i wr => ∃ k : Nat, k ≤ r.ts.length ∧ i = .int .i64 k ∧ Hid ((r.ts.take k).all (fitsT num xs) = true) ∧ Hid (Blk wr w.heap.size 35 [.int .i64 r.v, .int .i64 r.lo, .int .i64 r.hi, .slice TA r.ts.length tc]) ∧ Hid (Blk wr (w.heap.size + 1) 28 [.int .i64 num, .slice B 4 d]) ∧ Hid (Below w.heap.size w wr) ∧ w.heap.size + 1 < wr.heap.size) (fun i _ => r.ts.length - (intOf i).toNat)
  case atStart => exact ⟨0, by omega, by rfl, Lib.hid (by simp), HB2.out.1, HB2.out.2, by show Below _ _ _; go_grown, by simp⟩
  case round =>
    obtain ⟨k, hk, rfl, HAL, B0, B1, HF, hz⟩ := hrel
    have hbs := HF.out.size
    have k1 := B0.out.cell (i := 1) rfl
    have k2 := B0.out.cell (i := 2) rfl
    have k3 := B0.out.cell (i := 3) rfl
    have k4 := B1.out.cell (i := 0) rfl
    have k5 := B1.out.cell (i := 1) rfl
    by_cases hlt : k < r.ts.length
    · obtain ⟨b, off, t, rfl, hb, ht, c0, c1, c2, c3⟩ := (HR.out.below HF.out).tst hlt
      have hta := tst_and (tst_mem HOK.out ht)
      obtain ⟨hf0, hf1, _, _, _, _, hop⟩ := hta
      have hC := fun W h => specHolds_c t.f t.m t.op t.x num B 4 d xs W h rfl (by omega) (by omega) hop
      unfold testV at hC
      have HC := Lib.hid hC
      have HTT := Lib.hid ht
      clear ht hC hop
      go_wp2
      go_region_held3 (fun w' => w'.cell? ⟨w.heap.size, 3, none⟩ = some (.slice (some ⟨b, off, none⟩) r.ts.length tc) ∧ w'.cell? ⟨w.heap.size + 1, 0, none⟩ = some (.int .i64 num) ∧ w'.cell? ⟨w.heap.size + 1, 1, none⟩ = some (.slice B 4 d) ∧ w'.cell? ⟨b, off + k * 4, none⟩ = some (.int .i64 t.f) ∧ w'.cell? ⟨b, off + k * 4 + 1, none⟩ = some (.int .i64 t.m) ∧ w'.cell? ⟨b, off + k * 4 + 2, none⟩ = some (.int .i64 t.op) ∧ w'.cell? ⟨b, off + k * 4 + 3, none⟩ = some (.int .i64 t.x)) (simp [go_sem, *])
        (first | (go_at_call 110; refine (HC.out _ (HQ.out.below (below_via HF.out (by go_grown)) |>.more (by (try simp); omega))).mono ?_; rintro e w1 ⟨rfl, b1⟩; obtain ⟨gc1, gf1⟩ := below_get b1; (try simp only [heap_drew, World.size_alloc, World.size_setCell] at gc1 gf1); have hb1 := below_on HF.out (by go_grown) b1; have G1 := below_via (w := wr) (by go_grown) b1; have D0 := Lib.hid (B0.out.up G1); have D1 := Lib.hid (B1.out.up G1); have z1 : w.heap.size < wr.heap.size := (by omega); have z2 : b < wr.heap.size := (by omega); have hs1 := b1.size; (try simp at hs1); clear b1))
      go_wp2
      · go_returns
        go_light
        rename (_ = true) => h
        have e1 := all_false (fitsT num xs) r.ts k t HTT.out (by simpa [fitsT] using h)
        have e2 : ruleFitsB num xs r = false := by rw [ruleFitsB, e1, Bool.and_false]
        exact ⟨by rw [e2]; rfl, hb1⟩
      · go_roundw
        case measure => simp [intOf]; omega
        case rel =>
          go_light
          rename (_ = false) => h
          exact ⟨k + 1, by omega, by go_num, by show _ = true; rw [take_all _ _ _ _ HTT.out, HAL.out]; simpa [fitsT] using h, D0, D1, hb1, by omega⟩
    · have hkn : k = r.ts.length := by omega
      have e1 : r.ts.take k = r.ts := by rw [hkn]; exact List.take_length
      rw [e1] at HAL
      have e2 : ruleFitsB num xs r = (decide (r.lo ≤ num) && decide (num ≤ r.hi)) := by rw [ruleFitsB, HAL.out, Bool.and_true, Bool.decide_and]
      have HE := Lib.hid e2
      clear e1 e2
      go_wp2_with (go_at_call 70; refine (l1In_c _ _ _ _).mono ?_; rintro e w' ⟨rfl, rfl⟩)
      go_returns
      rw [HE.out]
      exact ⟨rfl, HF.out⟩
set_option maxHeartbeats 4000000 in
theorem ruleFits_c (r : Rl) (TA : Option Addr) (tc : Nat) (num : Int) (B : Option Addr) (d : Nat) (xs : List Int) (w : World) (hok : r.ts.all tstB = true) (hrl : r.ts.length ≤ 9223372036854775807) (hr : Rd w w.heap.size 4 TA r.ts.length (tsts r.ts)) (hq : Rd w w.heap.size 1 B 4 (ints xs)) :
    Calls Tryd.prog 81 #[.agg #[.int .i64 r.v, .int .i64 r.lo, .int .i64 r.hi, .slice TA r.ts.length tc], .agg #[.int .i64 num, .slice B 4 d]] w (RetB (.bool (ruleFitsB num xs r)) w) := by
  have HR := Lib.hid hr
  have HQ := Lib.hid hq
  have HOK := Lib.hid hok
  have HB2 := Lib.hid (blk_two w 35 28 [.int .i64 r.v, .int .i64 r.lo, .int .i64 r.hi, .slice TA r.ts.length tc] [.int .i64 num, .slice B 4 d])
  clear hr hq hok
  by_cases hh : r.lo ≤ num ∧ num ≤ r.hi
  · obtain ⟨hh0, hh1⟩ := hh
    go_enter Tryd.func81, Tryd.ntmps81
    go_wp2
    go_loopw [22] (fun i wr => ∃ k : Nat, k ≤ r.ts.length ∧ i = .int .i64 k ∧ Hid ((r.ts.take k).all (fitsT num xs) = true) ∧ Hid (Blk wr (w.heap.size + 1) 28 [.int .i64 num, .slice B 4 d]) ∧ Hid (Below w.heap.size w wr) ∧ w.heap.size + 1 < wr.heap.size) (fun i _ => r.ts.length - (intOf i).toNat)
    case atStart => exact ⟨0, by omega, by rfl, Lib.hid (by simp), HB2.out.2, by show Below _ _ _; go_grown, by simp⟩
    case round =>
      obtain ⟨k, hk, rfl, HAL, B1, HF, hz⟩ := hrel
      have hbs := HF.out.size
      have k4 := B1.out.cell (i := 0) rfl
      have k5 := B1.out.cell (i := 1) rfl
      by_cases hlt : k < r.ts.length
      · obtain ⟨b, off, t, rfl, hb, ht, c0, c1, c2, c3⟩ := (HR.out.below HF.out).tst hlt
        have hta := tst_and (tst_mem HOK.out ht)
        obtain ⟨hf0, hf1, _, _, _, _, hop⟩ := hta
        have hC := fun W h => testFits_c t.f t.m t.op t.x num B 4 d xs W h rfl (by omega) (by omega)
        unfold testV at hC
        have HC := Lib.hid hC
        have HTT := Lib.hid ht
        clear ht hC hop
        go_wp2_with (go_at_call 115; refine (HC.out _ (HQ.out.below (below_via HF.out (by go_grown)) |>.more (by (try simp); omega))).mono ?_; rintro e w1 ⟨rfl, b1⟩; have hb1 := below_on HF.out (by go_grown) b1; have G1 := below_via (w := wr) (by go_grown) b1; have D1 := Lib.hid (B1.out.up G1); have hs1 := b1.size; (try simp at hs1); clear b1)
        · go_returns
          go_light
          rename (_ = true) => h
          have e1 := all_false (fitsT num xs) r.ts k t HTT.out (by simpa [fitsT] using h)
          have e2 : ruleFitsB num xs r = false := by rw [ruleFitsB, e1, Bool.and_false]
          exact ⟨by rw [e2]; rfl, hb1⟩
        · go_roundw
          case measure => simp [intOf]; omega
          case rel =>
            go_light
            rename (_ = false) => h
            exact ⟨k + 1, by omega, by go_num, by show _ = true; rw [take_all _ _ _ _ HTT.out, HAL.out]; simpa [fitsT] using h, D1, hb1, by omega⟩
      · have hkn : k = r.ts.length := by omega
        have e1 : r.ts.take k = r.ts := by rw [hkn]; exact List.take_length
        rw [e1] at HAL
        have e2 : ruleFitsB num xs r = true := by rw [ruleFitsB, HAL.out, Bool.and_true]; simp; omega
        have HE := Lib.hid e2
        clear e1 e2
        go_wp2_with fail
        go_returns
        rw [HE.out]
        exact ⟨rfl, HF.out⟩
  · have e2 : ruleFitsB num xs r = false := by rw [ruleFitsB, decide_eq_false hh]; rfl
    have HE := Lib.hid e2
    clear e2
    go_enter Tryd.func81, Tryd.ntmps81
    go_wp2
    all_goals first
      | (go_returns; exact ⟨by rw [HE.out]; rfl, by go_grown⟩)
      | (exfalso; simp at *; omega)
end Go.Proofs.YtljgaepgblakhaaDoor
