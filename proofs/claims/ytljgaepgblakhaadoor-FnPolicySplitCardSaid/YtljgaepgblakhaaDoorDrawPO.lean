/- DrawPolicyOf, DrawPolicyFit, DrawPolicyJoin, DrawnNear. Conditions: each contract's own. -/
import Derived.Test.YtljgaepgblakhaaDoorDrawNear
namespace Go.Proofs.YtljgaepgblakhaaDoor
set_option linter.unusedSimpArgs false
open Go.RowKit
set_option linter.unusedVariables false
set_option linter.unnecessarySimpa false
set_option maxRecDepth 20000
/-- The call returns a policy in memory of its own, of few rules or of nine, and a call. -/
def RetPolCall (ER ET : Nat) (w : World) (e : Ending) (w' : World) : Prop :=
  ∃ (PA : Option Addr) (pn pc : Nat) (qs : List (Rl × Value)) (els num : Int) (CA : Option Addr) (cn cc : Nat) (zs : List Int), e = .returned (.tuple #[.agg #[.slice PA pn pc, .int .i64 els], .agg #[.int .i64 num, .slice CA cn cc]]) ∧
    OP w' w.heap.size w'.heap.size ER ET PA pn pc qs ∧ (pn ≤ 4 ∨ pn = 9) ∧ (∀ q ∈ qs, q.1.ts.length ≤ 8) ∧ Ow w' w.heap.size CA cn zs ∧ cn ≤ 5 ∧ Below w.heap.size w w'
/-- The call returns two policies in memory of their own. -/
def RetPolPol (ER ET : Nat) (w : World) (e : Ending) (w' : World) : Prop :=
  ∃ (PA : Option Addr) (pn pc : Nat) (qs : List (Rl × Value)) (pe : Int) (QA : Option Addr) (qn qc : Nat) (qs2 : List (Rl × Value)) (qe : Int), e = .returned (.tuple #[.agg #[.slice PA pn pc, .int .i64 pe], .agg #[.slice QA qn qc, .int .i64 qe]]) ∧
    OP w' w.heap.size w'.heap.size ER ET PA pn pc qs ∧ pn ≤ 9 ∧ (∀ q ∈ qs, q.1.ts.length ≤ 8) ∧ OP w' w.heap.size w'.heap.size ER ET QA qn qc qs2 ∧ qn ≤ 9 ∧ (∀ q ∈ qs2, q.1.ts.length ≤ 8) ∧ Below w.heap.size w w'
theorem RdV.drew {w : World} {g pn : Nat} {PA : Option Addr} {rs : List Rl} (h : RdV w g PA pn rs) : RdV w.drew g PA pn rs :=
  ⟨h.1, fun hn => by
    obtain ⟨b, off, e, hc⟩ := h.2 hn
    refine ⟨b, off, e, fun j r hj => ?_⟩
    obtain ⟨TA, tc, hv⟩ := hc j r hj
    exact ⟨TA, tc, fun w' k => hv w' (gr_via (gr_drew (gr_refl w g)) k)⟩⟩
theorem Dr.farA {w : World} {g t : Nat} {p : Int} {A : Option Addr} {n c : Nat} {xs : List Int} (h : Dr w g t p A n c xs) {a : Addr} (ha : a.block ≠ g) (hA : ∀ b off, A = some ⟨b, off, none⟩ → b ≠ a.block) (u : Value) : Dr (w.setCell a u) g t p A n c xs :=
  ⟨h.blk.far (Ne.symm ha) u, ⟨h.rd.1, fun hn => by
    obtain ⟨b, off, e, hlt, hc⟩ := h.rd.2 hn
    exact ⟨b, off, e, hlt, fun j x hx => (World.cell?_of_block (w := w) (a := ⟨b, off + j, none⟩) (heap_setCell_other w a b u (hA b off e))).trans (hc j x hx)⟩⟩, h.byte, h.size, h.low⟩
/-- The bytes lie below B, if there are any. -/
theorem rd_block {w : World} {B n : Nat} {A : Option Addr} {xs : List Value} (h : Rd w B 1 A n xs) (hn : 0 < n) : ∀ b off, A = some ⟨b, off, none⟩ → b < B := fun b off e => by
  obtain ⟨b', off', e', hb, _⟩ := h.2 hn
  rw [e] at e'
  injection e' with e'; injection e' with e1 _
  omega
theorem l1Open_b (A : Option Addr) (n c : Nat) (xs : List Int) (w : World) (hr : Rd w w.heap.size 1 A n (u8s xs)) (hx : ∀ x ∈ xs, 0 ≤ x ∧ x ≤ 255) (hc : n ≤ c) (hc2 : c ≤ 9223372036854775807) :
    Calls Tryd.prog 61 #[.slice A n c] w fun e w' => ∃ n' c' xs', e = .returned (.pointer (some ⟨w.heap.size, 0, none⟩)) ∧ n' ≤ n ∧ Dr w' w.heap.size 122 0 A n' c' xs' ∧ Below w.heap.size w w' ∧ w.heap.size < w'.heap.size := by
  by_cases h : n ≤ 2000
  · have HR := Lib.hid hr
    have HX := Lib.hid hx
    clear hr hx
    have h' : decide ((2000 : Int) < n) = false := by simp; omega
    go_enter Tryd.func61, Tryd.ntmps61
    go_wp2
    go_returns
    exact ⟨n, c, xs, rfl, Nat.le_refl _, dr_new w _ A n c xs HR.out HX.out h, by go_grown, by simp⟩
  · obtain ⟨b, off, rfl, hb, hcl⟩ := hr.2 (by omega)
    have hl := hr.len1
    have hr2 : Rd w w.heap.size 1 (some ⟨b, off, none⟩) 2000 (u8s (xs.take 2000)) := by
      refine ⟨by simp [u8s] at *; omega, fun _ => ⟨b, off, rfl, hb, fun j u hu => hcl j u ?_⟩⟩
      simp only [u8s, List.map_take, List.getElem?_take] at hu
      split at hu
      · exact hu
      · cases hu
    have hx2 : ∀ x ∈ xs.take 2000, 0 ≤ x ∧ x ≤ 255 := fun x h => hx x (List.mem_of_mem_take h)
    have HR := Lib.hid hr2
    have HX := Lib.hid hx2
    clear hr hx hr2 hx2 hcl hl
    have h' : decide ((2000 : Int) < n) = true := by simp; omega
    go_enter Tryd.func61, Tryd.ntmps61
    go_wp2
    go_returns
    exact ⟨2000, c, xs.take 2000, rfl, by omega, dr_new w _ _ 2000 c _ HR.out HX.out (by omega), by go_grown, by simp⟩
set_option maxHeartbeats 1600000 in
set_option maxRecDepth 100000 in
theorem drawnNear_c (A : Option Addr) (n c : Nat) (xs : List Int) (PA : Option Addr) (pn pc : Nat) (rs : List Rl) (e : Int) (w : World) (hr : Rd w w.heap.size 1 A n (u8s xs)) (hx : ∀ x ∈ xs, 0 ≤ x ∧ x ≤ 255) (hc : n ≤ c) (hc2 : c ≤ 9223372036854775807)
    (hp : RdR w w.heap.size PA pn rs) (hn : pn ≤ 9) (hts : ∀ r ∈ rs, r.ts.length ≤ 10) :
    Calls Tryd.prog 23 #[.slice A n c, .agg #[.slice PA pn pc, .int .i64 e]] w (fun x w' => ∃ (num : Int) (CA : Option Addr) (cc : Nat) (zs : List Int), x = .returned (.agg #[.int .i64 num, .slice CA 4 cc]) ∧ Rd w' w'.heap.size 1 CA 4 (ints zs) ∧ callB num zs = true ∧ Below w.heap.size w w') := by
  have HR := Lib.hid hr
  have HX := Lib.hid hx
  have HP := Lib.hid hp
  have HT := Lib.hid hts
  have hB2 := blk_two w 25 28 [.slice PA pn pc, .int .i64 e] [.int .i64 0, .slice none 0 0]
  have HB1 := Lib.hid hB2.1
  have HB2 := Lib.hid hB2.2
  have p0 := HB1.out.cell (i := 0) rfl
  have p1 := HB1.out.cell (i := 1) rfl
  clear hr hx hp hts hB2
  go_enter Tryd.func23, Tryd.ntmps23
  go_wp2_with fail
  go_region_held3 (fun w' => w'.cell? ⟨w.heap.size, 0, none⟩ = some (.slice PA pn pc) ∧ w'.cell? ⟨w.heap.size, 1, none⟩ = some (.int .i64 e)) (simp [go_sem, *]) (first
    | (go_at_call 61; refine (l1Open_c A n c xs _ (HR.out.upB (by go_grown) (by go_size)) HX.out hc hc2).mono ?_; rintro e w1 ⟨n1, c1, xs1, rfl, d1, b1, z1⟩; simp only [heap_drew, World.size_alloc] at d1 z1 b1; have D1 := Lib.hid d1; have B1 := Lib.hid b1; have HB1' := Lib.hid (HB1.out.drew.below b1 (by omega)); have HB2' := Lib.hid (HB2.out.drew.below b1 (by omega)); have RV : Hid (RdV w1 (w.heap.size + 1 + 1) PA pn rs) := Lib.hid (RdV.of_rd ((HP.out.below (show Below w.heap.size w w1 from (show Below w.heap.size w ((w.alloc (.cells #[.slice PA pn pc, .int .i64 e] 25)).alloc (.cells #[.int .i64 0, .slice none 0 0] 28)).drew by go_grown).trans (b1.mono (by omega)))).more (by omega)) (by omega)); have p01 := HB1'.out.cell (i := 0) rfl; have p11 := HB1'.out.cell (i := 1) rfl; clear d1 b1)
    | (go_at_call 65; refine (near_c (w.heap.size + 1 + 1) _ A n1 c1 xs1 PA pn pc rs e _ (D1.out.upto (by go_grown)) (by omega) RV.out hn HT.out).mono ?_; rintro e w2 ⟨_, q2, rfl, ⟨num, CA, cc, zs, rfl, hown, hcb⟩, d2, e2, f2, g2⟩; have HO := Lib.hid hown; have HCB := Lib.hid hcb; have G2 := Lib.hid g2; have HB3 := Lib.hid (HB1'.out.other g2 (by simp <;> omega)); have HB4 := Lib.hid (HB2'.out.other g2 (by simp <;> omega)); have p02 := HB3.out.cell (i := 0) rfl; have p12 := HB3.out.cell (i := 1) rfl; have r02 := HB4.out.cell (i := 0) rfl; have r12 := HB4.out.cell (i := 1) rfl; have r2f := HB4.out.free; have hs2 := g2.size; clear hown hcb g2 d2))
  all_goals
    go_wp2_with fail
    refine bodyPost_ret (v := .agg #[.int .i64 num, .slice CA 4 cc]) (by simp [results, Tryd.results23, go_sem, r02, r12]) rfl ?_
    go_light
    have hb := (show Below w.heap.size w w1 from (show Below w.heap.size w ((w.alloc (.cells #[.slice PA pn pc, .int .i64 e] 25)).alloc (.cells #[.int .i64 0, .slice none 0 0] 28)).drew by go_grown).trans (B1.out.mono (by omega)))
    have ho := ownsRow_setCell_below (ownsRow_setCell_below HO.out (a := ⟨w.heap.size + 1, 0, none⟩) (by simp; omega) (.int .i64 num)) (a := ⟨w.heap.size + 1, 1, none⟩) (by simp; omega) (.slice CA 4 cc)
    exact ⟨num, CA, cc, zs, rfl, Rd.of_own ho, HCB.out, ((hb.trans (gr_below G2.out (by omega) (by omega))).setCell (p := ⟨w.heap.size + 1, 0, none⟩) (by simp) _).setCell (p := ⟨w.heap.size + 1, 1, none⟩) (by simp) _⟩
set_option maxHeartbeats 1600000 in
set_option maxRecDepth 100000 in
theorem drawJoin_c (A : Option Addr) (n c : Nat) (xs : List Int) (w : World) (hr : Rd w w.heap.size 1 A n (u8s xs)) (hx : ∀ x ∈ xs, 0 ≤ x ∧ x ≤ 255) (hc : n ≤ c) (hc2 : c ≤ 9223372036854775807) :
    Calls Tryd.prog 29 #[.slice A n c] w (RetPolPol 35 83 w) := by
  have HR := Lib.hid hr
  have HX := Lib.hid hx
  have hB2 := blk_two w 25 25 [.slice none 0 0, .int .i64 0] [.slice none 0 0, .int .i64 0]
  have HB1 := Lib.hid hB2.1
  have HB2 := Lib.hid hB2.2
  clear hr hx hB2
  go_enter Tryd.func29, Tryd.ntmps29
  (go_wp2_with fail); (go_at_call 61; refine (l1Open_c A n c xs _ (HR.out.upB (by go_grown) (by go_size)) HX.out hc hc2).mono ?_; rintro e w1 ⟨n1, c1, xs1, rfl, d1, b1, z1⟩; simp only [World.size_alloc] at d1 z1 b1; have D1 := Lib.hid d1; have B1 := Lib.hid ((show Below w.heap.size w ((w.alloc (.cells #[.slice none 0 0, .int .i64 0] 25)).alloc (.cells #[.slice none 0 0, .int .i64 0] 25)) by go_grown).trans (b1.mono (by omega))); have R1 := Lib.hid (HB1.out.below b1 (by omega)); have S1 := Lib.hid (HB2.out.below b1 (by omega)); clear d1 b1 HB1 HB2)
  obtain ⟨g, hg⟩ : ∃ g, g = w.heap.size + 1 + 1 := ⟨_, rfl⟩
  rw [← hg] at D1 z1
  simp only [World.size_alloc, ← hg]
  have hgl : w.heap.size + 1 < g := by omega
  clear hg
  (go_wp2_with fail); (go_at_call 63; refine (pick_c g _ _ A n1 c1 xs1 _ D1.out (by omega)).mono ?_; rintro e w2 ⟨_, q2, rfl, ⟨x2, rfl, l2, u2⟩, d2, e2, f2, g2⟩; have R2 := Lib.hid (R1.out.other g2 (by simp <;> omega)); have S2 := Lib.hid (S1.out.other g2 (by simp <;> omega)); have D2 := Lib.hid d2; have G2 := Lib.hid g2; have hs2 := g2.size; clear d2 g2 u2 R1 S1 D1)
  go_wp2_with fail
  · go_at_call 82
    refine (drawPolicy_c g _ A n1 c1 xs1 8 2 _ D2.out (by omega) (by omega) (by omega)).mono ?_
    rintro _ w3 ⟨_, q3, rfl, ⟨A3, n3, c3, qs3, y3, rfl, o3, hn3, hl3⟩, d3, e3, f3, g3⟩
    have R3 := Lib.hid (R2.out.other g3 (by simp <;> omega))
    have S3 := Lib.hid (S2.out.other g3 (by simp <;> omega))
    have O3 := Lib.hid o3
    have L3 := Lib.hid hl3
    have D3 := Lib.hid d3
    have G3 := Lib.hid (gr_via G2.out g3)
    have hs3 := g3.size
    clear d3 g3 o3 hl3
    (go_wp2_with fail); (go_at_call 62; refine (anyPolicy_c g _ A n1 c1 xs1 _ D3.out (by omega)).mono ?_; rintro e w4 ⟨_, q4, rfl, ⟨A4, n4, c4, qs4, y4, rfl, o4, hn4, hl4⟩, d4, e4, f4, g4⟩; have R4 := Lib.hid (R3.out.other g4 (by simp <;> omega)); have S4 := Lib.hid (S3.out.other g4 (by simp <;> omega)); have O34 := Lib.hid (O3.out.gr g4 (by omega)); have O4 := Lib.hid o4; have L4 := Lib.hid hl4; have G4 := Lib.hid (gr_via G3.out g4); have hs4 := g4.size; clear d4 g4 o4 hl4)
    have r0 := R4.out.cell (i := 0) rfl
    have r1 := R4.out.cell (i := 1) rfl
    have rf := R4.out.free
    have s0 := S4.out.cell (i := 0) rfl
    have s1 := S4.out.cell (i := 1) rfl
    have sf := S4.out.free
    go_wp2
    refine bodyPost_ret (v := .tuple #[.agg #[.slice A3 n3 c3, .int .i64 y3], .agg #[.slice A4 n4 c4, .int .i64 y4]]) (by simp [results, Tryd.results29, go_sem, r0, r1, s0, s1]) rfl ?_
    go_light
    have hb := B1.out.trans (gr_below G4.out (by omega) (by have := B1.out.size; omega))
    refine ⟨A3, n3, c3, qs3, y3, A4, n4, c4, qs4, y4, rfl, ?_, by omega, ls_more L3.out (by omega), ?_, by omega, ls_more L4.out (by omega), ?_⟩
    · exact ((((O34.out.set_ (g := w.heap.size) (o := 0) (.inl (by omega)) _).set_ (g := w.heap.size) (o := 1) (.inl (by omega)) _).set_ (g := w.heap.size + 1) (o := 0) (.inl (by omega)) _).set_ (g := w.heap.size + 1) (o := 1) (.inl (by omega)) _).wide (by omega) (by simp; omega)
    · exact ((((O4.out.set_ (g := w.heap.size) (o := 0) (.inl (by omega)) _).set_ (g := w.heap.size) (o := 1) (.inl (by omega)) _).set_ (g := w.heap.size + 1) (o := 0) (.inl (by omega)) _).set_ (g := w.heap.size + 1) (o := 1) (.inl (by omega)) _).wide (by omega) (by simp)
    · exact (((hb.setCell (p := ⟨w.heap.size, 0, none⟩) (by simp) _).setCell (p := ⟨w.heap.size, 1, none⟩) (by simp) _).setCell (p := ⟨w.heap.size + 1, 0, none⟩) (by simp) _).setCell (p := ⟨w.heap.size + 1, 1, none⟩) (by simp) _
  · go_at_call 62
    refine (anyPolicy_c g _ A n1 c1 xs1 _ D2.out (by omega)).mono ?_
    rintro _ w3 ⟨_, q3, rfl, ⟨A3, n3, c3, qs3, y3, rfl, o3, hn3, hl3⟩, d3, e3, f3, g3⟩
    have R3 := Lib.hid (R2.out.other g3 (by simp <;> omega))
    have S3 := Lib.hid (S2.out.other g3 (by simp <;> omega))
    have O3 := Lib.hid o3
    have L3 := Lib.hid hl3
    have D3 := Lib.hid d3
    have G3 := Lib.hid (gr_via G2.out g3)
    have hs3 := g3.size
    clear d3 g3 o3 hl3
    (go_wp2_with fail); (go_at_call 82; refine (drawPolicy_c g _ A n1 c1 xs1 3 2 _ D3.out (by omega) (by omega) (by omega)).mono ?_; rintro e w4 ⟨_, q4, rfl, ⟨A4, n4, c4, qs4, y4, rfl, o4, hn4, hl4⟩, d4, e4, f4, g4⟩; have R4 := Lib.hid (R3.out.other g4 (by simp <;> omega)); have S4 := Lib.hid (S3.out.other g4 (by simp <;> omega)); have O34 := Lib.hid (O3.out.gr g4 (by omega)); have O4 := Lib.hid o4; have L4 := Lib.hid hl4; have G4 := Lib.hid (gr_via G3.out g4); have hs4 := g4.size; clear d4 g4 o4 hl4)
    have r0 := R4.out.cell (i := 0) rfl
    have r1 := R4.out.cell (i := 1) rfl
    have rf := R4.out.free
    have s0 := S4.out.cell (i := 0) rfl
    have s1 := S4.out.cell (i := 1) rfl
    have sf := S4.out.free
    go_wp2
    refine bodyPost_ret (v := .tuple #[.agg #[.slice A3 n3 c3, .int .i64 y3], .agg #[.slice A4 n4 c4, .int .i64 y4]]) (by simp [results, Tryd.results29, go_sem, r0, r1, s0, s1]) rfl ?_
    go_light
    have hb := B1.out.trans (gr_below G4.out (by omega) (by have := B1.out.size; omega))
    refine ⟨A3, n3, c3, qs3, y3, A4, n4, c4, qs4, y4, rfl, ?_, by omega, ls_more L3.out (by omega), ?_, by omega, ls_more L4.out (by omega), ?_⟩
    · exact ((((O34.out.set_ (g := w.heap.size) (o := 0) (.inl (by omega)) _).set_ (g := w.heap.size) (o := 1) (.inl (by omega)) _).set_ (g := w.heap.size + 1) (o := 0) (.inl (by omega)) _).set_ (g := w.heap.size + 1) (o := 1) (.inl (by omega)) _).wide (by omega) (by simp; omega)
    · exact ((((O4.out.set_ (g := w.heap.size) (o := 0) (.inl (by omega)) _).set_ (g := w.heap.size) (o := 1) (.inl (by omega)) _).set_ (g := w.heap.size + 1) (o := 0) (.inl (by omega)) _).set_ (g := w.heap.size + 1) (o := 1) (.inl (by omega)) _).wide (by omega) (by simp)
    · exact (((hb.setCell (p := ⟨w.heap.size, 0, none⟩) (by simp) _).setCell (p := ⟨w.heap.size, 1, none⟩) (by simp) _).setCell (p := ⟨w.heap.size + 1, 0, none⟩) (by simp) _).setCell (p := ⟨w.heap.size + 1, 1, none⟩) (by simp) _
set_option maxHeartbeats 4000000 in
set_option maxRecDepth 100000 in
theorem drawPolicyOf_c (A : Option Addr) (n c : Nat) (xs : List Int) (w : World) (hr : Rd w w.heap.size 1 A n (u8s xs)) (hx : ∀ x ∈ xs, 0 ≤ x ∧ x ≤ 255) (hc : n ≤ c) (hc2 : c ≤ 9223372036854775807) :
    Calls Tryd.prog 14 #[.slice A n c] w (RetPolCall 35 83 w) := by
  have HR := Lib.hid hr
  have HX := Lib.hid hx
  have hB2 := blk_two w 25 28 [.slice none 0 0, .int .i64 0] [.int .i64 0, .slice none 0 0]
  have HB1 := Lib.hid hB2.1
  have HB2 := Lib.hid hB2.2
  clear hr hx hB2
  go_enter Tryd.func14, Tryd.ntmps14
  (go_wp2_with fail); (go_at_call 61; refine (l1Open_b A n c xs _ (HR.out.upB (by go_grown) (by go_size)) HX.out hc hc2).mono ?_; rintro e w1 ⟨n1, c1, xs1, rfl, hn1, d1, b1, z1⟩; simp only [World.size_alloc] at d1 z1 b1; have D1 := Lib.hid d1; have B1 := Lib.hid ((show Below w.heap.size w ((w.alloc (.cells #[.slice none 0 0, .int .i64 0] 25)).alloc (.cells #[.int .i64 0, .slice none 0 0] 28)) by go_grown).trans (b1.mono (by omega))); have R1 := Lib.hid (HB1.out.below b1 (by omega)); have S1 := Lib.hid (HB2.out.below b1 (by omega)); clear d1 b1 HB1 HB2)
  have HA : Hid (∀ b off, A = some ⟨b, off, none⟩ → 0 < n1 → b < w.heap.size) := Lib.hid (fun b off e h => rd_block HR.out (by omega) b off e)
  obtain ⟨g, hg⟩ : ∃ g, g = w.heap.size + 1 + 1 := ⟨_, rfl⟩
  rw [← hg] at D1 z1
  simp only [World.size_alloc, ← hg]
  have hgl : w.heap.size + 1 < g := by omega
  clear hg
  (go_wp2_with fail); (go_at_call 62; refine (anyPolicy_c g _ A n1 c1 xs1 _ D1.out (by omega)).mono ?_; rintro e w2 ⟨_, q2, rfl, ⟨A2, n2, c2, qs, y2, rfl, o2, hn2, hl2⟩, d2, e2, f2, g2⟩; have R2 := Lib.hid (R1.out.other g2 (by simp <;> omega)); have S2 := Lib.hid (S1.out.other g2 (by simp <;> omega)); have D2 := Lib.hid d2; have G2 := Lib.hid g2; have O2 := Lib.hid o2; have L2 := Lib.hid hl2; have hs2 := g2.size; clear d2 g2 R1 S1 D1 o2 hl2)
  have hX := Lib.hid (Blk.new w2 25 [.slice A2 n2 c2, .int .i64 y2])
  (go_wp2_with fail); (go_at_call 63; refine (pick_c g _ _ A n1 c1 xs1 _ (D2.out.upto (by go_grown)) (by omega)).mono ?_; rintro e w3 ⟨_, q3, rfl, ⟨x3, rfl, l3, u3⟩, d3, e3, f3, g3⟩; have R3 := Lib.hid ((R2.out.alloc _).other g3 (by simp <;> omega)); have S3 := Lib.hid ((S2.out.alloc _).other g3 (by simp <;> omega)); have X3 := Lib.hid (hX.out.other g3 (by simp <;> omega)); have D3 := Lib.hid d3; have G3 := Lib.hid (gr_via (gr_alloc G2.out _) g3); have O3 := Lib.hid ((O2.out.up (by go_grown)).gr g3 (by omega)); have hs3 := g3.size; simp at hs3; clear d3 g3 u3 R2 S2 D2 hX)
  have r0 := R3.out.cell (i := 0) rfl
  have r1 := R3.out.cell (i := 1) rfl
  have rf := R3.out.free
  have s0 := S3.out.cell (i := 0) rfl
  have s1 := S3.out.cell (i := 1) rfl
  have sf := S3.out.free
  have x0 := X3.out.cell (i := 0) rfl
  have x1 := X3.out.cell (i := 1) rfl
  have m1 : w.heap.size ≠ w2.heap.size := by omega
  have m2 : w.heap.size + 1 ≠ w2.heap.size := by omega
  have m3 : w.heap.size < w3.heap.size := by omega
  have m4 : w.heap.size + 1 < w3.heap.size := by omega
  have m5 : w2.heap.size < w3.heap.size := by omega
  have m6 : w.heap.size ≠ g := by omega
  have m7 : w.heap.size + 1 ≠ g := by omega
  have m8 : w2.heap.size ≠ g := by omega
  -- the result laid by and by: the reader and the policy bear it
  have D3s : Hid (Dr ((w3.setCell ⟨w.heap.size, 0, none⟩ (.slice A2 n2 c2)).setCell ⟨w.heap.size, 1, none⟩ (.int .i64 y2)) g 122 q3 A n1 c1 xs1) := by
    by_cases hz : n1 = 0
    · subst hz
      have hd := D3.out
      exact ⟨(hd.blk.far (by simp; omega) _).far (by simp; omega) _, ⟨hd.rd.1, fun h => absurd h (by omega)⟩, hd.byte, hd.size, hd.low⟩
    · exact (D3.out.farA (by simp; omega) (fun b off e => by have := HA.out b off e (by omega); simp; omega) _).farA (by simp; omega) (fun b off e => by have := HA.out b off e (by omega); simp; omega) _
  have O3s : Hid (OP ((w3.setCell ⟨w.heap.size, 0, none⟩ (.slice A2 n2 c2)).setCell ⟨w.heap.size, 1, none⟩ (.int .i64 y2)) w1.heap.size w2.heap.size 35 83 A2 n2 c2 qs) := Lib.hid ((O3.out.set_ (g := w.heap.size) (o := 0) (.inl (by omega)) _).set_ (g := w.heap.size) (o := 1) (.inl (by omega)) _)
  go_wp2_with fail
  · go_region_held3 (fun w' => w'.cell? ⟨w2.heap.size, 0, none⟩ = some (.slice A2 n2 c2) ∧ w'.cell? ⟨w2.heap.size, 1, none⟩ = some (.int .i64 y2)) (simp [go_sem, *]) ((go_at_call 64; refine (drawAnyCall_c g _ A n1 c1 xs1 _ (by first | exact D3.out.drewN 1 | exact D3s.out.drewN 1) (by omega)).mono ?_; rintro e w4 ⟨_, q4, rfl, ⟨num, CA, cn, cc, zs, rfl, ow, hcn⟩, d4, e4, f4, g4⟩; obtain ⟨gc4, gf4⟩ := grown_get g4; (try simp only [heap_drew, World.size_alloc, World.size_setCell] at gc4 gf4 ow); have O4 : Hid (OP w4 w1.heap.size w2.heap.size 35 83 A2 n2 c2 qs) := Lib.hid (by first | exact O3.out.drew.gr g4 (by omega) | exact O3s.out.drew.gr g4 (by omega)); have W4 := Lib.hid ow; have hs4 := g4.size; (try simp at hs4); have G4 : Hid (Below w.heap.size w w4) := Lib.hid (by first | exact (B1.out.trans (gr_below G3.out (by omega) (by have := B1.out.size; omega))).drew.trans (gr_below g4 (by omega) (by simp; omega)) | exact (((B1.out.trans (gr_below G3.out (by omega) (by have := B1.out.size; omega))).setCell (p := ⟨w.heap.size, 0, none⟩) (by simp) _).setCell (p := ⟨w.heap.size, 1, none⟩) (by simp) _).drew.trans (gr_below g4 (by omega) (by simp; omega))); clear d4 g4 ow))
    all_goals
      go_wp2_with fail
      refine bodyPost_ret (v := .tuple #[.agg #[.slice A2 n2 c2, .int .i64 y2], .agg #[.int .i64 num, .slice CA cn cc]]) (by simp [results, Tryd.results14, go_sem, *]) rfl ?_
      go_light
      refine ⟨A2, n2, c2, qs, y2, num, CA, cn, cc, zs, rfl, ?_, hn2, L2.out, ?_, hcn, ?_⟩
      · refine OP.wide (lo := w1.heap.size) (hi := w2.heap.size) ?_ (by have := B1.out.size; omega) (by simp; omega)
        repeat (first | exact O4.out | refine OP.set_ ?_ (.inl (by omega)) _)
      · refine Ow.low (B := w3.heap.size) ?_ (by have := B1.out.size; omega)
        repeat (first | exact W4.out | refine Ow.far ?_ (by simp <;> omega) _)
      · repeat (first | exact G4.out | refine Below.setCell ?_ (by simp) _)
  · have RV : Hid (RdV w3 g A2 n2 (rls qs)) := Lib.hid (RdV.of_op O3.out (by omega))
    have RVs : Hid (RdV ((w3.setCell ⟨w.heap.size, 0, none⟩ (.slice A2 n2 c2)).setCell ⟨w.heap.size, 1, none⟩ (.int .i64 y2)) g A2 n2 (rls qs)) := Lib.hid (RdV.of_op O3s.out (by omega))
    have HT : Hid (∀ r ∈ rls qs, r.ts.length ≤ 10) := Lib.hid (fun r hr => by obtain ⟨q, hq, rfl⟩ := List.mem_map.1 hr; have := L2.out q hq; omega)
    go_region_held3 (fun w' => w'.cell? ⟨w2.heap.size, 0, none⟩ = some (.slice A2 n2 c2) ∧ w'.cell? ⟨w2.heap.size, 1, none⟩ = some (.int .i64 y2)) (simp [go_sem, *]) ((go_at_call 65; refine (near_c g _ A n1 c1 xs1 A2 n2 c2 (rls qs) y2 _ (by first | exact D3.out.drewN 1 | exact D3s.out.drewN 1) (by omega) (by first | exact RV.out.drew | exact RVs.out.drew) (by omega) HT.out).mono ?_; rintro e w4 ⟨_, q4, rfl, ⟨num, CA, cc, zs, rfl, ow, hcb⟩, d4, e4, f4, g4⟩; obtain ⟨gc4, gf4⟩ := grown_get g4; (try simp only [heap_drew, World.size_alloc, World.size_setCell] at gc4 gf4 ow); have O4 : Hid (OP w4 w1.heap.size w2.heap.size 35 83 A2 n2 c2 qs) := Lib.hid (by first | exact O3.out.drew.gr g4 (by omega) | exact O3s.out.drew.gr g4 (by omega)); have W4 := Lib.hid (Ow.of_own ow); have hs4 := g4.size; (try simp at hs4); have G4 : Hid (Below w.heap.size w w4) := Lib.hid (by first | exact (B1.out.trans (gr_below G3.out (by omega) (by have := B1.out.size; omega))).drew.trans (gr_below g4 (by omega) (by simp; omega)) | exact (((B1.out.trans (gr_below G3.out (by omega) (by have := B1.out.size; omega))).setCell (p := ⟨w.heap.size, 0, none⟩) (by simp) _).setCell (p := ⟨w.heap.size, 1, none⟩) (by simp) _).drew.trans (gr_below g4 (by omega) (by simp; omega))); clear d4 g4 ow))
    all_goals
      go_wp2_with fail
      refine bodyPost_ret (v := .tuple #[.agg #[.slice A2 n2 c2, .int .i64 y2], .agg #[.int .i64 num, .slice CA 4 cc]]) (by simp [results, Tryd.results14, go_sem, *]) rfl ?_
      go_light
      refine ⟨A2, n2, c2, qs, y2, num, CA, 4, cc, zs, rfl, ?_, hn2, L2.out, ?_, by omega, ?_⟩
      · refine OP.wide (lo := w1.heap.size) (hi := w2.heap.size) ?_ (by have := B1.out.size; omega) (by simp; omega)
        repeat (first | exact O4.out | refine OP.set_ ?_ (.inl (by omega)) _)
      · refine Ow.low (B := w3.heap.size) ?_ (by have := B1.out.size; omega)
        repeat (first | exact W4.out | refine Ow.far ?_ (by simp <;> omega) _)
      · repeat (first | exact G4.out | refine Below.setCell ?_ (by simp) _)
