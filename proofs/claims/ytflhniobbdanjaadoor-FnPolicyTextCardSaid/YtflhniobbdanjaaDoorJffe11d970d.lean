/- Parts of laws in one text. Conditions: each lemma's own. -/
import Derived.Test.YtflhniobbdanjaaDoorJb0d903ed5e
import Derived.Test.YtflhniobbdanjaaDoorJ8a22b2749d
import Derived.Test.YtflhniobbdanjaaDoorJ8435d320fe
import Derived.Laws.Concat
namespace Go.Proofs.YtflhniobbdanjaaDoor
set_option linter.unusedSimpArgs false
open Go.RowKit
set_option linter.unusedVariables false
set_option linter.unnecessarySimpa false
set_option maxRecDepth 20000
/-- The call returns a drawn policy in memory of its own. -/
def RetDPT (ER ET : Nat) (w : World) (e : Ending) (w' : World) : Prop :=
  ∃ (PA : Option Addr) (pn pc : Nat) (qs : List (Rl × Value)) (pe : Int), e = .returned (.agg #[.slice PA pn pc, .int .i64 pe]) ∧
    OP w' w.heap.size w'.heap.size ER ET PA pn pc qs ∧ pn ≤ 9 ∧ (∀ q ∈ qs, q.1.ts.length ≤ 8) ∧ Below w.heap.size w w'
set_option maxHeartbeats 1600000 in
set_option maxRecDepth 100000 in
theorem drawPolicyWriteT_c (A : Option Addr) (n c : Nat) (xs : List Int) (w : World) (hr : Rd w w.heap.size 1 A n (u8s xs)) (hx : ∀ x ∈ xs, 0 ≤ x ∧ x ≤ 255) (hc : n ≤ c) (hc2 : c ≤ 9223372036854775807) :
    Calls Tryd.prog 13 #[.slice A n c] w (RetDPT 40 67 w) := by
  have HR := Lib.hid hr
  have HX := Lib.hid hx
  have HB1 := Lib.hid (Blk.new w 24 [.slice none 0 0, .int .i64 0])
  clear hr hx
  go_enter Tryd.func13, Tryd.ntmps13
  (go_wp2_with fail); (go_at_call 30; refine (l1Open_c A n c xs _ (HR.out.upB (by go_grown) (by go_size)) HX.out hc hc2).mono ?_; rintro e w1 ⟨n1, c1, xs1, rfl, d1, b1, z1⟩; simp only [World.size_alloc] at d1 z1 b1; have D1 := Lib.hid d1; have B1 := Lib.hid ((show Below w.heap.size w (w.alloc (.cells #[.slice none 0 0, .int .i64 0] 24)) by go_grown).trans (b1.mono (by omega))); have R1 := Lib.hid (HB1.out.below b1 (by omega)); clear d1 b1 HB1)
  obtain ⟨g, hg⟩ : ∃ g, g = w.heap.size + 1 := ⟨_, rfl⟩
  rw [← hg] at D1 z1
  simp only [World.size_alloc, ← hg]
  have hgl : w.heap.size < g := by omega
  clear hg
  (go_wp2_with fail); (go_at_call 31; refine (pick_c g _ _ A n1 c1 xs1 _ D1.out (by omega)).mono ?_; rintro e w2 ⟨_, q2, rfl, ⟨x2, rfl, l2, u2⟩, d2, e2, f2, g2⟩; have R2 := Lib.hid (R1.out.other g2 (by simp <;> omega)); have D2 := Lib.hid d2; have G2 := Lib.hid g2; have hs2 := g2.size; clear d2 g2 u2 R1 D1)
  go_wp2_with fail
  · go_at_call 34
    refine (drawPolicy_c g _ A n1 c1 xs1 8 4 _ D2.out (by omega) (by omega) (by omega)).mono ?_
    rintro _ w3 ⟨_, q3, rfl, ⟨A3, n3, c3, qs3, y3, rfl, o3, hn3, hl3⟩, d3, e3, f3, g3⟩
    have R3 := Lib.hid (R2.out.other g3 (by simp <;> omega))
    have O3 := Lib.hid o3
    have L3 := Lib.hid hl3
    have G3 := Lib.hid (gr_via G2.out g3)
    have hs3 := g3.size
    clear d3 g3 o3 hl3
    have r0 := R3.out.cell (i := 0) rfl
    have r1 := R3.out.cell (i := 1) rfl
    have rf := R3.out.free
    go_wp2
    refine bodyPost_ret (v := .agg #[.slice A3 n3 c3, .int .i64 y3]) (by simp [results, Tryd.results13, go_sem, r0, r1]) rfl ?_
    go_light
    have hb := B1.out.trans (gr_below G3.out (by omega) (by have := B1.out.size; omega))
    exact ⟨A3, n3, c3, qs3, y3, rfl, (((O3.out.set_ (g := w.heap.size) (o := 0) (.inl (by omega)) _).set_ (g := w.heap.size) (o := 1) (.inl (by omega)) _)).wide (by omega) (by simp), by omega, ls_more L3.out (by omega), (hb.setCell (p := ⟨w.heap.size, 0, none⟩) (by simp) _).setCell (p := ⟨w.heap.size, 1, none⟩) (by simp) _⟩
  · go_at_call 36
    refine (anyPolicy_c g _ A n1 c1 xs1 _ D2.out (by omega)).mono ?_
    rintro _ w3 ⟨_, q3, rfl, ⟨A3, n3, c3, qs3, y3, rfl, o3, hn3, hl3⟩, d3, e3, f3, g3⟩
    have R3 := Lib.hid (R2.out.other g3 (by simp <;> omega))
    have O3 := Lib.hid o3
    have L3 := Lib.hid hl3
    have G3 := Lib.hid (gr_via G2.out g3)
    have hs3 := g3.size
    clear d3 g3 o3 hl3
    have r0 := R3.out.cell (i := 0) rfl
    have r1 := R3.out.cell (i := 1) rfl
    have rf := R3.out.free
    go_wp2
    refine bodyPost_ret (v := .agg #[.slice A3 n3 c3, .int .i64 y3]) (by simp [results, Tryd.results13, go_sem, r0, r1]) rfl ?_
    go_light
    have hb := B1.out.trans (gr_below G3.out (by omega) (by have := B1.out.size; omega))
    exact ⟨A3, n3, c3, qs3, y3, rfl, (((O3.out.set_ (g := w.heap.size) (o := 0) (.inl (by omega)) _).set_ (g := w.heap.size) (o := 1) (.inl (by omega)) _)).wide (by omega) (by simp), by omega, ls_more L3.out (by omega), (hb.setCell (p := ⟨w.heap.size, 0, none⟩) (by simp) _).setCell (p := ⟨w.heap.size, 1, none⟩) (by simp) _⟩
end Go.Proofs.YtflhniobbdanjaaDoor
namespace Go.Proofs.YtflhniobbdanjaaDoor
set_option linter.unusedSimpArgs false
open Go.RowKit
set_option linter.unusedVariables false
set_option linter.unnecessarySimpa false
set_option maxRecDepth 20000
def strsT (xs : List ByteArray) : List Value := xs.map Value.string
/-- The call returns a text of at most K bytes. -/
def TextIsT (K : Nat) (v : Value) (_ : World) : Prop := ∃ s : ByteArray, v = .string s ∧ s.size ≤ K
theorem strs_inT {l : List ByteArray} {x : Int} (h : 0 ≤ x) (hx : x < l.length) : ∃ y, (strsT l)[x.toNat]? = some (.string y) ∧ y ∈ l := by
  obtain ⟨y, hy⟩ := some_at (rfl : l.length = l.length) (show x.toNat < l.length by omega)
  exact ⟨y, by simp [strsT, hy], List.mem_of_getElem? hy⟩
def txtsR : List ByteArray := [⟨#[]⟩, ⟨#[101, 108, 115, 101, 32, 97, 108, 108, 111, 119]⟩, ⟨#[101, 108, 115, 101, 32, 97, 108, 108, 111, 119, 10]⟩, ⟨#[101, 108, 115, 101, 32, 120, 10]⟩, ⟨#[97, 108, 108, 111, 119, 32, 49, 10]⟩, ⟨#[97, 108, 108, 111, 119, 32, 49, 10, 101, 108, 115, 101, 32, 100, 101, 110, 121, 10]⟩, ⟨#[97, 108, 108, 111, 119, 32, 48, 49, 10, 101, 108, 115, 101, 32, 100, 101, 110, 121, 10]⟩, ⟨#[97, 108, 108, 111, 119, 32, 50, 45, 49, 10, 101, 108, 115, 101, 32, 100, 101, 110, 121, 10]⟩, ⟨#[97, 108, 108, 111, 119, 32, 49, 45, 49, 10, 101, 108, 115, 101, 32, 100, 101, 110, 121, 10]⟩, ⟨#[97, 108, 108, 111, 119, 32, 49, 32, 97, 48, 61, 49, 10, 101, 108, 115, 101, 32, 100, 101, 110, 121, 10]⟩, ⟨#[97, 108, 108, 111, 119, 32, 49, 32, 97, 49, 38, 48, 61, 48, 10, 101, 108, 115, 101, 32, 100, 101, 110, 121, 10]⟩, ⟨#[97, 108, 108, 111, 119, 32, 49, 32, 97, 49, 38, 51, 61, 52, 10, 101, 108, 115, 101, 32, 100, 101, 110, 121, 10]⟩, ⟨#[97, 108, 108, 111, 119, 32, 49, 32, 97, 49, 38, 51, 60, 50, 10, 101, 108, 115, 101, 32, 100, 101, 110, 121, 10]⟩, ⟨#[97, 108, 108, 111, 119, 32, 49, 32, 97, 49, 38, 52, 50, 57, 52, 57, 54, 55, 50, 57, 53, 61, 50, 10, 101, 108, 115, 101, 32, 100, 101, 110, 121, 10]⟩, ⟨#[97, 108, 108, 111, 119, 32, 52, 50, 57, 52, 57, 54, 55, 50, 57, 54, 10, 101, 108, 115, 101, 32, 100, 101, 110, 121, 10]⟩, ⟨#[97, 108, 108, 111, 119, 32, 49, 32, 97, 49, 61, 10, 101, 108, 115, 101, 32, 100, 101, 110, 121, 10]⟩, ⟨#[101, 108, 115, 101, 32, 97, 108, 108, 111, 119, 10, 101, 108, 115, 101, 32, 97, 108, 108, 111, 119, 10]⟩, ⟨#[97, 108, 108, 111, 119, 32, 49, 32, 10, 101, 108, 115, 101, 32, 100, 101, 110, 121, 10]⟩]
theorem txtsR_size : ∀ s ∈ txtsR, s.size ≤ 100 := by decide
def txtsB : List ByteArray := [⟨#[32]⟩, ⟨#[10]⟩, ⟨#[48]⟩, ⟨#[97]⟩, ⟨#[45]⟩, ⟨#[61]⟩, ⟨#[38]⟩, ⟨#[120]⟩]
theorem txtsB_size : ∀ s ∈ txtsB, s.size ≤ 1 := by decide
theorem gr_of_belowT {w w' : World} (b : Below w.heap.size w w') (g : Nat) : w.grownBy w' (some g) := ⟨b.os, b.tape, b.output, b.size, fun i hi _ => b.block i hi⟩
theorem polS_size (p : Pol) : (polS p).size ≤ 900 := by
  unfold polS
  split
  · rename_i h
    rw [str_size]
    unfold polOk at h
    simp only [Bool.and_eq_true, decide_eq_true_eq] at h
    exact h.2
  · decide
theorem ofT_c (g : Nat) (p : Int) (A : Option Addr) (n c : Nat) (xs : List Int) (b K m : Nat) (ss : List ByteArray) (w : World) (h : Dr w g 85 p A n c xs) (hp : p ≤ 1099511627000) (hl : ss.length = m) (h1 : 1 ≤ m) (h2 : m ≤ 1000) (hb : Blk w b 9 (strsT ss)) (hg : b ≠ g) (hK : ∀ s ∈ ss, s.size ≤ K) :
    Calls Tryd.prog 32 #[.pointer (some ⟨g, 0, none⟩), .slice (some ⟨b, 0, none⟩) m m] w (RetDraw (TextIsT K) g 85 p 1 A n c xs w) := by
  have HB := Lib.hid hb
  have HK := Lib.hid hK
  have D0 := Lib.hid h
  have HL := Lib.hid hl
  clear hb hK h hl
  go_enter Tryd.func32, Tryd.ntmps32
  (go_wp2_with fail); (go_at_call 31; refine (pick_c g _ _ A n c xs _ (D0.out.upto (by go_grown)) (by omega)).mono ?_; rintro e w1 ⟨_, q1, rfl, ⟨x1, rfl, l1, u1⟩, d1, e1, f1, g1⟩; have B1 := Lib.hid (HB.out.other g1 (by simp; omega)); have D1 := Lib.hid d1; have G1 := Lib.hid g1; clear d1 g1)
  have v1 := u1 (by omega)
  obtain ⟨y, hy, hm⟩ := strs_inT (l := ss) l1 (by rw [HL.out]; omega)
  have cy := B1.out.cell hy
  have HM := Lib.hid (HK.out y hm)
  clear hy hm u1
  go_wp2
  go_returns
  exact ⟨_, q1, rfl, ⟨y, rfl, HM.out⟩, D1.out, by omega, by omega, G1.out⟩
set_option maxHeartbeats 1600000 in
theorem bend_c (g : Nat) (p : Int) (A : Option Addr) (n c : Nat) (xs : List Int) (S : ByteArray) (b m : Nat) (ss : List ByteArray) (w : World) (h : Dr w g 85 p A n c xs) (hp : p ≤ 1099511626000) (hl : ss.length = m) (h1 : 1 ≤ m) (h2 : m ≤ 1000) (hb : Blk w b 9 (strsT ss)) (hg : b ≠ g) (hK : ∀ s ∈ ss, s.size ≤ 1) (hS : S.size ≤ 900) :
    Calls Tryd.prog 33 #[.pointer (some ⟨g, 0, none⟩), .string S, .slice (some ⟨b, 0, none⟩) m m, .int .i64 4] w (RetDraw (TextIsT 901) g 85 p 3 A n c xs w) := by
  have HB := Lib.hid hb
  have HK := Lib.hid hK
  have D0 := Lib.hid h
  have HL := Lib.hid hl
  clear hb hK h hl
  go_enter Tryd.func33, Tryd.ntmps33
  (go_wp2_with fail); (go_at_call 31; refine (pick_c g _ _ A n c xs _ (D0.out.upto (by go_grown)) (by omega)).mono ?_; rintro e w1 ⟨_, q1, rfl, ⟨x1, rfl, l1, u1⟩, d1, e1, f1, g1⟩; have B1 := Lib.hid (HB.out.other g1 (by simp; omega)); have D1 := Lib.hid d1; have G1 := Lib.hid g1; clear d1 g1 u1)
  go_wp2_with fail
  · go_returns
    exact ⟨_, q1, rfl, ⟨S, rfl, by omega⟩, D1.out, by omega, by omega, G1.out⟩
  · go_at_call 31
    refine (pick_c g _ _ A n c xs _ D1.out (by omega)).mono ?_
    rintro e w2 ⟨_, q2, rfl, ⟨x2, rfl, l2, u2⟩, d2, e2, f2, g2⟩
    have v2 := u2 (by omega)
    have B2 := Lib.hid (B1.out.other g2 (by simp; omega))
    have D2 := Lib.hid d2
    have G2 := Lib.hid (gr_via G1.out g2)
    clear d2 g2 u2
    obtain ⟨k, rfl⟩ := Int.eq_ofNat_of_zero_le l2
    have hk : k ≤ S.size := by omega
    have hx1 : (S.extract 0 k).size ≤ 900 := by rw [ByteArray.size_extract]; omega
    have hx2 : (S.extract k S.size).size ≤ 900 - k := by rw [ByteArray.size_extract]; omega
    have hx3 : (S.extract 0 k).size ≤ k := by rw [ByteArray.size_extract]; omega
    go_wp2_with fail
    go_region_law (go_simp; go_at_call 32; refine (ofT_c g _ A n c xs b 1 m ss _ (D2.out.upto (w' := w2.drew) (by go_grown)) (by omega) HL.out h1 h2 B2.out.drew hg HK.out).mono ?_; rintro e w3 ⟨_, q3, rfl, ⟨y3, rfl, hs3⟩, d3, e3, f3, g3⟩; have D3 := Lib.hid d3; have G3 := Lib.hid (gr_via (gr_drew G2.out) g3); have ha1 := fun W => run_string_add_sum (P := Tryd.prog) (w := W) (S.extract 0 k) y3 (by omega); have ha2 := fun W => run_string_add_sum (P := Tryd.prog) (w := W) (S.extract 0 k ++ y3) (S.extract k S.size) (by rw [ByteArray.size_append]; omega); have hsz3 : ((S.extract 0 k ++ y3) ++ S.extract k S.size).size ≤ 901 := (by rw [ByteArray.size_append, ByteArray.size_append]; omega); clear d3 g3)
    all_goals
      go_wp2
      go_returns
      exact ⟨_, q3, rfl, ⟨_, rfl, hsz3⟩, D3.out, by omega, by omega, G3.out⟩
set_option maxHeartbeats 1600000 in
theorem drawPolicyRead_c (A : Option Addr) (n c : Nat) (xs : List Int) (w : World) (hr : Rd w w.heap.size 1 A n (u8s xs)) (hx : ∀ x ∈ xs, 0 ≤ x ∧ x ≤ 255) (hc : n ≤ c) (hc2 : c ≤ 9223372036854775807) :
    Calls Tryd.prog 10 #[.slice A n c] w (fun e w' => ∃ s : ByteArray, e = .returned (.string s) ∧ s.size ≤ 1000 ∧ Below w.heap.size w w') := by
  have HR := Lib.hid hr
  have HX := Lib.hid hx
  clear hr hx
  go_enter Tryd.func10, Tryd.ntmps10
  (go_wp2_with fail); (go_at_call 30; refine (l1Open_c A n c xs _ (HR.out.upB (by go_grown) (by go_size)) HX.out hc hc2).mono ?_; rintro e w1 ⟨n1, c1, xs1, rfl, d1, b1, z1⟩; have D1 := Lib.hid d1; have B1 := Lib.hid b1; clear d1 b1)
  obtain ⟨g, hg⟩ : ∃ g, g = w.heap.size := ⟨_, rfl⟩
  rw [← hg] at D1 z1
  have hgl : w.heap.size ≤ g := by omega
  simp only [← hg]
  clear hg
  (go_wp2_with fail); (go_at_call 31; refine (pick_c g _ _ A n1 c1 xs1 _ D1.out (by omega)).mono ?_; rintro e w2 ⟨_, q2, rfl, ⟨x2, rfl, l2, u2⟩, d2, e2, f2, g2⟩; have D2 := Lib.hid d2; have G2 := Lib.hid g2; have hs2 := g2.size; clear d2 g2 u2 D1)
  have hS1 : Hid (Blk (w2.alloc (.cells #[.string ⟨#[]⟩, .string ⟨#[101, 108, 115, 101, 32, 97, 108, 108, 111, 119]⟩, .string ⟨#[101, 108, 115, 101, 32, 97, 108, 108, 111, 119, 10]⟩, .string ⟨#[101, 108, 115, 101, 32, 120, 10]⟩, .string ⟨#[97, 108, 108, 111, 119, 32, 49, 10]⟩, .string ⟨#[97, 108, 108, 111, 119, 32, 49, 10, 101, 108, 115, 101, 32, 100, 101, 110, 121, 10]⟩, .string ⟨#[97, 108, 108, 111, 119, 32, 48, 49, 10, 101, 108, 115, 101, 32, 100, 101, 110, 121, 10]⟩, .string ⟨#[97, 108, 108, 111, 119, 32, 50, 45, 49, 10, 101, 108, 115, 101, 32, 100, 101, 110, 121, 10]⟩, .string ⟨#[97, 108, 108, 111, 119, 32, 49, 45, 49, 10, 101, 108, 115, 101, 32, 100, 101, 110, 121, 10]⟩, .string ⟨#[97, 108, 108, 111, 119, 32, 49, 32, 97, 48, 61, 49, 10, 101, 108, 115, 101, 32, 100, 101, 110, 121, 10]⟩, .string ⟨#[97, 108, 108, 111, 119, 32, 49, 32, 97, 49, 38, 48, 61, 48, 10, 101, 108, 115, 101, 32, 100, 101, 110, 121, 10]⟩, .string ⟨#[97, 108, 108, 111, 119, 32, 49, 32, 97, 49, 38, 51, 61, 52, 10, 101, 108, 115, 101, 32, 100, 101, 110, 121, 10]⟩, .string ⟨#[97, 108, 108, 111, 119, 32, 49, 32, 97, 49, 38, 51, 60, 50, 10, 101, 108, 115, 101, 32, 100, 101, 110, 121, 10]⟩, .string ⟨#[97, 108, 108, 111, 119, 32, 49, 32, 97, 49, 38, 52, 50, 57, 52, 57, 54, 55, 50, 57, 53, 61, 50, 10, 101, 108, 115, 101, 32, 100, 101, 110, 121, 10]⟩, .string ⟨#[97, 108, 108, 111, 119, 32, 52, 50, 57, 52, 57, 54, 55, 50, 57, 54, 10, 101, 108, 115, 101, 32, 100, 101, 110, 121, 10]⟩, .string ⟨#[97, 108, 108, 111, 119, 32, 49, 32, 97, 49, 61, 10, 101, 108, 115, 101, 32, 100, 101, 110, 121, 10]⟩, .string ⟨#[101, 108, 115, 101, 32, 97, 108, 108, 111, 119, 10, 101, 108, 115, 101, 32, 97, 108, 108, 111, 119, 10]⟩, .string ⟨#[97, 108, 108, 111, 119, 32, 49, 32, 10, 101, 108, 115, 101, 32, 100, 101, 110, 121, 10]⟩] 9)) w2.heap.size 9 (strsT txtsR)) := Lib.hid (Blk.new w2 9 (strsT txtsR))
  go_wp2_with fail
  · go_at_call 32
    refine (ofT_c g _ A n1 c1 xs1 w2.heap.size 100 18 txtsR _ (D2.out.upto (by go_grown)) (by omega) rfl (by omega) (by omega) hS1.out (by omega) txtsR_size).mono ?_
    rintro e w3 ⟨_, q3, rfl, ⟨s3, rfl, hs3⟩, d3, e3, f3, g3⟩
    have G3 := Lib.hid (gr_via (gr_alloc G2.out _) g3)
    clear d3 g3
    go_wp2
    go_returns
    exact ⟨s3, rfl, by omega, B1.out.trans (gr_below G3.out hgl B1.out.size)⟩
  · go_at_call 34
    refine (drawPolicy_c g _ A n1 c1 xs1 4 3 _ D2.out (by omega) (by omega) (by omega)).mono ?_
    rintro _ w3 ⟨_, q3, rfl, ⟨A3, n3, c3, qs3, y3, rfl, o3, hn3, hl3⟩, d3, e3, f3, g3⟩
    have HO3 := Lib.hid o3.rd
    have D3 := Lib.hid d3
    have G3 := Lib.hid (gr_via G2.out g3)
    have hs3 := g3.size
    clear o3 hl3 d3 g3
    (go_wp2_with fail); (go_at_call 14; refine (specPolicyWrite_c A3 n3 c3 (rls qs3) y3 _ HO3.out (by omega)).mono ?_; rintro e w4 ⟨rfl, b4⟩; skip)
    have hps := polS_size ⟨rls qs3, y3⟩
    generalize polS ⟨rls qs3, y3⟩ = PS at *
    have D4 := Lib.hid (D3.out.upto b4)
    have G4 := Lib.hid (gr_grown G3.out (gr_of_belowT b4 g) (fun b e => .inl (by injection e with e; exact e.symm)))
    have hs4 := b4.size
    clear b4
    have hS2 : Hid (Blk (w4.alloc (.cells #[.string ⟨#[32]⟩, .string ⟨#[10]⟩, .string ⟨#[48]⟩, .string ⟨#[97]⟩, .string ⟨#[45]⟩, .string ⟨#[61]⟩, .string ⟨#[38]⟩, .string ⟨#[120]⟩] 9)) w4.heap.size 9 (strsT txtsB)) := Lib.hid (Blk.new w4 9 (strsT txtsB))
    (go_wp2_with fail); (go_at_call 33; refine (bend_c g _ A n1 c1 xs1 PS w4.heap.size 8 txtsB _ (D4.out.upto (by go_grown)) (by omega) rfl (by omega) (by omega) hS2.out (by omega) txtsB_size hps).mono ?_; rintro e w5 ⟨_, q5, rfl, ⟨s5, rfl, hs5⟩, d5, e5, f5, g5⟩; have G5 := Lib.hid (gr_via (gr_alloc G4.out _) g5); clear d5 g5)
    go_wp2
    go_returns
    exact ⟨s5, rfl, by omega, B1.out.trans (gr_below G5.out hgl B1.out.size)⟩
end Go.Proofs.YtflhniobbdanjaaDoor
