/- The drawn texts and keys. Conditions: each contract's own. -/
import Derived.Test.YtbijlencoilchaaDoorMac
namespace Go.Proofs.YtbijlencoilchaaDoor
open Go.RowKit
set_option linter.unusedVariables false
set_option linter.unnecessarySimpa false
/-- The call returns a text of at most K bytes; only the reader's block and new blocks have turned. -/
def TextIs (K : Nat) (v : Value) (_ : World) : Prop := ∃ s : ByteArray, v = .string s ∧ s.size ≤ K
def txts : List ByteArray := [⟨#[97]⟩, ⟨#[0]⟩, ⟨#[97, 98, 99]⟩]
theorem txts_size : ∀ s ∈ txts, s.size ≤ 3 := by decide
def txts2 : List ByteArray := [⟨#[]⟩, ⟨#[116, 101, 120, 116]⟩, ⟨#[119, 104, 97, 116, 32, 100, 111, 32, 121, 97, 32, 119, 97, 110, 116, 32, 102, 111, 114, 32, 110, 111, 116, 104, 105, 110, 103, 63]⟩]
theorem txts2_size : ∀ s ∈ txts2, s.size ≤ 28 := by decide
theorem ints_in {l : List Int} {x : Int} (h : 0 ≤ x) (hx : x < l.length) : ∃ y, (ints l)[x.toNat]? = some (.int .i64 y) ∧ y ∈ l := by
  obtain ⟨y, hy⟩ := some_at (rfl : l.length = l.length) (show x.toNat < l.length by omega)
  exact ⟨y, ints_at hy, List.mem_of_getElem? hy⟩
theorem strs_in {l : List ByteArray} {x : Int} (h : 0 ≤ x) (hx : x < l.length) : ∃ y, (strs l)[x.toNat]? = some (.string y) ∧ y ∈ l := by
  obtain ⟨y, hy⟩ := some_at (rfl : l.length = l.length) (show x.toNat < l.length by omega)
  exact ⟨y, strs_at hy, List.mem_of_getElem? hy⟩
theorem dr_new (w : World) (t : Nat) (A : Option Addr) (n c : Nat) (xs : List Int) (hr : Rd w w.heap.size 1 A n (u8s xs)) (hx : ∀ x ∈ xs, 0 ≤ x ∧ x ≤ 255) (hn : n ≤ 2000) :
    Dr (w.alloc (.cells #[.slice A n c, .int .i64 0] t)) w.heap.size t 0 A n c xs :=
  ⟨Blk.new w t [.slice A n c, .int .i64 0], hr.below ((Below.refl _ _).alloc (Nat.le_refl _) _), hx, hn, Int.le_refl _⟩
theorem l1Open_c (A : Option Addr) (n c : Nat) (xs : List Int) (w : World) (hr : Rd w w.heap.size 1 A n (u8s xs)) (hx : ∀ x ∈ xs, 0 ≤ x ∧ x ≤ 255) (hc : n ≤ c) (hc2 : c ≤ 9223372036854775807) :
    Calls Tryd.prog 17 #[.slice A n c] w fun e w' => ∃ n' c' xs', e = .returned (.pointer (some ⟨w.heap.size, 0, none⟩)) ∧ Dr w' w.heap.size 53 0 A n' c' xs' ∧ Below w.heap.size w w' ∧ w.heap.size < w'.heap.size := by
  by_cases h : n ≤ 2000
  · have HR := Lib.hid hr
    have HX := Lib.hid hx
    clear hr hx
    have h' : decide ((2000 : Int) < n) = false := by simp; omega
    go_enter Tryd.func17, Tryd.ntmps17
    go_wp2
    go_returns
    exact ⟨n, c, xs, rfl, dr_new w _ A n c xs HR.out HX.out h, by go_grown, by simp⟩
  · obtain ⟨b, off, rfl, hb, hcl⟩ := hr.2 (by omega)
    have hl := hr.len1
    have hr2 : Rd w w.heap.size 1 (some ⟨b, off, none⟩) 2000 (u8s (xs.take 2000)) := by
      refine ⟨by simp [u8s] at *; omega, fun _ => ⟨b, off, rfl, hb, fun j u hu => hcl j u ?_⟩⟩
      simp only [u8s, List.map_take, List.getElem?_take] at hu
      split at hu
      · exact hu
      · cases hu
    have hx2 : ∀ x ∈ xs.take 2000, 0 ≤ x ∧ x ≤ 255 := fun x h => hx x (List.mem_of_mem_take h)
    have HR := Lib.hid hr2
    have HX := Lib.hid hx2
    clear hr hx hr2 hx2 hcl hl
    have h' : decide ((2000 : Int) < n) = true := by simp; omega
    go_enter Tryd.func17, Tryd.ntmps17
    go_wp2
    go_returns
    exact ⟨2000, c, xs.take 2000, rfl, dr_new w _ _ 2000 c _ HR.out HX.out (by omega), by go_grown, by simp⟩
theorem of_c (g : Nat) (p : Int) (A : Option Addr) (n c : Nat) (xs : List Int) (b K : Nat) (ss : List ByteArray) (w : World) (h : Dr w g 53 p A n c xs) (hp : p ≤ 1099511627000) (hl : ss.length = 3) (hb : Blk w b 9 (strs ss)) (hg : b ≠ g) (hK : ∀ s ∈ ss, s.size ≤ K) :
    Calls Tryd.prog 19 #[.pointer (some ⟨g, 0, none⟩), .slice (some ⟨b, 0, none⟩) 3 3] w (RetDraw (TextIs K) g 53 p 1 A n c xs w) := by
  have HB := Lib.hid hb
  have HK := Lib.hid hK
  have D0 := Lib.hid h
  have HL := Lib.hid hl
  clear hb hK h hl
  go_enter Tryd.func19, Tryd.ntmps19
  (go_wp2_with fail); (go_at_call 20; refine (pick_c g _ _ A n c xs _ (D0.out.upto (by go_grown)) (by omega)).mono ?_; rintro e w1 ⟨_, q1, rfl, ⟨x1, rfl, l1, u1⟩, d1, e1, f1, g1⟩; have B1 := Lib.hid (HB.out.other g1 (by simp; omega)); have D1 := Lib.hid d1; have G1 := Lib.hid g1; clear d1 g1)
  have v1 := u1 (by omega)
  obtain ⟨y, hy, hm⟩ := strs_in (l := ss) l1 (by rw [HL.out]; omega)
  have cy := B1.out.cell hy
  have HM := Lib.hid (HK.out y hm)
  clear hy hm u1
  go_wp2
  go_returns
  exact ⟨_, q1, rfl, ⟨y, rfl, HM.out⟩, D1.out, by omega, by omega, G1.out⟩
set_option maxHeartbeats 800000 in
theorem many_c (s : ByteArray) (n : Int) (hs : s.size ≤ 3) (h0 : 0 ≤ n) (h1 : n < 256) (w : World) : Calls Tryd.prog 18 #[.string s, .int .i64 n] w (fun e w' => ∃ o : ByteArray, e = .returned (.string o) ∧ o.size ≤ 768 ∧ w = w') := by
  go_enter Tryd.func18, Tryd.ntmps18
  go_wp2
  go_loopg [0, 1, 5] 8 (fun gk vs vn vo wr => ∃ (S O : ByteArray) (m : Int), vs = .string S ∧ vn = .int .i64 m ∧ vo = .string O ∧ 0 ≤ m ∧ Hid (m < 2 ^ gk) ∧ m ≤ 255 ∧ Hid (S.size * 2 ^ gk = s.size * 256) ∧ O.size + s.size ≤ S.size ∧ w = wr)
  case atStart => exact ⟨s, ⟨#[]⟩, n, rfl, rfl, rfl, h0, by show n < 2 ^ 8; omega, by omega, rfl, by show 0 + s.size ≤ s.size; omega, rfl⟩
  case round =>
    obtain ⟨S, O, m, rfl, rfl, rfl, m0, HM, m1, HS, ho, rfl⟩ := hrel
    have hsz : S.size ≤ 768 := by
      have h2 : 0 < 2 ^ gk := Nat.two_pow_pos gk
      have := Nat.le_mul_of_pos_right S.size h2
      have h3 := HS.out
      omega
    by_cases hm : 0 < m
    · obtain ⟨g1, rfl⟩ : ∃ g1, gk = g1 + 1 := by
        rcases gk with _ | g1
        · have := HM.out; simp at this; omega
        · exact ⟨g1, rfl⟩
      have HM' : Hid (m / 2 < 2 ^ g1) := by
        have := HM.out
        rw [Int.pow_succ] at this
        show m / 2 < 2 ^ g1
        omega
      have HS' : Hid ((S.size + S.size) * 2 ^ g1 = s.size * 256) := by
        show _ = _
        rw [← HS.out, Nat.pow_succ, Nat.add_mul, ← Nat.mul_assoc, Nat.mul_two]
      go_wp2
      all_goals
        go_roundg g1
        case measure => omega
        case rel =>
          go_light
          exact ⟨_, _, _, rfl, by go_num, rfl, by omega, HM', by omega, by rw [ByteArray.size_append]; exact HS', by (try simp only [ByteArray.size_append]); omega, rfl⟩
    · go_wp2
      go_returns
      exact ⟨O, rfl, by omega, rfl⟩
set_option maxHeartbeats 800000 in
theorem drawHashSum_c (A : Option Addr) (n c : Nat) (xs : List Int) (w : World) (hr : Rd w w.heap.size 1 A n (u8s xs)) (hx : ∀ x ∈ xs, 0 ≤ x ∧ x ≤ 255) (hc : n ≤ c) (hc2 : c ≤ 9223372036854775807) :
    Calls Tryd.prog 10 #[.slice A n c] w (fun e w' => ∃ s : ByteArray, e = .returned (.string s) ∧ s.size ≤ 1000 ∧ Below w.heap.size w w') := by
  have HR := Lib.hid hr
  have HX := Lib.hid hx
  clear hr hx
  go_enter Tryd.func10, Tryd.ntmps10
  (go_wp2_with fail); (go_at_call 17; refine (l1Open_c A n c xs _ HR.out HX.out hc hc2).mono ?_; rintro e w1 ⟨n1, c1, xs1, rfl, d1, b1, z1⟩; have D1 := Lib.hid d1; have B1 := Lib.hid b1; clear d1 b1)
  have hS : Hid (Blk (w1.alloc (.cells #[.string ⟨#[97]⟩, .string ⟨#[0]⟩, .string ⟨#[97, 98, 99]⟩] 9)) w1.heap.size 9 (strs txts)) := Lib.hid (Blk.new w1 9 (strs txts))
  go_wp2_with fail
  go_at_call 19
  refine (of_c w.heap.size _ A n1 c1 xs1 w1.heap.size 3 txts _ (D1.out.upto (by go_grown)) (by omega) rfl hS.out (by omega) txts_size).mono ?_
  rintro e w2 ⟨_, q2, rfl, ⟨s2, rfl, hs2⟩, d2, e2, f2, g2⟩
  have D2 := Lib.hid d2
  have G2 := Lib.hid (gr_via (gr_alloc (gr_refl w1 w.heap.size) _) g2)
  clear d2 g2 hS
  (go_wp2_with fail); (go_at_call 20; refine (pick_c w.heap.size _ _ A n1 c1 xs1 _ D2.out (by omega)).mono ?_; rintro e w3 ⟨_, q3, rfl, ⟨x3, rfl, l3, u3⟩, d3, e3, f3, g3⟩; have v3 := u3 (by omega); have D3 := Lib.hid d3; have G3 := Lib.hid (gr_via G2.out g3); clear d3 g3 u3)
  have hS3 : Hid (Blk (w3.alloc (.cells #[.int .i64 x3, .int .i64 18, .int .i64 19, .int .i64 55, .int .i64 56, .int .i64 64] 3)) w3.heap.size 3 (ints [x3, 18, 19, 55, 56, 64])) := Lib.hid (Blk.new w3 3 (ints [x3, 18, 19, 55, 56, 64]))
  have hz3 := G3.out.size
  have hd3 := D3.out.blk.lt
  (go_wp2_with fail); (go_at_call 20; refine (pick_c w.heap.size _ _ A n1 c1 xs1 _ (D3.out.upto (by go_grown)) (by omega)).mono ?_; rintro e w4 ⟨_, q4, rfl, ⟨x4, rfl, l4, u4⟩, d4, e4, f4, g4⟩; have v4 := u4 (by omega); have S4 := Lib.hid (hS3.out.other g4 (by simp; omega)); have G4 := Lib.hid (gr_via (gr_alloc G3.out _) g4); clear d4 g4 u4 hS3)
  obtain ⟨y, hy, hm⟩ := ints_in (l := [x3, 18, 19, 55, 56, 64]) l4 (by simp; omega)
  have cy := S4.out.cell hy
  have hyb : 0 ≤ y ∧ y < 256 := by
    simp only [List.mem_cons, List.not_mem_nil, or_false] at hm
    omega
  clear hy hm
  (go_wp2_with fail); (go_at_call 18; refine (many_c s2 y hs2 hyb.1 hyb.2 _).mono ?_; rintro e w5 ⟨o, rfl, ho, rfl⟩)
  go_wp2
  go_returns
  exact ⟨o, rfl, by omega, B1.out.trans (gr_below G4.out (Nat.le_refl _) B1.out.size)⟩
set_option maxHeartbeats 800000 in
theorem drawHashMac_c (A : Option Addr) (n c : Nat) (xs : List Int) (w : World) (hr : Rd w w.heap.size 1 A n (u8s xs)) (hx : ∀ x ∈ xs, 0 ≤ x ∧ x ≤ 255) (hc : n ≤ c) (hc2 : c ≤ 9223372036854775807) :
    Calls Tryd.prog 11 #[.slice A n c] w (fun e w' => ∃ k s : ByteArray, e = .returned (.tuple #[.string k, .string s]) ∧ k.size ≤ 1000 ∧ s.size ≤ 1000 ∧ Below w.heap.size w w') := by
  have HR := Lib.hid hr
  have HX := Lib.hid hx
  clear hr hx
  go_enter Tryd.func11, Tryd.ntmps11
  (go_wp2_with fail); (go_at_call 17; refine (l1Open_c A n c xs _ HR.out HX.out hc hc2).mono ?_; rintro e w1 ⟨n1, c1, xs1, rfl, d1, b1, z1⟩; have D1 := Lib.hid d1; have B1 := Lib.hid b1; clear d1 b1)
  have hS1 : Hid (Blk (w1.alloc (.cells #[.int .i64 0, .int .i64 4, .int .i64 63, .int .i64 64, .int .i64 65, .int .i64 131] 3)) w1.heap.size 3 (ints [0, 4, 63, 64, 65, 131])) := Lib.hid (Blk.new w1 3 (ints [0, 4, 63, 64, 65, 131]))
  go_wp2_with fail
  go_at_call 20
  refine (pick_c w.heap.size _ _ A n1 c1 xs1 _ (D1.out.upto (by go_grown)) (by omega)).mono ?_
  rintro e w2 ⟨_, q2, rfl, ⟨x2, rfl, l2, u2⟩, d2, e2, f2, g2⟩
  have v2 := u2 (by omega)
  have S2 := Lib.hid (hS1.out.other g2 (by simp; omega))
  have G2 := Lib.hid (gr_via (gr_alloc (gr_refl w1 w.heap.size) _) g2)
  have D2 := Lib.hid d2
  clear d2 g2 u2 hS1
  obtain ⟨y, hy, hm⟩ := ints_in (l := [0, 4, 63, 64, 65, 131]) l2 (by simp; omega)
  have cy := S2.out.cell hy
  have hyb : 0 ≤ y ∧ y < 256 := by
    simp only [List.mem_cons, List.not_mem_nil, or_false] at hm
    omega
  clear hy hm
  (go_wp2_with fail); (go_at_call 18; refine (many_c ⟨#[107]⟩ y (by decide) hyb.1 hyb.2 _).mono ?_; rintro e w3 ⟨o, rfl, ho, rfl⟩)
  have hS2 : Hid (Blk (w2.alloc (.cells #[.string ⟨#[]⟩, .string ⟨#[116, 101, 120, 116]⟩, .string ⟨#[119, 104, 97, 116, 32, 100, 111, 32, 121, 97, 32, 119, 97, 110, 116, 32, 102, 111, 114, 32, 110, 111, 116, 104, 105, 110, 103, 63]⟩] 9)) w2.heap.size 9 (strs txts2)) := Lib.hid (Blk.new w2 9 (strs txts2))
  have hz2 := G2.out.size
  have hd2 := D2.out.blk.lt
  (go_wp2_with fail); (go_at_call 19; refine (of_c w.heap.size _ A n1 c1 xs1 w2.heap.size 28 txts2 _ (D2.out.upto (by go_grown)) (by omega) rfl hS2.out (by omega) txts2_size).mono ?_; rintro e w4 ⟨_, q4, rfl, ⟨s4, rfl, hs4⟩, d4, e4, f4, g4⟩; have G4 := Lib.hid (gr_via (gr_alloc G2.out _) g4); clear d4 g4)
  go_wp2
  go_returns
  exact ⟨o, s4, rfl, by omega, by omega, B1.out.trans (gr_below G4.out (Nat.le_refl _) B1.out.size)⟩
end Go.Proofs.YtbijlencoilchaaDoor
