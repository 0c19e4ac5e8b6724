/- Contracts of the functions that mark, hold and compare gates. Conditions: each contract's own. -/
import Derived.Test.YtbijlencoilchaaFleet
namespace Go.Proofs.Ytbijlencoilchaa
open Go.RowKit
set_option linter.unusedVariables false
set_option linter.unnecessarySimpa false
/-- The cells of n gates that bear f's value each. -/
def gcells (f : Nat → List Value) : Nat → List Value
  | 0 => []
  | n + 1 => gcells f n ++ f n
theorem gcells_len {f : Nat → List Value} (h : ∀ i, (f i).length = 6) (n : Nat) : (gcells f n).length = n * 6 := by
  induction n with
  | zero => rfl
  | succ n ih => rw [gcells, List.length_append, ih, h]; omega
theorem gcells_at {f : Nat → List Value} (h : ∀ i, (f i).length = 6) {n i j : Nat} (hi : i < n) (hj : j < 6) : (gcells f n)[i * 6 + j]? = (f i)[j]? := by
  induction n with
  | zero => omega
  | succ n ih =>
    rw [gcells]
    by_cases hn : i = n
    · subst hn
      rw [List.getElem?_append_right (by rw [gcells_len h]; omega), gcells_len h]
      congr 1; omega
    · rw [List.getElem?_append_left (by rw [gcells_len h]; omega)]
      exact ih (by omega)
/-- Gate i's cells when marked from k on. -/
def mgate (k i : Nat) : List Value := [.string (mtext (k + 6 * i)), .string (mtext (k + 6 * i + 1)), .string (mtext (k + 6 * i + 2)), .bool (((k : Int) + 6 * (i : Int) + 1 + 1 + 1) % 3 == 0), .string (mtext (k + 6 * i + 4)), .string (mtext (k + 6 * i + 5))]
theorem mgate_len (k i : Nat) : (mgate k i).length = 6 := rfl
def kgate (s : ByteArray) (_ : Nat) : List Value := [.string s, .string ByteArray.empty, .string ByteArray.empty, .bool true, .string ByteArray.empty, .string ByteArray.empty]
theorem kgate_len (s : ByteArray) (i : Nat) : (kgate s i).length = 6 := rfl
theorem own6 {w : World} {base e g n cap : Nat} {ys : List Value} (h : w.ownsRow base e 6 (.slice (some ⟨g, 0, none⟩) n cap) n ys) {k : Nat} (hk : k < n) (j : Nat) (hj : j < 6) : ∃ y, w.cell? ⟨g, k * 6 + j, none⟩ = some y := by
  obtain ⟨y, hy⟩ := some_at h.1 (k := k * 6 + j) (by omega)
  exact ⟨y, (h.cellAt (k * 6 + j) (by omega)).trans hy⟩
theorem gr_of_below {w w' : World} (h : Below w.heap.size w w') (g : Nat) : w.grownBy w' (some g) := ⟨h.os, h.tape, h.output, h.size, fun i hi _ => h.block i hi⟩
theorem own6x {w : World} {base e g n cap : Nat} {ys : List Value} (h : w.ownsRow base e 6 (.slice (some ⟨g, 0, none⟩) n cap) n ys) {k : Nat} (hk : k < n) :
    (∃ y0 y1 y2 y3 y4 y5, w.cell? ⟨g, k * 6, none⟩ = some y0 ∧ w.cell? ⟨g, k * 6 + 1, none⟩ = some y1 ∧ w.cell? ⟨g, k * 6 + 2, none⟩ = some y2 ∧ w.cell? ⟨g, k * 6 + 3, none⟩ = some y3 ∧ w.cell? ⟨g, k * 6 + 4, none⟩ = some y4 ∧ w.cell? ⟨g, k * 6 + 5, none⟩ = some y5) ∧ ∀ j, w.frozen? ⟨g, j, none⟩ = false := by
  obtain ⟨y0, h0⟩ := own6 h hk 0 (by omega)
  obtain ⟨y1, h1⟩ := own6 h hk 1 (by omega)
  obtain ⟨y2, h2⟩ := own6 h hk 2 (by omega)
  obtain ⟨y3, h3⟩ := own6 h hk 3 (by omega)
  obtain ⟨y4, h4⟩ := own6 h hk 4 (by omega)
  obtain ⟨y5, h5⟩ := own6 h hk 5 (by omega)
  exact ⟨⟨y0, y1, y2, y3, y4, y5, h0, h1, h2, h3, h4, h5⟩, fun j => h.frozenAt j⟩
set_option maxHeartbeats 2000000 in
set_option maxRecDepth 100000 in
theorem markGateS_c (base g n cap k : Nat) (ys : List Value) (w : World) (h : w.ownsRow base 26 6 (.slice (some ⟨g, 0, none⟩) n cap) n ys) (h0 : 0 < k) (hk : k + 6 * n ≤ 1000000) :
    Calls Try.prog 69 #[.slice (some ⟨g, 0, none⟩) n cap, .int .i64 k] w (fun e w' => e = .returned (.int .i64 ((k + 6 * n : Nat) : Int)) ∧ w'.ownsRow base 26 6 (.slice (some ⟨g, 0, none⟩) n cap) n (gcells (mgate k) n) ∧ w.grownBy w' (some g)) := by
  have H := Lib.hid h
  clear h
  go_enter Try.func69, Try.ntmps69
  go_wp2
  go_loopw [1, 5] (fun q i wr => ∃ (j : Nat) (zs : List Value), j ≤ n ∧ i = .int .i64 j ∧ q = .int .i64 ((k + 6 * j : Nat) : Int) ∧ Hid (wr.ownsRow base 26 6 (.slice (some ⟨g, 0, none⟩) n cap) n zs) ∧ Hid (zs.take (j * 6) = gcells (mgate k) j) ∧ Hid (w.grownBy wr (some g))) (fun _ i _ => n - (intOf i).toNat)
  case atStart => exact ⟨0, ys, by omega, rfl, rfl, H, rfl, gr_refl _ _⟩
  case round =>
    obtain ⟨j, zs, hj, rfl, rfl, HO, HT, HG⟩ := hrel
    by_cases hlt : j < n
    · go_wp2_with (go_at_call 86; refine (markText_x _ (k + 6 * j) (by omega) (by omega) (by omega) _).mono ?_; rintro e w1 ⟨rfl, b1⟩; have O1 := Lib.hid (own_up (HO.out) b1); have G1 := Lib.hid (gr_via (HG.out) (gr_of_below b1 g)); clear b1; obtain ⟨⟨y10, y11, y12, y13, y14, y15, c10, c11, c12, c13, c14, c15⟩, f1⟩ := own6x O1.out hlt)
      go_wp2_with (go_at_call 86; refine (markText_x _ (k + 6 * j + 1) (by omega) (by omega) (by omega) _).mono ?_; rintro e w2 ⟨rfl, b2⟩; have O2 := Lib.hid (own_up ((O1.out.stored (j * 6) (.string (mtext (k + 6 * j)))).1) b2); have G2 := Lib.hid (gr_via (gr_set G1.out (.inl rfl) _) (gr_of_below b2 g)); clear b2; obtain ⟨⟨y20, y21, y22, y23, y24, y25, c20, c21, c22, c23, c24, c25⟩, f2⟩ := own6x O2.out hlt)
      go_wp2_with (go_at_call 86; refine (markText_x _ (k + 6 * j + 2) (by omega) (by omega) (by omega) _).mono ?_; rintro e w3 ⟨rfl, b3⟩; have O3 := Lib.hid (own_up ((O2.out.stored (j * 6 + 1) (.string (mtext (k + 6 * j + 1)))).1) b3); have G3 := Lib.hid (gr_via (gr_set G2.out (.inl rfl) _) (gr_of_below b3 g)); clear b3; obtain ⟨⟨y30, y31, y32, y33, y34, y35, c30, c31, c32, c33, c34, c35⟩, f3⟩ := own6x O3.out hlt)
      go_wp2_with (go_at_call 86; refine (markText_x _ (k + 6 * j + 4) (by omega) (by omega) (by omega) _).mono ?_; rintro e w4 ⟨rfl, b4⟩; have O4 := Lib.hid (own_up ((((O3.out.stored (j * 6 + 2) (.string (mtext (k + 6 * j + 2)))).1).stored (j * 6 + 3) (.bool (((k : Int) + 6 * (j : Int) + 1 + 1 + 1) % 3 == 0))).1) b4); have G4 := Lib.hid (gr_via (gr_set (gr_set G3.out (.inl rfl) _) (.inl rfl) _) (gr_of_below b4 g)); clear b4; obtain ⟨⟨y40, y41, y42, y43, y44, y45, c40, c41, c42, c43, c44, c45⟩, f4⟩ := own6x O4.out hlt)
      go_wp2_with (go_at_call 86; refine (markText_x _ (k + 6 * j + 5) (by omega) (by omega) (by omega) _).mono ?_; rintro e w5 ⟨rfl, b5⟩; have O5 := Lib.hid (own_up ((O4.out.stored (j * 6 + 4) (.string (mtext (k + 6 * j + 4)))).1) b5); have G5 := Lib.hid (gr_via (gr_set G4.out (.inl rfl) _) (gr_of_below b5 g)); clear b5; obtain ⟨⟨y50, y51, y52, y53, y54, y55, c50, c51, c52, c53, c54, c55⟩, f5⟩ := own6x O5.out hlt)
      go_wp2
      go_roundw
      case rel =>
        go_light
        have hl := HO.out.1
        refine ⟨j + 1, _, by omega, by go_num, by go_num, (O5.out.stored (j * 6 + 5) (.string (mtext (k + 6 * j + 5)))).1, ?_, gr_set G5.out (.inl rfl) _⟩
        show _ = _
        have := HT.out
        have h2 := setL_take zs (j * 6) (mgate k j) (by rw [hl, mgate_len]; omega)
        rw [mgate_len] at h2
        rw [show (j + 1) * 6 = j * 6 + 6 from by omega, gcells, ← this, ← h2]
        rfl
      case measure => simp [intOf]; omega
    · obtain rfl : j = n := by omega
      go_wp2
      go_returns
      have ht := HT.out
      have hl := HO.out.1
      rw [List.take_of_length_le (by omega)] at ht
      subst ht
      exact ⟨rfl, HO.out, HG.out⟩
theorem rd6 {w : World} {B : Nat} {A : Option Addr} {n : Nat} {f : Nat → List Value} (h : Rd w B 6 A n (gcells f n)) (hf : ∀ i, (f i).length = 6) {j : Nat} (hj : j < n) :
    ∃ b off, A = some ⟨b, off, none⟩ ∧ b < B ∧ ∀ m u, (f j)[m]? = some u → w.cell? ⟨b, off + j * 6 + m, none⟩ = some u := by
  obtain ⟨b, off, rfl, hb, hc⟩ := h.2 (by omega)
  refine ⟨b, off, rfl, hb, fun m u hu => ?_⟩
  have hm : m < 6 := by rw [← hf j]; exact (List.getElem?_eq_some_iff.1 hu).1
  have := hc (j * 6 + m) u (by rw [gcells_at hf hj hm]; exact hu)
  rwa [← Nat.add_assoc] at this
set_option maxHeartbeats 2000000 in
set_option maxRecDepth 100000 in
theorem heldGateS_c (A : Option Addr) (n c k : Nat) (w : World) (hr : Rd w w.heap.size 6 A n (gcells (mgate k) n)) (h0 : 0 < k) (hk : k + 6 * n ≤ 1000000) :
    Calls Try.prog 74 #[.slice A n c, .int .i64 k] w (RetB (.int .i64 ((k + 6 * n : Nat) : Int)) w) := by
  have HR := Lib.hid hr
  clear hr
  go_enter Try.func74, Try.ntmps74
  go_wp2
  go_loopw [1, 5] (fun q i wr => ∃ (j : Nat), j ≤ n ∧ i = .int .i64 j ∧ q = .int .i64 ((k + 6 * j : Nat) : Int) ∧ Below w.heap.size w wr) (fun _ i _ => n - (intOf i).toNat)
  case atStart => exact ⟨0, by omega, rfl, rfl, Below.refl _ _⟩
  case round =>
    obtain ⟨j, hj, rfl, rfl, hbel⟩ := hrel
    by_cases hlt : j < n
    · obtain ⟨b, off, rfl, hb, hc⟩ := rd6 (HR.out.below hbel) (mgate_len k) hlt
      have c0 := hc 0 _ rfl
      have c1 := hc 1 _ rfl
      have c2 := hc 2 _ rfl
      have c3 := hc 3 _ rfl
      have c4 := hc 4 _ rfl
      have c5 := hc 5 _ rfl
      rw [Nat.add_zero] at c0
      have hbs := hbel.size
      have hb2 : b < wr.heap.size := by omega
      clear hc
      go_wp2
      go_region_held3 (fun w' => w'.cell? ⟨b, off + j * 6, none⟩ = some (.string (mtext (k + 6 * j))) ∧ w'.cell? ⟨b, off + j * 6 + 1, none⟩ = some (.string (mtext (k + 6 * j + 1))) ∧ w'.cell? ⟨b, off + j * 6 + 2, none⟩ = some (.string (mtext (k + 6 * j + 2))) ∧ w'.cell? ⟨b, off + j * 6 + 3, none⟩ = some (.bool (((k : Int) + 6 * (j : Int) + 1 + 1 + 1) % 3 == 0)) ∧ w'.cell? ⟨b, off + j * 6 + 4, none⟩ = some (.string (mtext (k + 6 * j + 4))) ∧ w'.cell? ⟨b, off + j * 6 + 5, none⟩ = some (.string (mtext (k + 6 * j + 5)))) (simp [go_sem, *])
        (first | (go_at_call 86; refine (markText_x _ (k + 6 * j) (by omega) (by omega) (by omega) _).mono ?_; rintro e w1 ⟨rfl, b1⟩; obtain ⟨gc1, gf1⟩ := below_get b1; (try simp only [heap_drew, World.size_alloc, World.size_setCell] at gc1 gf1); have hb1 := below_on hbel (by go_grown) b1; have hs1 := b1.size; (try simp at hs1); have z1 : b < w1.heap.size := (by omega); clear b1))
      rename (World.cell? _ _ = _ ∧ _) => hh
      obtain ⟨c10, c11, c12, c13, c14, c15⟩ := hh
      go_wp2
      go_region_held3 (fun w' => w'.cell? ⟨b, off + j * 6, none⟩ = some (.string (mtext (k + 6 * j))) ∧ w'.cell? ⟨b, off + j * 6 + 1, none⟩ = some (.string (mtext (k + 6 * j + 1))) ∧ w'.cell? ⟨b, off + j * 6 + 2, none⟩ = some (.string (mtext (k + 6 * j + 2))) ∧ w'.cell? ⟨b, off + j * 6 + 3, none⟩ = some (.bool (((k : Int) + 6 * (j : Int) + 1 + 1 + 1) % 3 == 0)) ∧ w'.cell? ⟨b, off + j * 6 + 4, none⟩ = some (.string (mtext (k + 6 * j + 4))) ∧ w'.cell? ⟨b, off + j * 6 + 5, none⟩ = some (.string (mtext (k + 6 * j + 5)))) (simp [go_sem, *])
        (first | (go_at_call 86; refine (markText_x _ (k + 6 * j + 1) (by omega) (by omega) (by omega) _).mono ?_; rintro e w2 ⟨rfl, b2⟩; obtain ⟨gc2, gf2⟩ := below_get b2; (try simp only [heap_drew, World.size_alloc, World.size_setCell] at gc2 gf2); have hb2 := below_on hb1 (by go_grown) b2; have hs2 := b2.size; (try simp at hs2); have z2 : b < w2.heap.size := (by omega); clear b2))
      rename (World.cell? _ _ = _ ∧ _) => hh
      obtain ⟨c20, c21, c22, c23, c24, c25⟩ := hh
      go_wp2
      go_region_held3 (fun w' => w'.cell? ⟨b, off + j * 6, none⟩ = some (.string (mtext (k + 6 * j))) ∧ w'.cell? ⟨b, off + j * 6 + 1, none⟩ = some (.string (mtext (k + 6 * j + 1))) ∧ w'.cell? ⟨b, off + j * 6 + 2, none⟩ = some (.string (mtext (k + 6 * j + 2))) ∧ w'.cell? ⟨b, off + j * 6 + 3, none⟩ = some (.bool (((k : Int) + 6 * (j : Int) + 1 + 1 + 1) % 3 == 0)) ∧ w'.cell? ⟨b, off + j * 6 + 4, none⟩ = some (.string (mtext (k + 6 * j + 4))) ∧ w'.cell? ⟨b, off + j * 6 + 5, none⟩ = some (.string (mtext (k + 6 * j + 5)))) (simp [go_sem, *])
        (first | (go_at_call 86; refine (markText_x _ (k + 6 * j + 2) (by omega) (by omega) (by omega) _).mono ?_; rintro e w3 ⟨rfl, b3⟩; obtain ⟨gc3, gf3⟩ := below_get b3; (try simp only [heap_drew, World.size_alloc, World.size_setCell] at gc3 gf3); have hb3 := below_on hb2 (by go_grown) b3; have hs3 := b3.size; (try simp at hs3); have z3 : b < w3.heap.size := (by omega); clear b3))
      rename (World.cell? _ _ = _ ∧ _) => hh
      obtain ⟨c30, c31, c32, c33, c34, c35⟩ := hh
      go_wp2
      go_region_held3 (fun w' => w'.cell? ⟨b, off + j * 6, none⟩ = some (.string (mtext (k + 6 * j))) ∧ w'.cell? ⟨b, off + j * 6 + 1, none⟩ = some (.string (mtext (k + 6 * j + 1))) ∧ w'.cell? ⟨b, off + j * 6 + 2, none⟩ = some (.string (mtext (k + 6 * j + 2))) ∧ w'.cell? ⟨b, off + j * 6 + 3, none⟩ = some (.bool (((k : Int) + 6 * (j : Int) + 1 + 1 + 1) % 3 == 0)) ∧ w'.cell? ⟨b, off + j * 6 + 4, none⟩ = some (.string (mtext (k + 6 * j + 4))) ∧ w'.cell? ⟨b, off + j * 6 + 5, none⟩ = some (.string (mtext (k + 6 * j + 5)))) (simp [go_sem, *])
        (first | (go_at_call 86; refine (markText_x _ (k + 6 * j + 4) (by omega) (by omega) (by omega) _).mono ?_; rintro e w4 ⟨rfl, b4⟩; obtain ⟨gc4, gf4⟩ := below_get b4; (try simp only [heap_drew, World.size_alloc, World.size_setCell] at gc4 gf4); have hb4 := below_on hb3 (by go_grown) b4; have hs4 := b4.size; (try simp at hs4); have z4 : b < w4.heap.size := (by omega); clear b4))
      rename (World.cell? _ _ = _ ∧ _) => hh
      obtain ⟨c40, c41, c42, c43, c44, c45⟩ := hh
      go_wp2
      go_region_held3 (fun w' => w'.cell? ⟨b, off + j * 6, none⟩ = some (.string (mtext (k + 6 * j))) ∧ w'.cell? ⟨b, off + j * 6 + 1, none⟩ = some (.string (mtext (k + 6 * j + 1))) ∧ w'.cell? ⟨b, off + j * 6 + 2, none⟩ = some (.string (mtext (k + 6 * j + 2))) ∧ w'.cell? ⟨b, off + j * 6 + 3, none⟩ = some (.bool (((k : Int) + 6 * (j : Int) + 1 + 1 + 1) % 3 == 0)) ∧ w'.cell? ⟨b, off + j * 6 + 4, none⟩ = some (.string (mtext (k + 6 * j + 4))) ∧ w'.cell? ⟨b, off + j * 6 + 5, none⟩ = some (.string (mtext (k + 6 * j + 5)))) (simp [go_sem, *])
        (first | (go_at_call 86; refine (markText_x _ (k + 6 * j + 5) (by omega) (by omega) (by omega) _).mono ?_; rintro e w5 ⟨rfl, b5⟩; obtain ⟨gc5, gf5⟩ := below_get b5; (try simp only [heap_drew, World.size_alloc, World.size_setCell] at gc5 gf5); have hb5 := below_on hb4 (by go_grown) b5; have hs5 := b5.size; (try simp at hs5); have z5 : b < w5.heap.size := (by omega); clear b5))
      rename (World.cell? _ _ = _ ∧ _) => hh
      obtain ⟨c50, c51, c52, c53, c54, c55⟩ := hh
      go_wp2
      go_roundw
      case rel =>
        go_light
        exact ⟨j + 1, by omega, by go_num, by go_num, hb5⟩
      case measure => simp [intOf]; omega
    · obtain rfl : j = n := by omega
      go_wp2
      go_returns
      exact ⟨rfl, hbel⟩
set_option maxHeartbeats 2000000 in
theorem eqGateS_c (A B : Option Addr) (n c d : Nat) (s : ByteArray) (w : World) (hx : Rd w w.heap.size 6 A n (gcells (kgate s) n)) (hy : Rd w w.heap.size 6 B n (gcells (kgate s) n)) (hn : n ≤ 1000) :
    Calls Try.prog 64 #[.slice A n c, .slice B n d] w (RetB (.bool true) w) := by
  have HX := Lib.hid hx
  have HY := Lib.hid hy
  clear hx hy
  go_enter Try.func64, Try.ntmps64
  go_wp2
  go_loopw [5] (fun i wr => ∃ (j : Nat), j ≤ n ∧ i = .int .i64 j ∧ Below w.heap.size w wr) (fun i _ => n - (intOf i).toNat)
  case atStart => exact ⟨0, by omega, rfl, Below.refl _ _⟩
  case round =>
    obtain ⟨j, hj, rfl, hbel⟩ := hrel
    by_cases hlt : j < n
    · obtain ⟨b, off, rfl, hb, hc⟩ := rd6 (HX.out.below hbel) (kgate_len s) hlt
      obtain ⟨b', off', rfl, hb', hc'⟩ := rd6 (HY.out.below hbel) (kgate_len s) hlt
      have c0 := hc 0 _ rfl
      have c1 := hc 1 _ rfl
      have c2 := hc 2 _ rfl
      have c3 := hc 3 _ rfl
      have c4 := hc 4 _ rfl
      have c5 := hc 5 _ rfl
      have d0 := hc' 0 _ rfl
      have d1 := hc' 1 _ rfl
      have d2 := hc' 2 _ rfl
      have d3 := hc' 3 _ rfl
      have d4 := hc' 4 _ rfl
      have d5 := hc' 5 _ rfl
      rw [Nat.add_zero] at c0 d0
      have hbs := hbel.size
      clear hc hc'
      go_wp2
      go_region_held3 (fun w' => w'.cell? ⟨b, off + j * 6, none⟩ = some (.string s) ∧ w'.cell? ⟨b, off + j * 6 + 1, none⟩ = some (.string ByteArray.empty) ∧ w'.cell? ⟨b, off + j * 6 + 2, none⟩ = some (.string ByteArray.empty) ∧ w'.cell? ⟨b, off + j * 6 + 3, none⟩ = some (.bool true) ∧ w'.cell? ⟨b, off + j * 6 + 4, none⟩ = some (.string ByteArray.empty) ∧ w'.cell? ⟨b, off + j * 6 + 5, none⟩ = some (.string ByteArray.empty) ∧ w'.cell? ⟨b', off' + j * 6, none⟩ = some (.string s) ∧ w'.cell? ⟨b', off' + j * 6 + 1, none⟩ = some (.string ByteArray.empty) ∧ w'.cell? ⟨b', off' + j * 6 + 2, none⟩ = some (.string ByteArray.empty) ∧ w'.cell? ⟨b', off' + j * 6 + 3, none⟩ = some (.bool true) ∧ w'.cell? ⟨b', off' + j * 6 + 4, none⟩ = some (.string ByteArray.empty) ∧ w'.cell? ⟨b', off' + j * 6 + 5, none⟩ = some (.string ByteArray.empty)) (simp [go_sem, *])
        (first | (go_at_call 14; refine (eqGate_c _ _ _ _ _ _ _).mono ?_; rintro e w1 ⟨rfl, b1⟩; have hb1 := below_on hbel (by go_grown) b1; have hb2 : b < wr.heap.size := (by omega); have hb2' : b' < wr.heap.size := (by omega); obtain ⟨gc1, gf1⟩ := below_get b1; (try simp only [heap_drew, World.size_alloc, World.size_setCell] at gc1 gf1)))
      go_wp2
      go_roundw
      case rel =>
        go_light
        exact ⟨j + 1, by omega, by go_num, hb1⟩
      case measure => simp [intOf]; omega
    · obtain rfl : j = n := by omega
      go_wp2
      go_returns
      exact ⟨rfl, hbel⟩
end Go.Proofs.Ytbijlencoilchaa
