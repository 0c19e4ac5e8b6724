/- FnExactFleetNew: for every key the law returns true. No condition. -/
import Derived.Test.YtbijlencoilchaaOpen
import Derived.Test.YtbijlencoilchaaFleet4
namespace Go.Proofs.Ytbijlencoilchaa
open Go.ChangeShapes Go.WideShapes Go.ChangeAt Go.RowKit
set_option linter.unusedVariables false
set_option linter.unnecessarySimpa false
def fleetV (s : ByteArray) (R D G : Option Addr) (n r d g : Nat) : Value := .agg #[.string s, .slice none 0 0, .slice R n r, .slice D n d, .slice G n g, .slice none 0 0, .slice none 0 0]
theorem eqIntS_same (A B : Option Addr) (n c d : Nat) (xs : List Int) (w : World) (hx : Rd w w.heap.size 1 A n (ints xs)) (hy : Rd w w.heap.size 1 B n (ints xs)) (hn : n ≤ 9223372036854775807) :
    Calls Try.prog 46 #[.slice A n c, .slice B n d] w (RetB (.bool true) w) := by
  have h := eqIntS_c A B n c n d xs xs w hx hy hn hn
  rwa [show (xs == xs) = true from by simp] at h
set_option maxHeartbeats 2000000 in
set_option maxRecDepth 100000 in
theorem eqFleet_c (s : ByteArray) (R D G R' D' G' : Option Addr) (n r d g r' d' g' : Nat) (w : World) (hn : n ≤ 1000)
    (h1 : Rd w w.heap.size 1 R n (ints (zeros n))) (h2 : Rd w w.heap.size 1 D n (ints (zeros n))) (h3 : Rd w w.heap.size 6 G n (gcells (kgate s) n))
    (h4 : Rd w w.heap.size 1 R' n (ints (zeros n))) (h5 : Rd w w.heap.size 1 D' n (ints (zeros n))) (h6 : Rd w w.heap.size 6 G' n (gcells (kgate s) n)) :
    Calls Try.prog 38 #[fleetV s R D G n r d g, fleetV s R' D' G' n r' d' g'] w (RetB (.bool true) w) := by
  have K1 := Lib.hid h1
  have K2 := Lib.hid h2
  have K3 := Lib.hid h3
  have K4 := Lib.hid h4
  have K5 := Lib.hid h5
  have K6 := Lib.hid h6
  clear h1 h2 h3 h4 h5 h6
  unfold fleetV
  go_enter Try.func38, Try.ntmps38
  (go_wp2_with fail); (go_at_call 63; refine (nil_eqStringS _).mono ?_; rintro e w0 ⟨rfl, rfl⟩)
  (go_wp2_with fail); (go_at_call 46; refine (eqIntS_same R R' n r r' (zeros n) _ (K1.out.upB (by go_grown) (by go_size)) (K4.out.upB (by go_grown) (by go_size)) (by omega)).mono ?_; rintro e w1 ⟨rfl, b1⟩; obtain ⟨gc1, gf1⟩ := below_get b1; (try simp only [heap_drew, World.size_alloc, World.size_setCell] at gc1 gf1); have s1 := below_via (w := w) (by go_grown) b1; have H1 := s1; have hs1 := b1.size; (try simp at hs1); have z1_0 : w.heap.size < w1.heap.size := (by omega); have z1_1 : w.heap.size + 1 < w1.heap.size := (by omega); clear b1)
  (go_wp2_with fail); (go_at_call 46; refine (eqIntS_same D D' n d d' (zeros n) _ ((K2.out.up s1).upB (by go_grown) (by go_size)) ((K5.out.up s1).upB (by go_grown) (by go_size)) (by omega)).mono ?_; rintro e w2 ⟨rfl, b2⟩; obtain ⟨gc2, gf2⟩ := below_get b2; (try simp only [heap_drew, World.size_alloc, World.size_setCell] at gc2 gf2); have s2 := below_via (w := w1) (by go_grown) b2; have H2 := below_via H1 s2; have hs2 := b2.size; (try simp at hs2); have z2_0 : w.heap.size < w2.heap.size := (by omega); have z2_1 : w.heap.size + 1 < w2.heap.size := (by omega); clear b2)
  (go_wp2_with fail); (go_at_call 64; refine (eqGateS_c G G' n g g' s _ (((K3.out.up s1).up s2).upB (by go_grown) (by go_size)) (((K6.out.up s1).up s2).upB (by go_grown) (by go_size)) (by omega)).mono ?_; rintro e w3 ⟨rfl, b3⟩; obtain ⟨gc3, gf3⟩ := below_get b3; (try simp only [heap_drew, World.size_alloc, World.size_setCell] at gc3 gf3); have s3 := below_via (w := w2) (by go_grown) b3; have H3 := below_via H2 s3; have hs3 := b3.size; (try simp at hs3); have z3_0 : w.heap.size < w3.heap.size := (by omega); have z3_1 : w.heap.size + 1 < w3.heap.size := (by omega); clear b3)
  go_wp2_with (first
    | ((go_at_call 65; refine (nil_eqFlightS _).mono ?_; rintro e w4 ⟨rfl, rfl⟩))
    | ((go_at_call 66; refine (nil_eqToldS _).mono ?_; rintro e w4 ⟨rfl, rfl⟩)))
  go_returns
  exact ⟨rfl, by go_grown⟩
/-- The world has grown, and of what was there only three blocks have turned. -/
structure Mk3 (w w' : World) (a b c : Nat) : Prop where
  os : w'.os = w.os
  tape : w'.tape = w.tape
  output : w'.output = w.output
  size : w.heap.size ≤ w'.heap.size
  block : ∀ k, k < w.heap.size → k ≠ a → k ≠ b → k ≠ c → w'.heap[k]? = w.heap[k]?
theorem Mk3.of {w1 w2 w3 w4 : World} {a b c : Nat} (h1 : w1.grownBy w2 (some a)) (h2 : w2.grownBy w3 (some b)) (h3 : w3.grownBy w4 (some c)) : Mk3 w1 w4 a b c :=
  ⟨h3.os.trans (h2.os.trans h1.os), h3.tape.trans (h2.tape.trans h1.tape), h3.output.trans (h2.output.trans h1.output), Nat.le_trans h1.size (Nat.le_trans h2.size h3.size), fun k hk ha hb hc =>
    (h3.block k (Nat.lt_of_lt_of_le hk (Nat.le_trans h1.size h2.size)) (by simpa using hc)).trans ((h2.block k (Nat.lt_of_lt_of_le hk h1.size) (by simpa using hb)).trans (h1.block k hk (by simpa using ha)))⟩
theorem Mk3.below {w w' : World} {a b c B : Nat} (h : Mk3 w w' a b c) (ha : B ≤ a) (hb : B ≤ b) (hc : B ≤ c) (hB : B ≤ w.heap.size) : Below B w w' :=
  ⟨h.os, h.tape, h.output, h.size, fun k hk => h.block k (by omega) (by omega) (by omega) (by omega)⟩
theorem Mk3.blk {w w' : World} {a b c g t : Nat} {cs : List Value} (h : Mk3 w w' a b c) (hg : Blk w g t cs) (ha : g ≠ a) (hb : g ≠ b) (hc : g ≠ c) : Blk w' g t cs := (h.block g hg.lt ha hb hc).trans hg
theorem markIntS_x (base g n cap k : Nat) (x y : Int) (hx : x = (k : Int)) (hy : y = ((k + n : Nat) : Int)) (ys : List Value) (w : World) (h : w.ownsRow base 3 1 (.slice (some ⟨g, 0, none⟩) n cap) n ys) (hk : k + n ≤ 1000000) :
    Calls Try.prog 68 #[.slice (some ⟨g, 0, none⟩) n cap, .int .i64 x] w (fun e w' => e = .returned (.int .i64 y) ∧ w'.ownsRow base 3 1 (.slice (some ⟨g, 0, none⟩) n cap) n (ints (run k n)) ∧ w.grownBy w' (some g)) := by
  subst hx hy; exact markIntS_c base g n cap k ys w h hk
theorem markGateS_x (base g n cap k : Nat) (x y : Int) (hx : x = (k : Int)) (hy : y = ((k + 6 * n : Nat) : Int)) (ys : List Value) (w : World) (h : w.ownsRow base 26 6 (.slice (some ⟨g, 0, none⟩) n cap) n ys) (h0 : 0 < k) (hk : k + 6 * n ≤ 1000000) :
    Calls Try.prog 69 #[.slice (some ⟨g, 0, none⟩) n cap, .int .i64 x] w (fun e w' => e = .returned (.int .i64 y) ∧ w'.ownsRow base 26 6 (.slice (some ⟨g, 0, none⟩) n cap) n (gcells (mgate k) n) ∧ w.grownBy w' (some g)) := by
  subst hx hy; exact markGateS_c base g n cap k ys w h h0 hk
theorem heldIntS_x (A : Option Addr) (n c k : Nat) (x y : Int) (hx : x = (k : Int)) (hy : y = ((k + n : Nat) : Int)) (w : World) (hr : Rd w w.heap.size 1 A n (ints (run k n))) (hk : k + n ≤ 1000000) :
    Calls Try.prog 73 #[.slice A n c, .int .i64 x] w (RetB (.int .i64 y) w) := by
  subst hx hy; exact heldIntS_c A n c k w hr hk
theorem heldGateS_x (A : Option Addr) (n c k : Nat) (x y : Int) (hx : x = (k : Int)) (hy : y = ((k + 6 * n : Nat) : Int)) (w : World) (hr : Rd w w.heap.size 6 A n (gcells (mgate k) n)) (h0 : 0 < k) (hk : k + 6 * n ≤ 1000000) :
    Calls Try.prog 74 #[.slice A n c, .int .i64 x] w (RetB (.int .i64 y) w) := by
  subst hx hy; exact heldGateS_c A n c k w hr h0 hk
theorem own_alloc_grown {w w' : World} {base e size n : Nat} {v : Value} {xs : List Value} (h : w.ownsRow base e size v n xs) {o : Obj} {row : Option Nat} (hg : (w.alloc o).grownBy w' row) (hne : v.ownBlock = none ∨ v.ownBlock ≠ row) : w'.ownsRow base e size v n xs := (h.alloc o).kept hg hne
set_option maxHeartbeats 2000000 in
set_option maxRecDepth 100000 in
theorem markFleet_c (s : ByteArray) (base gR gD gG cR cD cG : Nat) (xR xD xG : List Value) (w : World) (hRD : gR ≠ gD) (hRG : gR ≠ gG) (hDG : gD ≠ gG)
    (h1 : w.ownsRow base 3 1 (.slice (some ⟨gR, 0, none⟩) 3 cR) 3 xR) (h2 : w.ownsRow base 3 1 (.slice (some ⟨gD, 0, none⟩) 3 cD) 3 xD) (h3 : w.ownsRow base 26 6 (.slice (some ⟨gG, 0, none⟩) 3 cG) 3 xG) :
    Calls Try.prog 39 #[fleetV s (some ⟨gR, 0, none⟩) (some ⟨gD, 0, none⟩) (some ⟨gG, 0, none⟩) 3 cR cD cG, .int .i64 1] w (fun e w' => e = .returned (.int .i64 25) ∧ Mk3 w w' gR gD gG ∧
      w'.ownsRow base 3 1 (.slice (some ⟨gR, 0, none⟩) 3 cR) 3 (ints (run 1 3)) ∧ w'.ownsRow base 3 1 (.slice (some ⟨gD, 0, none⟩) 3 cD) 3 (ints (run 4 3)) ∧ w'.ownsRow base 26 6 (.slice (some ⟨gG, 0, none⟩) 3 cG) 3 (gcells (mgate 7) 3)) := by
  have l1 := (h1.lt gR rfl).2
  have l2 := (h2.lt gD rfl).2
  have l3 := (h3.lt gG rfl).2
  have K1 := Lib.hid h1
  have K2 := Lib.hid h2
  have K3 := Lib.hid h3
  clear h1 h2 h3
  have n1 : w.heap.size ≠ gR := by omega
  have n2 : w.heap.size ≠ gD := by omega
  have n3 : w.heap.size ≠ gG := by omega
  unfold fleetV
  have F0 := Lib.hid (Blk.new w 66 [.string s, .slice none 0 0, .slice (some ⟨gR, 0, none⟩) 3 cR, .slice (some ⟨gD, 0, none⟩) 3 cD, .slice (some ⟨gG, 0, none⟩) 3 cG, .slice none 0 0, .slice none 0 0])
  go_enter Try.func39, Try.ntmps39
  (go_wp2_with fail); (go_at_call 67; refine (nil_markStringS _ _).mono ?_; rintro e w0 ⟨rfl, rfl⟩)
  (go_wp2_with fail); (go_at_call 68; refine (markIntS_x base gR 3 cR 1 1 4 rfl rfl xR _ (K1.out.alloc _) (by omega)).mono ?_; rintro e w1 ⟨rfl, o1, g1⟩; have F1 := Lib.hid (F0.out.other g1 (by simp; omega)); have c1 := F1.out.cell (i := 3) rfl; have D1 := Lib.hid ((K2.out.alloc _).kept g1 (.inr (by simp [Value.ownBlock]; omega))); have G1 := Lib.hid ((K3.out.alloc _).kept g1 (.inr (by simp [Value.ownBlock]; omega))); have R1 := Lib.hid o1; have q1 := Lib.hid g1; clear o1 g1)
  (go_wp2_with fail); (go_at_call 68; refine (markIntS_x base gD 3 cD 4 4 7 rfl rfl xD _ D1.out (by omega)).mono ?_; rintro e w2 ⟨rfl, o2, g2⟩; have F2 := Lib.hid (F1.out.other g2 (by simp; omega)); have c2 := F2.out.cell (i := 4) rfl; have R2 := Lib.hid (R1.out.kept g2 (.inr (by simp [Value.ownBlock]; omega))); have G2 := Lib.hid (G1.out.kept g2 (.inr (by simp [Value.ownBlock]; omega))); have D2 := Lib.hid o2; have q2 := Lib.hid g2; clear o2 g2)
  (go_wp2_with fail); (go_at_call 69; refine (markGateS_x base gG 3 cG 7 7 25 rfl rfl xG _ G2.out (by omega) (by omega)).mono ?_; rintro e w3 ⟨rfl, o3, g3⟩; have F3 := Lib.hid (F2.out.other g3 (by simp; omega)); have c3 := F3.out.cell (i := 5) rfl; have c4 := F3.out.cell (i := 6) rfl; have R3 := Lib.hid (R2.out.kept g3 (.inr (by simp [Value.ownBlock]; omega))); have D3 := Lib.hid (D2.out.kept g3 (.inr (by simp [Value.ownBlock]; omega))); have G3 := Lib.hid o3; have q3 := Lib.hid g3; clear o3 g3)
  go_wp2_with (first
    | ((go_at_call 70; refine (nil_markFlightS _ _).mono ?_; rintro e w4 ⟨rfl, rfl⟩))
    | ((go_at_call 71; refine (nil_markToldS _ _).mono ?_; rintro e w4 ⟨rfl, rfl⟩)))
  go_returns
  exact ⟨rfl, Mk3.of (gr_of_below (Below.alloc (Below.refl _ _) (Nat.le_refl _) _) gR |>.trans q1.out) q2.out q3.out, R3.out, D3.out, G3.out⟩
set_option maxHeartbeats 2000000 in
set_option maxRecDepth 100000 in
theorem heldFleet_c (s : ByteArray) (R D G : Option Addr) (cR cD cG : Nat) (w : World)
    (h1 : Rd w w.heap.size 1 R 3 (ints (run 1 3))) (h2 : Rd w w.heap.size 1 D 3 (ints (run 4 3))) (h3 : Rd w w.heap.size 6 G 3 (gcells (mgate 7) 3)) :
    Calls Try.prog 40 #[fleetV s R D G 3 cR cD cG, .int .i64 1] w (RetB (.int .i64 25) w) := by
  have K1 := Lib.hid h1
  have K2 := Lib.hid h2
  have K3 := Lib.hid h3
  clear h1 h2 h3
  unfold fleetV
  go_enter Try.func40, Try.ntmps40
  (go_wp2_with fail); (go_at_call 72; refine (nil_heldStringS _ _).mono ?_; rintro e w0 ⟨rfl, rfl⟩)
  (go_wp2_with fail); (go_at_call 73; refine (heldIntS_x R 3 cR 1 1 4 rfl rfl _ (K1.out.upB (by go_grown) (by go_size)) (by omega)).mono ?_; rintro e w1 ⟨rfl, b1⟩; obtain ⟨gc1, gf1⟩ := below_get b1; (try simp only [heap_drew, World.size_alloc, World.size_setCell] at gc1 gf1); have s1 := below_via (w := w) (by go_grown) b1; have H1 := s1; have hs1 := b1.size; (try simp at hs1); have z1_0 : w.heap.size < w1.heap.size := (by omega); clear b1)
  (go_wp2_with fail); (go_at_call 73; refine (heldIntS_x D 3 cD 4 4 7 rfl rfl _ ((K2.out.up s1).upB (by go_grown) (by go_size)) (by omega)).mono ?_; rintro e w2 ⟨rfl, b2⟩; obtain ⟨gc2, gf2⟩ := below_get b2; (try simp only [heap_drew, World.size_alloc, World.size_setCell] at gc2 gf2); have s2 := below_via (w := w1) (by go_grown) b2; have H2 := below_via H1 s2; have hs2 := b2.size; (try simp at hs2); have z2_0 : w.heap.size < w2.heap.size := (by omega); clear b2)
  (go_wp2_with fail); (go_at_call 74; refine (heldGateS_x G 3 cG 7 7 25 rfl rfl _ (((K3.out.up s1).up s2).upB (by go_grown) (by go_size)) (by omega) (by omega)).mono ?_; rintro e w3 ⟨rfl, b3⟩; obtain ⟨gc3, gf3⟩ := below_get b3; (try simp only [heap_drew, World.size_alloc, World.size_setCell] at gc3 gf3); have s3 := below_via (w := w2) (by go_grown) b3; have H3 := below_via H2 s3; have hs3 := b3.size; (try simp at hs3); have z3_0 : w.heap.size < w3.heap.size := (by omega); clear b3)
  go_wp2_with (first
    | ((go_at_call 75; refine (nil_heldFlightS _ _).mono ?_; rintro e w4 ⟨rfl, rfl⟩))
    | ((go_at_call 76; refine (nil_heldToldS _ _).mono ?_; rintro e w4 ⟨rfl, rfl⟩)))
  go_returns
  exact ⟨rfl, by go_grown⟩
set_option maxHeartbeats 2000000 in
set_option maxRecDepth 100000 in
theorem markFleet_nil (w : World) : Calls Try.prog 39 #[fleetV ByteArray.empty none none none 0 0 0 0, .int .i64 1] w (RetB (.int .i64 1) w) := by
  unfold fleetV
  go_enter Try.func39, Try.ntmps39
  go_wp2_with (first
    | ((go_at_call 67; refine (nil_markStringS _ _).mono ?_; rintro e w4 ⟨rfl, rfl⟩))
    | ((go_at_call 68; refine (nil_markIntS _ _).mono ?_; rintro e w4 ⟨rfl, rfl⟩))
    | ((go_at_call 69; refine (nil_markGateS _ _).mono ?_; rintro e w4 ⟨rfl, rfl⟩))
    | ((go_at_call 70; refine (nil_markFlightS _ _).mono ?_; rintro e w4 ⟨rfl, rfl⟩))
    | ((go_at_call 71; refine (nil_markToldS _ _).mono ?_; rintro e w4 ⟨rfl, rfl⟩)))
  go_returns
  exact ⟨rfl, by go_grown⟩
set_option maxHeartbeats 2000000 in
set_option maxRecDepth 100000 in
theorem heldFleet_nil (w : World) : Calls Try.prog 40 #[fleetV ByteArray.empty none none none 0 0 0 0, .int .i64 1] w (RetB (.int .i64 1) w) := by
  unfold fleetV
  go_enter Try.func40, Try.ntmps40
  go_wp2_with (first
    | ((go_at_call 72; refine (nil_heldStringS _ _).mono ?_; rintro e w4 ⟨rfl, rfl⟩))
    | ((go_at_call 73; refine (nil_heldIntS _ _).mono ?_; rintro e w4 ⟨rfl, rfl⟩))
    | ((go_at_call 74; refine (nil_heldGateS _ _).mono ?_; rintro e w4 ⟨rfl, rfl⟩))
    | ((go_at_call 75; refine (nil_heldFlightS _ _).mono ?_; rintro e w4 ⟨rfl, rfl⟩))
    | ((go_at_call 76; refine (nil_heldToldS _ _).mono ?_; rintro e w4 ⟨rfl, rfl⟩)))
  go_returns
  exact ⟨rfl, by go_grown⟩
set_option maxHeartbeats 4000000 in
set_option maxRecDepth 100000 in
theorem fleetNew_small (s : ByteArray) (hs : s.size ≤ 64) (w : World) : Calls Try.prog 11 #[.string s] w (RetB (.bool true) w) := by
  have hk : decide (1048576 < (s.size : Int)) = false := by simp; omega
  go_enter Try.func11, Try.ntmps11
  (go_wp2_with fail); (go_at_call 36; refine (specFleetNew_c s hs _).mono ?_; rintro e w1 ⟨rR, dR, rD, dD, rG, dG, rfl, oR1, oD1, oG1, b1⟩; have R1 := Lib.hid (Rd.of_own oR1); have D1 := Lib.hid (Rd.of_own oD1); have G1 := Lib.hid (Rd.of_own oG1); clear oR1 oD1 oG1; obtain ⟨gc1, gf1⟩ := below_get b1; (try simp only [heap_drew, World.size_alloc, World.size_setCell] at gc1 gf1); have s1 := below_via (w := w) (by go_grown) b1; have H1 := s1; have hs1 := b1.size; (try simp at hs1); clear b1)
  have T3 := Lib.hid (Blk.new w1 66 [.string s, .slice none 0 0, .slice (some ⟨rR, 0, none⟩) 3 dR, .slice (some ⟨rD, 0, none⟩) 3 dD, .slice (some ⟨rG, 0, none⟩) 3 dG, .slice none 0 0, .slice none 0 0])
  (go_wp2_with fail); (go_at_call 37; refine (fleetNew_c s hs _).mono ?_; rintro e w2 ⟨gR, gD, gG, cG, rfl, nRD, nRG, nDG, oR2, oD2, oG2, b2⟩; have U3 := Lib.hid (T3.out.up b2); have u0 := U3.out.cell (i := 0) rfl; have u1 := U3.out.cell (i := 1) rfl; have u2 := U3.out.cell (i := 2) rfl; have u3 := U3.out.cell (i := 3) rfl; have u4 := U3.out.cell (i := 4) rfl; have u5 := U3.out.cell (i := 5) rfl; have u6 := U3.out.cell (i := 6) rfl; have lR := oR2.lt gR rfl; have lD := oD2.lt gD rfl; have lG := oG2.lt gG rfl; (try simp only [heap_drew, World.size_alloc, World.size_setCell] at lR lD lG); have R2 := Lib.hid oR2; have D2 := Lib.hid oD2; have G2 := Lib.hid oG2; clear oR2 oD2 oG2; have RD := Lib.hid nRD; have RG := Lib.hid nRG; have DG := Lib.hid nDG; clear nRD nRG nDG; obtain ⟨gc2, gf2⟩ := below_get b2; (try simp only [heap_drew, World.size_alloc, World.size_setCell] at gc2 gf2); have s2 := below_via (w := w1) (by go_grown) b2; have H2 := below_via H1 s2; have hs2 := b2.size; (try simp at hs2); have z2_0 : w1.heap.size < w2.heap.size := (by omega); clear b2)
  have T4 := Lib.hid (Blk.new w2 66 [.string s, .slice none 0 0, .slice (some ⟨gR, 0, none⟩) 3 3, .slice (some ⟨gD, 0, none⟩) 3 3, .slice (some ⟨gG, 0, none⟩) 3 cG, .slice none 0 0, .slice none 0 0])
  (go_wp2_with fail); (go_at_call 38; refine (eqFleet_c s (some ⟨gR, 0, none⟩) (some ⟨gD, 0, none⟩) (some ⟨gG, 0, none⟩) (some ⟨rR, 0, none⟩) (some ⟨rD, 0, none⟩) (some ⟨rG, 0, none⟩) 3 3 3 cG dR dD dG _ (by omega) ((Rd.of_own (R2.out.alloc _))) (Rd.of_own (D2.out.alloc _)) (Rd.of_own (G2.out.alloc _)) ((R1.out.up s2).upB (by go_grown) (by go_size)) ((D1.out.up s2).upB (by go_grown) (by go_size)) ((G1.out.up s2).upB (by go_grown) (by go_size))).mono ?_; rintro e w3 ⟨rfl, b3⟩; have V3 := Lib.hid ((U3.out.alloc _).up b3); have V4 := Lib.hid (T4.out.up b3); have v0 := V4.out.cell (i := 0) rfl; have v1 := V4.out.cell (i := 1) rfl; have v2 := V4.out.cell (i := 2) rfl; have v3 := V4.out.cell (i := 3) rfl; have v4 := V4.out.cell (i := 4) rfl; have v5 := V4.out.cell (i := 5) rfl; have v6 := V4.out.cell (i := 6) rfl; have R3 := Lib.hid (own_up (R2.out.alloc _) b3); have D3 := Lib.hid (own_up (D2.out.alloc _) b3); have G3 := Lib.hid (own_up (G2.out.alloc _) b3); obtain ⟨gc3, gf3⟩ := below_get b3; (try simp only [heap_drew, World.size_alloc, World.size_setCell] at gc3 gf3); have s3 := below_via (w := w2) (by go_grown) b3; have H3 := below_via H2 s3; have hs3 := b3.size; (try simp at hs3); have z3_0 : w1.heap.size < w3.heap.size := (by omega); have z3_1 : w2.heap.size < w3.heap.size := (by omega); clear b3)
  have P3 := below_via s2 s3
  have e1 := P3.size
  have e2 : w2.heap.size < w3.heap.size := by omega
  (go_wp2_with fail); (go_at_call 39; refine (markFleet_c s (w1.alloc _).heap.size gR gD gG 3 3 cG _ _ _ _ RD.out RG.out DG.out R3.out D3.out G3.out).mono ?_; rintro e w4 ⟨rfl, m4, oR4, oD4, oG4⟩; have X3 := Lib.hid (m4.blk V3.out (by omega) (by omega) (by omega)); have X4 := Lib.hid (m4.blk V4.out (by omega) (by omega) (by omega)); have x0 := X4.out.cell (i := 0) rfl; have x1 := X4.out.cell (i := 1) rfl; have x2 := X4.out.cell (i := 2) rfl; have x3 := X4.out.cell (i := 3) rfl; have x4 := X4.out.cell (i := 4) rfl; have x5 := X4.out.cell (i := 5) rfl; have x6 := X4.out.cell (i := 6) rfl; have P4 := P3.trans (m4.below (by omega) (by omega) (by omega) (by omega)); have H4 := H3.trans (m4.below (by omega) (by omega) (by omega) (by omega)); have hs4 := m4.size; have R4 := Lib.hid oR4; have D4 := Lib.hid oD4; have G4 := Lib.hid oG4; clear oR4 oD4 oG4 m4)
  (go_wp2_with fail); (go_at_call 40; refine (heldFleet_c s (some ⟨gR, 0, none⟩) (some ⟨gD, 0, none⟩) (some ⟨gG, 0, none⟩) 3 3 cG _ (Rd.of_own R4.out) (Rd.of_own D4.out) (Rd.of_own G4.out)).mono ?_; rintro e w5 ⟨rfl, b5⟩; have Y3 := Lib.hid (X3.out.up b5); have Y4 := Lib.hid (X4.out.up b5); have R5 := Lib.hid (own_up R4.out b5); have D5 := Lib.hid (own_up D4.out b5); have G5 := Lib.hid (own_up G4.out b5); obtain ⟨gc5, gf5⟩ := below_get b5; (try simp only [heap_drew, World.size_alloc, World.size_setCell] at gc5 gf5); have s5 := below_via (w := w4) (by go_grown) b5; have H5 := below_via H4 s5; have hs5 := b5.size; (try simp at hs5); have z5_0 : w1.heap.size < w5.heap.size := (by omega); have z5_1 : w2.heap.size < w5.heap.size := (by omega); clear b5)
  have P5 := below_via P4 s5
  (go_wp2_with fail); (go_at_call 37; refine (fleetNew_c s hs _).mono ?_; rintro e w6 ⟨hR, hD, hG, kG, rfl, _, _, _, oR6, oD6, oG6, b6⟩; have Z3 := Lib.hid (Y3.out.up b6); have Z4 := Lib.hid (Y4.out.up b6); have z0 := Z3.out.cell (i := 0) rfl; have z1 := Z3.out.cell (i := 1) rfl; have z2 := Z3.out.cell (i := 2) rfl; have z3 := Z3.out.cell (i := 3) rfl; have z4 := Z3.out.cell (i := 4) rfl; have z5 := Z3.out.cell (i := 5) rfl; have z6 := Z3.out.cell (i := 6) rfl; have R6 := Lib.hid (own_up R5.out b6); have D6 := Lib.hid (own_up D5.out b6); have G6 := Lib.hid (own_up G5.out b6); have J6 := Lib.hid oR6; have L6 := Lib.hid oD6; have M6 := Lib.hid oG6; clear oR6 oD6 oG6; obtain ⟨gc6, gf6⟩ := below_get b6; (try simp only [heap_drew, World.size_alloc, World.size_setCell] at gc6 gf6); have s6 := below_via (w := w5) (by go_grown) b6; have H6 := below_via H5 s6; have hs6 := b6.size; (try simp at hs6); have z6_0 : w1.heap.size < w6.heap.size := (by omega); have z6_1 : w2.heap.size < w6.heap.size := (by omega); clear b6)
  have P6 := below_via P5 s6
  have e3 := P6.size
  (go_wp2_with fail); (go_at_call 38; refine (eqFleet_c s (some ⟨hR, 0, none⟩) (some ⟨hD, 0, none⟩) (some ⟨hG, 0, none⟩) (some ⟨rR, 0, none⟩) (some ⟨rD, 0, none⟩) (some ⟨rG, 0, none⟩) 3 3 3 kG dR dD dG _ (by omega) ((Rd.of_own (J6.out.alloc _))) (Rd.of_own (L6.out.alloc _)) (Rd.of_own (M6.out.alloc _)) ((R1.out.below P6).upB (by go_grown) (by go_size)) ((D1.out.below P6).upB (by go_grown) (by go_size)) ((G1.out.below P6).upB (by go_grown) (by go_size))).mono ?_; rintro e w7 ⟨rfl, b7⟩; have Q4 := Lib.hid ((Z4.out.alloc _).up b7); have q0 := Q4.out.cell (i := 0) rfl; have q1 := Q4.out.cell (i := 1) rfl; have q2 := Q4.out.cell (i := 2) rfl; have q3 := Q4.out.cell (i := 3) rfl; have q4 := Q4.out.cell (i := 4) rfl; have q5 := Q4.out.cell (i := 5) rfl; have q6 := Q4.out.cell (i := 6) rfl; have R7 := Lib.hid (own_up (R6.out.alloc _) b7); have D7 := Lib.hid (own_up (D6.out.alloc _) b7); have G7 := Lib.hid (own_up (G6.out.alloc _) b7); obtain ⟨gc7, gf7⟩ := below_get b7; (try simp only [heap_drew, World.size_alloc, World.size_setCell] at gc7 gf7); have s7 := below_via (w := w6) (by go_grown) b7; have H7 := below_via H6 s7; have hs7 := b7.size; (try simp at hs7); have z7_0 : w1.heap.size < w7.heap.size := (by omega); have z7_1 : w2.heap.size < w7.heap.size := (by omega); clear b7)
  (go_wp2_with fail); (go_at_call 40; refine (heldFleet_c s (some ⟨gR, 0, none⟩) (some ⟨gD, 0, none⟩) (some ⟨gG, 0, none⟩) 3 3 cG _ (Rd.of_own R7.out) (Rd.of_own D7.out) (Rd.of_own G7.out)).mono ?_; rintro e w8 ⟨rfl, b8⟩; obtain ⟨gc8, gf8⟩ := below_get b8; (try simp only [heap_drew, World.size_alloc, World.size_setCell] at gc8 gf8); have s8 := below_via (w := w7) (by go_grown) b8; have H8 := below_via H7 s8; have hs8 := b8.size; (try simp at hs8); clear b8)
  go_wp2
  go_returns
  exact ⟨rfl, by go_grown⟩
set_option maxHeartbeats 4000000 in
set_option maxRecDepth 100000 in
theorem fleetNew_large (s : ByteArray) (hs : 64 < s.size) (h1 : s.size ≤ 1048576) (w : World) : Calls Try.prog 11 #[.string s] w (RetB (.bool true) w) := by
  have hk : decide (1048576 < (s.size : Int)) = false := by simp; omega
  go_enter Try.func11, Try.ntmps11
  (go_wp2_with fail); (go_at_call 36; refine (specFleetNew_big s hs _).mono ?_; rintro e w1 ⟨rfl, b1⟩; obtain ⟨gc1, gf1⟩ := below_get b1; (try simp only [heap_drew, World.size_alloc, World.size_setCell] at gc1 gf1); have s1 := below_via (w := w) (by go_grown) b1; have H1 := s1; have hs1 := b1.size; (try simp at hs1); clear b1)
  have T3 := Lib.hid (Blk.new w1 66 [.string ByteArray.empty, .slice none 0 0, .slice none 0 0, .slice none 0 0, .slice none 0 0, .slice none 0 0, .slice none 0 0])
  (go_wp2_with fail); (go_at_call 37; refine (fleetNew_big s hs _).mono ?_; rintro e w2 ⟨rfl, b2⟩; have U3 := Lib.hid (T3.out.up b2); have u0 := U3.out.cell (i := 0) rfl; have u1 := U3.out.cell (i := 1) rfl; have u2 := U3.out.cell (i := 2) rfl; have u3 := U3.out.cell (i := 3) rfl; have u4 := U3.out.cell (i := 4) rfl; have u5 := U3.out.cell (i := 5) rfl; have u6 := U3.out.cell (i := 6) rfl; obtain ⟨gc2, gf2⟩ := below_get b2; (try simp only [heap_drew, World.size_alloc, World.size_setCell] at gc2 gf2); have s2 := below_via (w := w1) (by go_grown) b2; have H2 := below_via H1 s2; have hs2 := b2.size; (try simp at hs2); have z2_0 : w1.heap.size < w2.heap.size := (by omega); clear b2)
  have T4 := Lib.hid (Blk.new w2 66 [.string ByteArray.empty, .slice none 0 0, .slice none 0 0, .slice none 0 0, .slice none 0 0, .slice none 0 0, .slice none 0 0])
  (go_wp2_with fail); (go_at_call 38; refine (eqFleet_c ByteArray.empty none none none none none none 0 0 0 0 0 0 0 _ (by omega) Rd.nil_ Rd.nil_ Rd.nil_ Rd.nil_ Rd.nil_ Rd.nil_).mono ?_; rintro e w3 ⟨rfl, b3⟩; have V3 := Lib.hid ((U3.out.alloc _).up b3); have V4 := Lib.hid (T4.out.up b3); have v0 := V4.out.cell (i := 0) rfl; have v1 := V4.out.cell (i := 1) rfl; have v2 := V4.out.cell (i := 2) rfl; have v3 := V4.out.cell (i := 3) rfl; have v4 := V4.out.cell (i := 4) rfl; have v5 := V4.out.cell (i := 5) rfl; have v6 := V4.out.cell (i := 6) rfl; obtain ⟨gc3, gf3⟩ := below_get b3; (try simp only [heap_drew, World.size_alloc, World.size_setCell] at gc3 gf3); have s3 := below_via (w := w2) (by go_grown) b3; have H3 := below_via H2 s3; have hs3 := b3.size; (try simp at hs3); have z3_0 : w1.heap.size < w3.heap.size := (by omega); have z3_1 : w2.heap.size < w3.heap.size := (by omega); clear b3)
  (go_wp2_with fail); (go_at_call 39; refine (markFleet_nil _).mono ?_; rintro e w4 ⟨rfl, b4⟩; have X3 := Lib.hid (V3.out.up b4); have X4 := Lib.hid (V4.out.up b4); have x0 := X4.out.cell (i := 0) rfl; have x1 := X4.out.cell (i := 1) rfl; have x2 := X4.out.cell (i := 2) rfl; have x3 := X4.out.cell (i := 3) rfl; have x4 := X4.out.cell (i := 4) rfl; have x5 := X4.out.cell (i := 5) rfl; have x6 := X4.out.cell (i := 6) rfl; obtain ⟨gc4, gf4⟩ := below_get b4; (try simp only [heap_drew, World.size_alloc, World.size_setCell] at gc4 gf4); have s4 := below_via (w := w3) (by go_grown) b4; have H4 := below_via H3 s4; have hs4 := b4.size; (try simp at hs4); have z4_0 : w1.heap.size < w4.heap.size := (by omega); have z4_1 : w2.heap.size < w4.heap.size := (by omega); clear b4)
  (go_wp2_with fail); (go_at_call 40; refine (heldFleet_nil _).mono ?_; rintro e w5 ⟨rfl, b5⟩; have Y3 := Lib.hid (X3.out.up b5); have Y4 := Lib.hid (X4.out.up b5); obtain ⟨gc5, gf5⟩ := below_get b5; (try simp only [heap_drew, World.size_alloc, World.size_setCell] at gc5 gf5); have s5 := below_via (w := w4) (by go_grown) b5; have H5 := below_via H4 s5; have hs5 := b5.size; (try simp at hs5); have z5_0 : w1.heap.size < w5.heap.size := (by omega); have z5_1 : w2.heap.size < w5.heap.size := (by omega); clear b5)
  (go_wp2_with fail); (go_at_call 37; refine (fleetNew_big s hs _).mono ?_; rintro e w6 ⟨rfl, b6⟩; have Z3 := Lib.hid (Y3.out.up b6); have Z4 := Lib.hid (Y4.out.up b6); have z0 := Z3.out.cell (i := 0) rfl; have z1 := Z3.out.cell (i := 1) rfl; have z2 := Z3.out.cell (i := 2) rfl; have z3 := Z3.out.cell (i := 3) rfl; have z4 := Z3.out.cell (i := 4) rfl; have z5 := Z3.out.cell (i := 5) rfl; have z6 := Z3.out.cell (i := 6) rfl; obtain ⟨gc6, gf6⟩ := below_get b6; (try simp only [heap_drew, World.size_alloc, World.size_setCell] at gc6 gf6); have s6 := below_via (w := w5) (by go_grown) b6; have H6 := below_via H5 s6; have hs6 := b6.size; (try simp at hs6); have z6_0 : w1.heap.size < w6.heap.size := (by omega); have z6_1 : w2.heap.size < w6.heap.size := (by omega); clear b6)
  (go_wp2_with fail); (go_at_call 38; refine (eqFleet_c ByteArray.empty none none none none none none 0 0 0 0 0 0 0 _ (by omega) Rd.nil_ Rd.nil_ Rd.nil_ Rd.nil_ Rd.nil_ Rd.nil_).mono ?_; rintro e w7 ⟨rfl, b7⟩; have Q4 := Lib.hid ((Z4.out.alloc _).up b7); have q0 := Q4.out.cell (i := 0) rfl; have q1 := Q4.out.cell (i := 1) rfl; have q2 := Q4.out.cell (i := 2) rfl; have q3 := Q4.out.cell (i := 3) rfl; have q4 := Q4.out.cell (i := 4) rfl; have q5 := Q4.out.cell (i := 5) rfl; have q6 := Q4.out.cell (i := 6) rfl; obtain ⟨gc7, gf7⟩ := below_get b7; (try simp only [heap_drew, World.size_alloc, World.size_setCell] at gc7 gf7); have s7 := below_via (w := w6) (by go_grown) b7; have H7 := below_via H6 s7; have hs7 := b7.size; (try simp at hs7); have z7_0 : w1.heap.size < w7.heap.size := (by omega); have z7_1 : w2.heap.size < w7.heap.size := (by omega); clear b7)
  (go_wp2_with fail); (go_at_call 40; refine (heldFleet_nil _).mono ?_; rintro e w8 ⟨rfl, b8⟩; obtain ⟨gc8, gf8⟩ := below_get b8; (try simp only [heap_drew, World.size_alloc, World.size_setCell] at gc8 gf8); have s8 := below_via (w := w7) (by go_grown) b8; have H8 := below_via H7 s8; have hs8 := b8.size; (try simp at hs8); clear b8)
  go_wp2
  go_returns
  exact ⟨rfl, by go_grown⟩
theorem fnExactFleetNew_w (v : Value) (w : World) (h : IsStr w v) : Calls Try.prog 11 #[v] w (RetB (.bool true) w) := by
  obtain ⟨s, rfl, hs⟩ := h
  by_cases h64 : s.size ≤ 64
  · exact fleetNew_small s h64 w
  · by_cases h1 : s.size ≤ 1048576
    · exact fleetNew_large s (by omega) h1 w
    · have hk : decide (1048576 < (s.size : Int)) = true := by simp; omega
      go_enter Try.func11, Try.ntmps11
      go_wp2
      go_returns
      exact ⟨rfl, by go_grown⟩
set_option maxRecDepth 100000 in
theorem fnExactFleetNew_lifted (os : Os) (started : os.Started) (H : Type) (enc : TypeId × Value → H) :
    ReturnsInHanded {} Try.checked os 11 .any (Rows.fnExactFleetNewSpec.pre6 enc Try.prog Try.f11 Rows.fnExactFleetNewRow.domain false) (Rows.fnExactFleetNewSpec.post enc Try.prog Try.f11 false true false false) := by
  refine returnsInHanded_of_change (C := Try.checked) own started (by kernel_rfl) Try.func11
    (ChangeSpec.witness6 (enc := enc) (C := Try.checked) false ⟨#[], #[.string ByteArray.empty], []⟩ 8 (by kernel_rfl) (by kernel_rfl) (by kernel_rfl) (by kernel_rfl)) ?_
  intro W base args ds gs before hval0 hW hcnd _
  have hval : ∀ (j : Nat) t v, Try.f11.params[j]? = some t → args[j]? = some v → Value.okWide Try.prog W .any base t v := hval0
  have hW' := hW
  obtain ⟨p, q, hA0, hV, rfl, hfz, hnd⟩ := hW
  have hA : DataW.TrodAll enc Try.prog W 0 (fun _ => true) true Try.f11.params.toList args.toList ds p := hA0
  rw [Try.params11] at hA hval
  obtain ⟨v0, vs0, d0, ds0, p0, q0, hargs, rfl, rfl, h0, r0⟩ := trodAll_cons hA
  obtain ⟨rfl, rfl, rfl⟩ := trodAll_nil r0
  obtain rfl : args = #[v0] := by cases args; simp_all
  obtain ⟨rfl, rfl⟩ := trodVars_none hV
  have k0 := h0
  have lt0 : ∀ x ∈ p0, x.block < W.heap.size := by obtain ⟨m, hm⟩ := k0; exact DataW.trod_lt m _ _ _ hm
  have o0 := open_Str (hval 0 9 v0 rfl rfl) h0
  clear hA0 hval0
  refine (fnExactFleetNew_w v0 W o0).mono fun e W' ⟨he, bel⟩ => ?_
  subst he
  exact ⟨_, rfl, _, _, _, [], _, [], hW', trodAll_mk1 (shut_bool Try.underlying4 _), (trodAll_cons_mk (Below.trod laidOut (by kernel_rfl) (of_decide_eq_true (by kernel_rfl)) k0 bel lt0) trodAll_mk0), rfl, bel.frame _, fun h => by cases h⟩

theorem fnExactFleetNew_holds : Rows.FnExactFleetNewSaid :=
  OpenClaim.holds_of_wide 11 Try.f11 rfl rfl rfl rfl rfl rfl rfl ⟨rfl, rfl, rfl, rfl, rfl⟩ rfl rfl rfl rfl rfl (by kernel_rfl) Try.func11 (by kernel_rfl)
    (of_decide_eq_true (by kernel_rfl)) (by unfold Func.isWrapper; rw [if_neg (of_decide_eq_false (by kernel_rfl))]; exact ⟨rfl, rfl⟩)
    (fun os started H enc _ => fnExactFleetNew_lifted os started H enc)
#print axioms fnExactFleetNew_holds
end Go.Proofs.Ytbijlencoilchaa
