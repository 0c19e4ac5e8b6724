/- PackWrite: the program's contract; a pack as a law's argument. Conditions: each contract's own. -/
import Derived.Test.YtdbojdgppgphkaaDoorPack2
import Derived.Test.YtdbojdgppgphkaaDoorOpen2
import Derived.Deep.RegionHeld3
namespace Go.Proofs.YtdbojdgppgphkaaDoor
set_option linter.unusedSimpArgs false
open Go.ChangeShapes Go.WideShapes Go.ChangeAt Go.RowKit Go.Joins Go.Deep
open Go.ChangeMaps (open_string shut_string)
set_option linter.unusedVariables false
set_option linter.unnecessarySimpa false
set_option maxRecDepth 20000
/-- A law's argument: a pack. -/
def IsPack (_ : World) (v : Value) : Prop := ∃ n a b, v = .agg #[.int .i64 n, .string a, .string b] ∧ -9223372036854775808 ≤ n ∧ n ≤ 9223372036854775807 ∧ a.size ≤ maxLen ∧ b.size ≤ maxLen
section
variable {H : Type} {enc : TypeId × Value → H} {W : World} {base : Nat} {v : Value} {d : DataW H} {p : List MemPlace}
theorem cells_lawPack : Tryd.prog.cellsOf 31 = 3 := by kernel_rfl
theorem open_Pack (ho : Value.okWide Tryd.prog W .any base 31 v) (h : DataW.Trod enc Tryd.prog W 0 (fun _ => true) true 31 v d p) : IsPack W v := by
  obtain ⟨c0, c1, c2, y0, y1, y2, m, rfl, rfl, rfl, hy0, hy1, hy2⟩ := open_agg3 Tryd.underlying31 (by kernel_rfl) cells_lawPack ho h
  obtain ⟨n0, e0, _, s0⟩ := DataW.trod_int Tryd.underlying3 hy0
  obtain ⟨n1, e1, _, s1⟩ := DataW.trod_string Tryd.underlying9 hy1
  obtain ⟨n2, e2, _, s2⟩ := DataW.trod_string Tryd.underlying9 hy2
  injection e0 with e0; injection e1 with e1; injection e2 with e2
  subst e0 e1 e2
  exact ⟨n0, n1, n2, rfl, (Go.bounds_i64 s0).1, (Go.bounds_i64 s0).2, s1, s2⟩
end
theorem szPack_c (n : Int) (A B : ByteArray) (hA : A.size ≤ 9223372036854775807) (hB : B.size ≤ 9223372036854775807) (w : World) : Calls Tryd.prog 18 #[.agg #[.int .i64 n, .string A, .string B], .int .i64 1048576] w (RetB (.int .i64 (if A.size + B.size ≤ 1048576 then 1048576 - (A.size : Int) - (B.size : Int) else -1)) w) := by
  by_cases h1 : A.size ≤ 1048576
  · by_cases h2 : A.size + B.size ≤ 1048576
    · rw [if_pos h2]
      go_enter Tryd.func18, Tryd.ntmps18
      go_wp2
      go_returns
      exact ⟨by go_num, by go_grown⟩
    · rw [if_neg h2]
      have h3 : ¬ (A.size : Int) + (B.size : Int) ≤ 1048576 := by omega
      go_enter Tryd.func18, Tryd.ntmps18
      go_wp2
      go_returns
      exact ⟨rfl, by go_grown⟩
  · have h2 : ¬ A.size + B.size ≤ 1048576 := by omega
    rw [if_neg h2]
    go_enter Tryd.func18, Tryd.ntmps18
    go_wp2
    go_returns
    exact ⟨rfl, by go_grown⟩
theorem toPack_c (n : Int) (A B : ByteArray) (w : World) : Calls Tryd.prog 20 #[.agg #[.int .i64 n, .string A, .string B]] w (RetB (.agg #[.int .i64 n, .string A, .string B]) w) := by
  go_enter Tryd.func20, Tryd.ntmps20
  go_wp2
  refine bodyPost_ret (v := .agg #[.int .i64 n, .string A, .string B]) (by simp [results, Tryd.results20, go_sem]) rfl ?_
  go_light
  exact ⟨rfl, by go_grown⟩
set_option maxHeartbeats 1600000 in
theorem packWrite_c (key : ByteArray) (n : Int) (r d : ByteArray) (hk : key.size ≤ 1099511627776) (h0 : -9223372036854775808 ≤ n) (h1 : n ≤ 9223372036854775807) (hr : r.size ≤ 1099511627776) (hd : d.size ≤ 1099511627776) (w : World) (hP : PT w w.heap.size) (hK : KT w) (hz : 2 < w.heap.size) :
    Calls Tryd.prog 21 #[.string key, .agg #[.int .i64 n, .string r, .string d]] w (RetB (.string (packB key n r d)) w) := by
  have HP := Lib.hid hP
  have HT := Lib.hid hK
  clear hP hK
  by_cases h : wholeB n r d = true
  · obtain ⟨hn, hr9, hd9⟩ := whole_parts h
    have lr := linesN_le r
    have ld := linesN_le d
    have hpl1 := packLines_c r 900 hr (by omega) (by omega)
    have hpl2 := packLines_c d 2600 hd (by omega) (by omega)
    have he : endsB r = true ∧ endsB d = true := by
      unfold wholeB at h
      simp only [Bool.and_eq_true] at h
      exact ⟨h.1.2.2, h.2.2⟩
    rw [he.1, show decide ((r.size : Int) ≤ 900) = true by simp; omega] at hpl1
    rw [he.2, show decide ((d.size : Int) ≤ 2600) = true by simp; omega] at hpl2
    have HL1 := Lib.hid hpl1
    have HL2 := Lib.hid hpl2
    have HC1 := Lib.hid (count10_c r)
    have HC2 := Lib.hid (count10_c d)
    obtain ⟨I, J, K, X1, X2, X3, X4, X5, H, Y1, B, Z1, M, Z2, R, eI, eJ, eK, eB, eM, eR, hB, r1, r2, r3, r4, r5, r6, r7, r8, r9, r10, r11⟩ := pack_runs (P := Tryd.prog) key r d h
    have HI := Lib.hid (itoaAll_c n (by omega) (by omega))
    have HJ := Lib.hid (itoaAll_c (linesN r : Int) (by omega) (by omega))
    have HD := Lib.hid (itoaAll_c (linesN d : Int) (by omega) (by omega))
    have HM := Lib.hid (hashMac_c key B hk (by omega))
    have e3 : strOfNums (hexL (digest (padTo (bytesI (keyS key)) 92 64 ++ digest (padTo (bytesI (keyS key)) 54 64 ++ bytesI B)))) = M := by rw [eM]; rfl
    rw [e3] at HM
    rw [← eI] at HI
    rw [← eJ] at HJ
    rw [← eK] at HD
    rw [← eR]
    generalize linesN r = a at *
    generalize linesN d = b at *
    clear eI eJ eK eB eM eR e3 h hpl1 hpl2 he
    go_enter Tryd.func21, Tryd.ntmps21
    go_wp2_with (first
      | (go_at_call 57; refine (((fun _ => HL2.out _) g1)).mono ?_; rintro e wz ⟨rfl, rfl⟩)
      | (go_at_call 57; refine (HL1.out _).mono ?_; rintro e wz ⟨rfl, rfl⟩; have g1 : True := trivial))
    go_region_held3 (fun w' => w'.cell? ⟨w.heap.size, 0, none⟩ = some (.int .i64 n) ∧ w'.cell? ⟨w.heap.size, 1, none⟩ = some (.string r) ∧ w'.cell? ⟨w.heap.size, 2, none⟩ = some (.string d)) (simp [go_sem, *])
      (first
       | (go_at_call 46; refine (((fun _ => HD.out _ _ (HP.out.below (show Below w.heap.size w _ from below_via H2 (by go_grown)))) s2)).mono ?_; rintro e w3 ⟨rfl, b3⟩; obtain ⟨gc3, gf3⟩ := below_get b3; (try simp only [heap_drew, World.size_alloc, World.size_setCell] at gc3 gf3); have s3 := below_via (w := w2) (by go_grown) b3; have H3 := below_via H2 s3; have hs3 := b3.size; (try simp at hs3); have z3_0 : w.heap.size < w3.heap.size := (by omega); clear b3)
       | (go_at_call 58; refine (((fun _ => HC2.out _) s2)).mono ?_; rintro e wz ⟨rfl, rfl⟩)
       | (go_at_call 46; refine (((fun _ => HJ.out _ _ (HP.out.below (show Below w.heap.size w _ from below_via H1 (by go_grown)))) s1)).mono ?_; rintro e w2 ⟨rfl, b2⟩; obtain ⟨gc2, gf2⟩ := below_get b2; (try simp only [heap_drew, World.size_alloc, World.size_setCell] at gc2 gf2); have s2 := below_via (w := w1) (by go_grown) b2; have H2 := below_via H1 s2; have hs2 := b2.size; (try simp at hs2); have z2_0 : w.heap.size < w2.heap.size := (by omega); clear b2)
       | (go_at_call 58; refine (((fun _ => HC1.out _) s1)).mono ?_; rintro e wz ⟨rfl, rfl⟩)
       | (go_at_call 46; refine (HI.out _ _ (HP.out.below (show Below w.heap.size w _ from by go_grown))).mono ?_; rintro e w1 ⟨rfl, b1⟩; obtain ⟨gc1, gf1⟩ := below_get b1; (try simp only [heap_drew, World.size_alloc, World.size_setCell] at gc1 gf1); have s1 := below_via (w := w) (by go_grown) b1; have H1 := s1; have hs1 := b1.size; (try simp at hs1); have z1_0 : w.heap.size < w1.heap.size := (by omega); clear b1))
    (go_wp2_with fail); (go_at_call 48; refine (HM.out _ (HT.out.up H3 hz) (by omega)).mono ?_; rintro e w4 ⟨rfl, b4⟩; obtain ⟨gc4, gf4⟩ := below_get b4; (try simp only [heap_drew, World.size_alloc, World.size_setCell] at gc4 gf4); have s4 := below_via (w := w3) (by go_grown) b4; have H4 := below_via H3 s4; have hs4 := b4.size; (try simp at hs4); have z4_0 : w.heap.size < w4.heap.size := (by omega); clear b4)
    go_wp2
    go_returns
    exact ⟨rfl, by go_grown⟩
  · have h' : wholeB n r d = false := by simpa using h
    rw [pack_no h']
    have hpl1 := packLines_c r 900 hr (by omega) (by omega)
    have hpl2 := packLines_c d 2600 hd (by omega) (by omega)
    obtain ⟨p1, hp1⟩ : ∃ x, x = (decide ((r.size : Int) ≤ 900) && endsB r) := ⟨_, rfl⟩
    obtain ⟨p2, hp2⟩ : ∃ x, x = (decide ((d.size : Int) ≤ 2600) && endsB d) := ⟨_, rfl⟩
    have hw : (decide (1 ≤ n ∧ n ≤ 99) && p1 && p2) = false := by
      rw [hp1, hp2, show decide ((r.size : Int) ≤ 900) = decide (r.size ≤ 900) from decide_eq_decide.2 (by omega), show decide ((d.size : Int) ≤ 2600) = decide (d.size ≤ 2600) from decide_eq_decide.2 (by omega)]
      exact h'
    rw [← hp1] at hpl1
    rw [← hp2] at hpl2
    have HL1 := Lib.hid hpl1
    have HL2 := Lib.hid hpl2
    clear hpl1 hpl2 hp1 hp2 h h'
    by_cases hn1 : n < 1
    · go_enter Tryd.func21, Tryd.ntmps21
      go_wp2
      go_returns
      exact ⟨rfl, by go_grown⟩
    · by_cases hn2 : 99 < n
      · go_enter Tryd.func21, Tryd.ntmps21
        go_wp2
        go_returns
        exact ⟨rfl, by go_grown⟩
      · cases p1 with
        | false =>
          clear hw
          go_enter Tryd.func21, Tryd.ntmps21
          go_wp2_with (go_at_call 57; refine (HL1.out _).mono ?_; rintro e wz ⟨rfl, rfl⟩)
          go_returns
          exact ⟨rfl, by go_grown⟩
        | true =>
          cases p2 with
          | true =>
            exfalso
            rw [show decide (1 ≤ n ∧ n ≤ 99) = true by simp; omega] at hw
            cases hw
          | false =>
            clear hw
            go_enter Tryd.func21, Tryd.ntmps21
            go_wp2_with (first
              | (go_at_call 57; refine (((fun _ => HL2.out _) g1)).mono ?_; rintro e wz ⟨rfl, rfl⟩)
              | (go_at_call 57; refine (HL1.out _).mono ?_; rintro e wz ⟨rfl, rfl⟩; have g1 : True := trivial))
            go_returns
            exact ⟨rfl, by go_grown⟩
end Go.Proofs.YtdbojdgppgphkaaDoor
