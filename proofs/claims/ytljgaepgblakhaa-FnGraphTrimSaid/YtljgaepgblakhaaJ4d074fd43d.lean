/- The reference's graph of a policy. Conditions: each contract's own. -/
import Derived.Test.YtljgaepgblakhaaJ929dd2a828
import Derived.Test.YtljgaepgblakhaaSpecTrim
import Derived.Test.YtljgaepgblakhaaPol2
namespace Go.Proofs.Ytljgaepgblakhaa
set_option linter.unusedSimpArgs false
open Go.RowKit
set_option linter.unusedVariables false
set_option linter.unnecessarySimpa false
theorem look_len (ps : List Pt) (x : Pt) : (look ps x).1.length ≤ ps.length + 1 := by
  unfold look
  split
  · simp
  · exact (ins_len ps x).2.1
theorem testG_len (ps : List Pt) (t : Tst) (on no : Int) : (testG ps t on no).1.length ≤ ps.length + 1 := by
  unfold testG
  split
  · split
    · simp
    · exact look_len _ _
  · exact look_len _ _
theorem testsG_len (ps : List Pt) (on no : Int) (ts : List Tst) : (testsG ps on no ts).1.length ≤ ps.length + ts.length := by
  induction ts with
  | nil => simp [testsG]
  | cons t ts ih =>
    rw [testsG]
    have := testG_len (testsG ps on no ts).1 t (testsG ps on no ts).2 no
    simp only [List.length_cons]; omega
theorem drop_at {α : Type} {l : List α} {k : Nat} {a : α} (h : l[k]? = some a) : l.drop k = a :: l.drop (k + 1) := by
  obtain ⟨hk, e⟩ := List.getElem?_eq_some_iff.1 h
  rw [List.drop_eq_getElem_cons hk, e]
theorem gn_step {w w1 w2 : World} {ob0 ob1 : Option Nat} (h : w.grownBy w1 ob0) (k : w1.grownBy w2 ob1) (hr : ∀ b, ob1 = some b → ob0 = some b ∨ w.heap.size ≤ b) : w.grownBy w2 ob0 :=
  ⟨k.os.trans h.os, k.tape.trans h.tape, k.output.trans h.output, Nat.le_trans h.size k.size, fun i hi hne => (k.block i (Nat.lt_of_lt_of_le hi h.size) (fun e => by
    rcases hr i e.symm with r | r
    · exact hne r.symm
    · omega)).trans (h.block i hi hne)⟩
/-- A row that is the one that was given, or a new one. -/
def NewOb (w : World) (ob0 ob1 : Option Nat) : Prop := ∀ b, ob1 = some b → ob0 = some b ∨ w.heap.size ≤ b
theorem NewOb.refl (w : World) (ob : Option Nat) : NewOb w ob ob := fun b h => .inl h
theorem NewOb.step {w w1 : World} {ob0 ob1 ob2 : Option Nat} (h : NewOb w ob0 ob1) (k : NewOb w1 ob1 ob2) (hs : w.heap.size ≤ w1.heap.size) : NewOb w ob0 ob2 := fun b hb => by
  rcases k b hb with r | r
  · exact h b r
  · exact .inr (by omega)
theorem NewOb.less {w w1 : World} {ob0 ob1 : Option Nat} (h : NewOb w1 ob0 ob1) (hs : w.heap.size ≤ w1.heap.size) : NewOb w ob0 ob1 := fun b hb => by
  rcases h b hb with r | r
  · exact .inl r
  · exact .inr (by omega)
theorem NewOb.ne {w : World} {ob0 ob1 : Option Nat} (h : NewOb w ob0 ob1) {b : Nat} (h0 : ob0 ≠ some b) (hb : b < w.heap.size) : ob1 ≠ some b := fun e => by
  rcases h b e with r | r
  · exact h0 r
  · omega
theorem own_ge {w : World} {base e size n : Nat} {v : Value} {xs : List Value} (h : w.ownsRow base e size v n xs) : ∀ b, v.ownBlock = some b → base ≤ b := fun b hb => (h.lt b hb).1
theorem Blk.grow {w w' : World} {g t : Nat} {cs : List Value} {row : Option Nat} (h : Blk w g t cs) (k : w.grownBy w' row) (hr : row ≠ some g) : Blk w' g t cs := (k.block g h.lt (fun e => hr e.symm)).trans h
/-- What has come of a list of points: another list and a place, in a row that was given or is new. -/
def RetMk (base E : Nat) (ob : Option Nat) (r : List Pt × Int) (w : World) (e : Ending) (w' : World) : Prop :=
  ∃ A c, e = .returned (.tuple #[.slice A r.1.length c, .int .i64 r.2]) ∧ w'.ownsRow base E 7 (.slice A r.1.length c) r.1.length (pts r.1) ∧ w.grownBy w' ob ∧ NewOb w ob (Value.slice A r.1.length c).ownBlock
theorem RdR.grown {w w' : World} {B n : Nat} {A : Option Addr} {rs : List Rl} (h : RdR w B A n rs) {row : Option Nat} (hg : w.grownBy w' row) (hB : B ≤ w.heap.size) (hr : ∀ g, row = some g → B ≤ g) : RdR w' B A n rs :=
  h.below ⟨hg.os, hg.tape, hg.output, hg.size, fun t ht => hg.block t (by omega) (fun e => by have := hr t e.symm; omega)⟩
theorem l4Look_m (A : Option Addr) (c : Nat) (ps : List Pt) (x : Pt) (hv : x.v = 0) (base : Nat) (w : World) (h : w.ownsRow base 29 7 (.slice A ps.length c) ps.length (pts ps)) (hb : base ≤ w.heap.size) (hn : ps.length ≤ 1000) :
    Calls Try.prog 28 #[.slice A ps.length c, .int .i64 x.f, .int .i64 x.m, .int .i64 x.op, .int .i64 x.x, .int .i64 x.y, .int .i64 x.n] w (RetMk base 29 (Value.slice A ps.length c).ownBlock (look ps x) w) :=
  l4Look_c A ps.length c ps x hv base w h hb hn
theorem l4Leaf_m (A : Option Addr) (c : Nat) (ps : List Pt) (v : Int) (base : Nat) (w : World) (h : w.ownsRow base 29 7 (.slice A ps.length c) ps.length (pts ps)) (hb : base ≤ w.heap.size) (hn : ps.length ≤ 1000) :
    Calls Try.prog 29 #[.slice A ps.length c, ptV (leafP v)] w (RetMk base 29 (Value.slice A ps.length c).ownBlock (ins ps (leafP v), ((ps.idxOf (leafP v) : Nat) : Int)) w) :=
  l4Point_c A ps.length c ps (leafP v) base w h hb hn
theorem l4Test_c (A : Option Addr) (c : Nat) (ps : List Pt) (t : Tst) (ht : tstB t = true) (on no : Int) (base : Nat) (w : World) (h : w.ownsRow base 29 7 (.slice A ps.length c) ps.length (pts ps)) (hb : base ≤ w.heap.size) (hn : ps.length ≤ 1000) :
    Calls Try.prog 46 #[.slice A ps.length c, tstV t, .int .i64 on, .int .i64 no] w (RetMk base 29 (Value.slice A ps.length c).ownBlock (testG ps t on no) w) := by
  obtain ⟨a1, a2, a3, a4, a5, a6, a7⟩ := tst_and ht
  obtain ⟨f, m, op, x⟩ := t
  simp only at a1 a2 a3 a4 a5 a6 a7
  have HO := Lib.hid (fun W (hW : Below w.heap.size w W) => own_up h hW)
  clear h ht
  unfold tstV
  rcases a7 with rfl | rfl | rfl
  · have HL := Lib.hid (fun W hW hb' => l4Look_m A c ps ⟨0, f, m, 1, x, on, no⟩ rfl base W (HO.out W hW) hb' hn)
    have HE : Hid (testG ps ⟨f, m, 1, x⟩ on no = look ps ⟨0, f, m, 1, x, on, no⟩) := Lib.hid rfl
    rw [HE.out]
    generalize look ps ⟨0, f, m, 1, x, on, no⟩ = R at *
    go_enter Try.func46, Try.ntmps46
    go_wp2_with fail
    refine (HL.out _ (by go_grown) (by (try simp); omega)).mono ?_
    rintro e w1 ⟨A1, c1, rfl, o1, g1, n1⟩
    have O1 := Lib.hid o1
    have G1 := Lib.hid ((World.grownBy_alloc w (.cells #[.int .i64 f, .int .i64 m, .int .i64 1, .int .i64 x] 70) _).trans g1)
    have N1 := Lib.hid (n1.less (w := w) (by simp))
    clear o1 g1 n1
    go_wp2
    go_returns
    exact ⟨A1, c1, rfl, O1.out, G1.out, N1.out⟩
  · by_cases hx : x = 0
    · subst hx
      have HE : Hid (testG ps ⟨f, m, 2, 0⟩ on no = (ps, no)) := Lib.hid rfl
      rw [HE.out]
      go_enter Try.func46, Try.ntmps46
      go_wp2
      go_returns
      exact ⟨A, c, rfl, HO.out _ (by go_grown), World.grownBy_alloc w _ _, NewOb.refl _ _⟩
    · have hx1 : 1 ≤ x := by omega
      have hx' : ((x : Int) == 0) = false := by simpa using hx
      have HL := Lib.hid (fun W hW hb' => l4Look_m A c ps ⟨0, f, m, 3, x - 1, no, on⟩ rfl base W (HO.out W hW) hb' hn)
      have HE : Hid (testG ps ⟨f, m, 2, x⟩ on no = look ps ⟨0, f, m, 3, x - 1, no, on⟩) := Lib.hid (by unfold testG; rw [if_pos rfl, if_neg hx])
      rw [HE.out]
      generalize look ps ⟨0, f, m, 3, x - 1, no, on⟩ = R at *
      go_enter Try.func46, Try.ntmps46
      go_wp2_with fail
      refine (HL.out _ (by go_grown) (by (try simp); omega)).mono ?_
      rintro e w1 ⟨A1, c1, rfl, o1, g1, n1⟩
      have O1 := Lib.hid o1
      have G1 := Lib.hid ((World.grownBy_alloc w (.cells #[.int .i64 f, .int .i64 m, .int .i64 2, .int .i64 x] 70) _).trans g1)
      have N1 := Lib.hid (n1.less (w := w) (by simp))
      clear o1 g1 n1
      go_wp2
      go_returns
      exact ⟨A1, c1, rfl, O1.out, G1.out, N1.out⟩
  · have HL := Lib.hid (fun W hW hb' => l4Look_m A c ps ⟨0, f, m, 3, x, on, no⟩ rfl base W (HO.out W hW) hb' hn)
    have HE : Hid (testG ps ⟨f, m, 3, x⟩ on no = look ps ⟨0, f, m, 3, x, on, no⟩) := Lib.hid rfl
    rw [HE.out]
    generalize look ps ⟨0, f, m, 3, x, on, no⟩ = R at *
    go_enter Try.func46, Try.ntmps46
    go_wp2_with fail
    refine (HL.out _ (by go_grown) (by (try simp); omega)).mono ?_
    rintro e w1 ⟨A1, c1, rfl, o1, g1, n1⟩
    have O1 := Lib.hid o1
    have G1 := Lib.hid ((World.grownBy_alloc w (.cells #[.int .i64 f, .int .i64 m, .int .i64 3, .int .i64 x] 70) _).trans g1)
    have N1 := Lib.hid (n1.less (w := w) (by simp))
    clear o1 g1 n1
    go_wp2
    go_returns
    exact ⟨A1, c1, rfl, O1.out, G1.out, N1.out⟩
set_option maxHeartbeats 1600000 in
set_option maxRecDepth 100000 in
theorem l4Rule_c (A : Option Addr) (c : Nat) (ps : List Pt) (r : Rl) (TA : Option Addr) (tc : Nat) (hr : ruleB r = true) (no : Int) (base : Nat) (w : World) (h : w.ownsRow base 29 7 (.slice A ps.length c) ps.length (pts ps)) (hb : base ≤ w.heap.size) (hn : ps.length ≤ 900)
    (hT : Rd w base 4 TA r.ts.length (tsts r.ts)) :
    Calls Try.prog 43 #[.slice A ps.length c, .agg #[.int .i64 r.v, .int .i64 r.lo, .int .i64 r.hi, .slice TA r.ts.length tc], .int .i64 no] w (RetMk base 29 (Value.slice A ps.length c).ownBlock (ruleG ps r no) w) := by
  obtain ⟨b1, b2, b3, b4, b5, b6⟩ := rule_and hr
  obtain ⟨v, lo, hi, ts⟩ := r
  simp only at b1 b2 b3 b4 b5 b6 hT ⊢
  obtain ⟨W0, hW0⟩ : ∃ W0, W0 = w.alloc (.cells #[.int .i64 v, .int .i64 lo, .int .i64 hi, .slice TA ts.length tc] 68) := ⟨_, rfl⟩
  have hob : NewOb w (Value.slice A ps.length c).ownBlock (Value.slice A ps.length c).ownBlock := NewOb.refl _ _
  have hne : (Value.slice A ps.length c).ownBlock ≠ some w.heap.size := own_old h (Nat.le_refl _)
  have hge := own_ge h
  have X0 := Lib.hid (show Blk W0 w.heap.size 68 [.int .i64 v, .int .i64 lo, .int .i64 hi, .slice TA ts.length tc] from hW0 ▸ Blk.new w 68 [.int .i64 v, .int .i64 lo, .int .i64 hi, .slice TA ts.length tc])
  have O0 := Lib.hid (show W0.ownsRow base 29 7 (.slice A ps.length c) ps.length (pts ps) from hW0 ▸ h.alloc _)
  have G0 := Lib.hid (show w.grownBy W0 (Value.slice A ps.length c).ownBlock from hW0 ▸ World.grownBy_alloc w _ _)
  have T0 := Lib.hid (hT.grown G0.out hb hge)
  have hs0 : W0.heap.size = w.heap.size + 1 := by rw [hW0]; simp
  have HW0 := Lib.hid hW0
  have HGE := Lib.hid hge
  have HB6 := Lib.hid b6
  have HTL := Lib.hid (fun a b => testsG_len a b no ts)
  obtain ⟨ob, hobe⟩ : ∃ ob, ob = (Value.slice A ps.length c).ownBlock := ⟨_, rfl⟩
  have HOB := Lib.hid hobe
  rw [← hobe] at G0 HGE hne ⊢
  obtain ⟨RR, hRR⟩ : ∃ RR, RR = ruleG ps ⟨v, lo, hi, ts⟩ no := ⟨_, rfl⟩
  rw [← hRR]
  have HRR := Lib.hid hRR
  have hln := ins_len ps (leafP v)
  have hl1 := hln.2.1
  clear h hob hge hT hW0 b6 hr hobe hRR hln b1
  have x00 := X0.out.cell (i := 0) rfl
  go_enter Try.func43, Try.ntmps43
  go_wp2_with fail
  rw [← HW0.out]
  refine (l4Leaf_m A c ps v base W0 O0.out (by omega) (by omega)).mono ?_
  rintro e w1 ⟨A1, c1, rfl, o1, g1, n1⟩
  rw [← HOB.out] at g1 n1
  obtain ⟨P0, hP0⟩ : ∃ P0 : List Pt × Int, P0 = (ins ps (leafP v), ((ps.idxOf (leafP v) : Nat) : Int)) := ⟨_, rfl⟩
  have hl2 : P0.1.length ≤ 901 := by rw [hP0]; simp only; omega
  have HRR2 : Hid (RR = (if lo = hi then look (testsG P0.1 P0.2 no ts).1 (numG 1 lo (testsG P0.1 P0.2 no ts).2 no) else if 0 < lo then look (if hi < 4294967295 then look (testsG P0.1 P0.2 no ts).1 (numG 3 hi no (testsG P0.1 P0.2 no ts).2) else testsG P0.1 P0.2 no ts).1 (numG 3 (lo - 1) (if hi < 4294967295 then look (testsG P0.1 P0.2 no ts).1 (numG 3 hi no (testsG P0.1 P0.2 no ts).2) else testsG P0.1 P0.2 no ts).2 no) else (if hi < 4294967295 then look (testsG P0.1 P0.2 no ts).1 (numG 3 hi no (testsG P0.1 P0.2 no ts).2) else testsG P0.1 P0.2 no ts))) := by
    show _ = _
    rw [HRR.out, hP0]
    rfl
  have HQ : Hid (∀ k, (testsG P0.1 P0.2 no (ts.drop k)).1.length ≤ 905) := Lib.hid (fun k => by
    have h1 := testsG_len P0.1 P0.2 no (ts.drop k)
    have h2 : (ts.drop k).length ≤ 4 := by rw [List.length_drop]; omega
    omega)
  rw [show ((ins ps (leafP v)), ((ps.idxOf (leafP v) : Nat) : Int)).1 = P0.1 by rw [hP0], show ((ins ps (leafP v)), ((ps.idxOf (leafP v) : Nat) : Int)).2 = P0.2 by rw [hP0]] at *
  have O1 := Lib.hid o1
  have G1 := Lib.hid g1
  have N1 := Lib.hid n1
  have X1 := Lib.hid (X0.out.grow g1 hne)
  have x13 := X1.out.cell (i := 3) rfl
  have hs1 := g1.size
  clear o1 g1 n1 hP0 HRR x00 hl1
  go_wp2_with fail
  go_loopg [0, 8, 9] ts.length (fun gk g at_ i wr => ∃ (R : List Pt × Int) (A2 : Option Addr) (c2 : Nat), gk ≤ ts.length ∧ i = .int .i64 ((gk : Int) - 1) ∧ g = .slice A2 R.1.length c2 ∧ at_ = .int .i64 R.2 ∧ Hid (R = testsG P0.1 P0.2 no (ts.drop gk)) ∧ Hid (wr.ownsRow base 29 7 (.slice A2 R.1.length c2) R.1.length (pts R.1)) ∧ Hid (W0.grownBy wr ob) ∧ Hid (NewOb W0 ob (Value.slice A2 R.1.length c2).ownBlock))
  case atStart => exact ⟨P0, A1, c1, Nat.le_refl _, rfl, rfl, rfl, Lib.hid (by rw [List.drop_length]; rfl), O1, G1, N1⟩
  case round =>
    obtain ⟨R, A2, c2, hgk, rfl, rfl, rfl, HR, HO, HG, HN⟩ := hrel
    have hbs := HG.out.size
    have HX := Lib.hid (X0.out.grow HG.out hne)
    have x3 := HX.out.cell (i := 3) rfl
    have hRl : R.1.length ≤ 905 := by rw [HR.out]; exact HQ.out gk
    by_cases hk : gk = 0
    · subst hk
      have HRf : Hid (testsG P0.1 P0.2 no ts = R) := Lib.hid HR.out.symm
      have HE := HRR2
      rw [HRf.out] at HE
      have x1 := HX.out.cell (i := 1) rfl
      have x2 := HX.out.cell (i := 2) rfl
      have hneg : ¬ (0 : Int) ≤ -1 := by omega
      by_cases he : lo = hi
      · subst he
        rw [if_pos rfl] at HE
        have HC := Lib.hid (fun W hO hb' => l4Look_m A2 c2 R.1 (numG 1 lo R.2 no) rfl base W hO hb' (by omega))
        generalize look R.1 (numG 1 lo R.2 no) = Q at *
        unfold numG at HC
        clear HRR2 HRf
        go_wp2_with fail
        refine (HC.out _ HO.out (by omega)).mono ?_
        rintro e w2 ⟨A3, c3, rfl, o2, g2, n2⟩
        have G2 := Lib.hid (G0.out.trans (gn_step HG.out g2 HN.out))
        have N2 := Lib.hid ((HN.out.step n2 hbs).less (w := w) (by omega))
        have O2 := Lib.hid o2
        clear o2 g2 n2
        go_wp2
        go_returns
        rw [HE.out]
        exact ⟨A3, c3, rfl, O2.out, G2.out, N2.out⟩
      · rw [if_neg he] at HE
        have hne1 : ((lo : Int) == hi) = false := by simpa using he
        by_cases hh : hi < 4294967295
        · rw [if_pos hh] at HE
          have HC := Lib.hid (fun W hO hb' => l4Look_m A2 c2 R.1 (numG 3 hi no R.2) rfl base W hO hb' (by omega))
          have hQl := look_len R.1 (numG 3 hi no R.2)
          obtain ⟨S, hS⟩ : ∃ S, S = look R.1 (numG 3 hi no R.2) := ⟨_, rfl⟩
          rw [← hS] at HE HC hQl
          unfold numG at HC
          clear hS
          go_wp2_with fail
          refine (HC.out _ HO.out (by omega)).mono ?_
          rintro e w2 ⟨A3, c3, rfl, o2, g2, n2⟩
          have G2 := Lib.hid (gn_step HG.out g2 HN.out)
          have N2 := Lib.hid (HN.out.step n2 hbs)
          have O2 := Lib.hid o2
          have hbs2 := G2.out.size
          have HX2 := Lib.hid (X0.out.grow G2.out hne)
          clear o2 g2 n2 HC x1 x2 x3
          have x1 := HX2.out.cell (i := 1) rfl
          by_cases hl : 0 < lo
          · have hl' : decide (0 < lo) = true := by simpa using hl
            rw [if_pos hl] at HE
            have HD := Lib.hid (fun W hO hb' => l4Look_m A3 c3 S.1 (numG 3 (lo - 1) S.2 no) rfl base W hO hb' (by omega))
            generalize look S.1 (numG 3 (lo - 1) S.2 no) = Q at *
            unfold numG at HD
            clear HRR2 HRf
            have hl0 : 1 ≤ lo := by omega
            go_wp2_with fail
            refine (HD.out _ O2.out (by omega)).mono ?_
            rintro e w3 ⟨A4, c4, rfl, o3, g3, n3⟩
            have G3 := Lib.hid (G0.out.trans (gn_step G2.out g3 N2.out))
            have N3 := Lib.hid ((N2.out.step n3 hbs2).less (w := w) (by omega))
            have O3 := Lib.hid o3
            clear o3 g3 n3
            go_wp2
            go_returns
            rw [HE.out]
            exact ⟨A4, c4, rfl, O3.out, G3.out, N3.out⟩
          · have hl' : decide (0 < lo) = false := by simpa using hl
            rw [if_neg hl] at HE
            clear HRR2 HRf
            go_wp2
            go_returns
            rw [HE.out]
            exact ⟨A3, c3, rfl, O2.out, G0.out.trans G2.out, N2.out.less (w := w) (by omega)⟩
        · rw [if_neg hh] at HE
          have hh' : decide (hi < 4294967295) = false := by simpa using hh
          by_cases hl : 0 < lo
          · have hl' : decide (0 < lo) = true := by simpa using hl
            rw [if_pos hl] at HE
            have HD := Lib.hid (fun W hO hb' => l4Look_m A2 c2 R.1 (numG 3 (lo - 1) R.2 no) rfl base W hO hb' (by omega))
            generalize look R.1 (numG 3 (lo - 1) R.2 no) = Q at *
            unfold numG at HD
            clear HRR2 HRf
            have hl0 : 1 ≤ lo := by omega
            go_wp2_with fail
            refine (HD.out _ HO.out (by omega)).mono ?_
            rintro e w3 ⟨A4, c4, rfl, o3, g3, n3⟩
            have G3 := Lib.hid (G0.out.trans (gn_step HG.out g3 HN.out))
            have N3 := Lib.hid ((HN.out.step n3 hbs).less (w := w) (by omega))
            have O3 := Lib.hid o3
            clear o3 g3 n3
            go_wp2
            go_returns
            rw [HE.out]
            exact ⟨A4, c4, rfl, O3.out, G3.out, N3.out⟩
          · have hl' : decide (0 < lo) = false := by simpa using hl
            rw [if_neg hl] at HE
            clear HRR2 HRf
            go_wp2
            go_returns
            rw [HE.out]
            exact ⟨A2, c2, rfl, HO.out, G0.out.trans HG.out, HN.out.less (w := w) (by omega)⟩
    · obtain ⟨m, rfl⟩ : ∃ m, gk = m + 1 := ⟨gk - 1, by omega⟩
      have T1 := T0.out.grown HG.out (by omega) HGE.out
      obtain ⟨b, off, t, rfl, hbb, ht, y0, y1, y2, y3⟩ := T1.tst (k := m) (by omega)
      have htb : tstB t = true := by
        have := HB6.out
        rw [List.all_eq_true] at this
        exact this t (List.mem_of_getElem? ht)
      have HT : Hid (testsG P0.1 P0.2 no (ts.drop m) = testG R.1 t R.2 no) := Lib.hid (by rw [drop_at ht, testsG, ← HR.out])
      have e1 : (((m + 1 : Nat) : Int) - 1) = (m : Int) := by omega
      rw [e1]
      have hm0 : (0 : Int) ≤ (m : Int) := by omega
      have HC := Lib.hid (fun W hO hb' => l4Test_c A2 c2 R.1 t htb R.2 no base W hO hb' (by omega))
      unfold tstV at HC
      clear ht htb T1 e1 HR
      go_wp2_with fail
      refine (HC.out _ HO.out (by omega)).mono ?_
      rintro e w2 ⟨A3, c3, rfl, o2, g2, n2⟩
      have G2 := Lib.hid (gn_step HG.out g2 HN.out)
      have N2 := Lib.hid (HN.out.step n2 hbs)
      have O2 := Lib.hid o2
      clear o2 g2 n2
      go_wp2
      go_roundg m
      case measure => omega
      case rel =>
        go_light
        exact ⟨_, A3, c3, by omega, by go_num, rfl, rfl, Lib.hid HT.out.symm, O2, G2, N2⟩
/-- The call returns points of its own, and a place. -/
def RetGr (E : Nat) (r : List Pt × Int) (w : World) (e : Ending) (w' : World) : Prop :=
  ∃ A c, e = .returned (.tuple #[.slice A r.1.length c, .int .i64 r.2]) ∧ w'.ownsRow w.heap.size E 7 (.slice A r.1.length c) r.1.length (pts r.1) ∧ Below w.heap.size w w'
theorem below_gn {w w1 w2 : World} {base : Nat} {ob : Option Nat} (h : Below base w w1) (g : w1.grownBy w2 ob) (hg : ∀ b, ob = some b → base ≤ b) (hb : base ≤ w.heap.size) : Below base w w2 := h.grown g (Nat.le_trans hb h.size) hg
set_option maxHeartbeats 1600000 in
set_option maxRecDepth 100000 in
theorem l4Make_c (A : Option Addr) (c : Nat) (rs : List Rl) (els : Int) (w : World) (hr : RdR w w.heap.size A rs.length rs) (hok : polOk ⟨rs, els⟩ = true) :
    Calls Try.prog 34 #[.agg #[.slice A rs.length c, .int .i64 els]] w (RetGr 29 (makeG els rs) w) := by
  have h8 := (polOk_all hok).1
  have he := polOk_els hok
  have hall := (polOk_all hok).2.1
  have hrd : ∀ k, (rs.drop k).all ruleB = true := fun k => by
    rw [List.all_eq_true] at hall ⊢
    exact fun r h => hall r (List.mem_of_mem_drop h)
  have HLN : Hid (∀ k, (makeG els (rs.drop k)).1.length ≤ 57) := Lib.hid (fun k => by
    have h1 := (make_put he (rs.drop k) (hrd k)).1.len
    have h2 : (rs.drop k).length ≤ 8 := by rw [List.length_drop]; omega
    simp at h1
    omega)
  have HALL := Lib.hid hall
  obtain ⟨W0, hW0⟩ : ∃ W0, W0 = w.alloc (.cells #[.slice A rs.length c, .int .i64 els] 55) := ⟨_, rfl⟩
  have hs0 : W0.heap.size = w.heap.size + 1 := by rw [hW0]; simp
  have B0 := Lib.hid (show Below w.heap.size w W0 from hW0 ▸ (Below.refl _ _).alloc (Nat.le_refl _) _)
  have X0 := Lib.hid (show Blk W0 w.heap.size 55 [.slice A rs.length c, .int .i64 els] from hW0 ▸ Blk.new w 55 [.slice A rs.length c, .int .i64 els])
  have R0 := Lib.hid (hr.upB B0.out (by omega))
  have O0 := Lib.hid (own_empty7 W0 29 (w.heap.size + 1) (w.heap.size + 1) 7 hs0 (Nat.le_refl _))
  have X1 := Lib.hid (X0.out.alloc (.cells #[] 29))
  have HW0 := Lib.hid hW0
  obtain ⟨RR, hRR⟩ : ∃ RR, RR = makeG els rs := ⟨_, rfl⟩
  rw [← hRR]
  have HRR := Lib.hid hRR
  have x10 := X1.out.cell (i := 0) rfl
  have x11 := X1.out.cell (i := 1) rfl
  clear hr hok hall hrd hW0 hRR he
  go_enter Try.func34, Try.ntmps34
  go_wp2_with fail
  rw [← HW0.out]
  refine (l4Leaf_m (some ⟨w.heap.size + 1, 0, none⟩) 0 [] els (w.heap.size + 1) _ O0.out (by simp; omega) (by simp)).mono ?_
  rintro e w1 ⟨A1, c1, rfl, o1, g1, n1⟩
  have hi1 : (ins ([] : List Pt) (leafP els), ((([] : List Pt).idxOf (leafP els) : Nat) : Int)) = makeG els (rs.drop rs.length) := by rw [List.drop_length]; rfl
  rw [hi1] at o1 n1 ⊢
  have hob : ∀ b, (Value.slice (some ⟨w.heap.size + 1, 0, none⟩) 0 0).ownBlock = some b → w.heap.size + 1 ≤ b := fun b hb => by
    simp [Value.ownBlock] at hb; omega
  have B1 : Hid (Below (w.heap.size + 1) W0 w1) := Lib.hid (by
    rw [← hs0]
    exact below_gn ((Below.refl _ _).alloc (Nat.le_refl _) _) g1 (by rw [hs0]; exact hob) (Nat.le_refl _))
  have O1 := Lib.hid o1
  have hbs1 := B1.out.size
  have X1 := Lib.hid (X0.out.below B1.out (by omega))
  have x10 := X1.out.cell (i := 0) rfl
  obtain ⟨P0, hP0⟩ : ∃ P0, P0 = makeG els (rs.drop rs.length) := ⟨_, rfl⟩
  rw [← hP0] at O1 ⊢
  have HP0 := Lib.hid hP0
  clear o1 g1 n1 hi1 hob hP0
  go_wp2_with fail
  go_loopg [4, 5, 6] rs.length (fun gk g at_ i wr => ∃ (R : List Pt × Int) (A2 : Option Addr) (c2 : Nat), gk ≤ rs.length ∧ i = .int .i64 ((gk : Int) - 1) ∧ g = .slice A2 R.1.length c2 ∧ at_ = .int .i64 R.2 ∧ Hid (R = makeG els (rs.drop gk)) ∧ Hid (wr.ownsRow (w.heap.size + 1) 29 7 (.slice A2 R.1.length c2) R.1.length (pts R.1)) ∧ Hid (Below (w.heap.size + 1) W0 wr))
  case atStart => exact ⟨P0, A1, c1, Nat.le_refl _, rfl, rfl, rfl, HP0, O1, B1⟩
  case round =>
    obtain ⟨R, A2, c2, hgk, rfl, rfl, rfl, HR, HO, HB⟩ := hrel
    have hbs := HB.out.size
    have HX := Lib.hid (X0.out.below HB.out (by omega))
    have x0 := HX.out.cell (i := 0) rfl
    have hRl : R.1.length ≤ 57 := by rw [HR.out]; exact HLN.out gk
    by_cases hk : gk = 0
    · subst hk
      have HE : Hid (RR = R) := Lib.hid (by rw [HRR.out, HR.out]; rfl)
      go_wp2
      go_returns
      rw [HE.out]
      exact ⟨A2, c2, rfl, own_base HO.out (by omega), B0.out.trans (HB.out.mono (by omega))⟩
    · obtain ⟨m, rfl⟩ : ∃ m, gk = m + 1 := ⟨gk - 1, by omega⟩
      have R1 := (R0.out.below (show Below W0.heap.size W0 wr by rw [hs0]; exact HB.out))
      obtain ⟨b, off, r, rfl, hbb, hr, hat⟩ := R1.rl (k := m) (by omega)
      have hrb : ruleB r = true := by
        have := HALL.out
        rw [List.all_eq_true] at this
        exact this r (List.mem_of_getElem? hr)
      have HT : Hid (makeG els (rs.drop m) = ruleG R.1 r R.2) := Lib.hid (by rw [drop_at hr, makeG, ← HR.out])
      obtain ⟨TA, tc, y0, y1, y2, y3, htt, htl⟩ := hat
      have e1 : (((m + 1 : Nat) : Int) - 1) = (m : Int) := by omega
      rw [e1]
      have hm0 : (0 : Int) ≤ (m : Int) := by omega
      have hob : ∀ b, (Value.slice A2 R.1.length c2).ownBlock = some b → w.heap.size + 1 ≤ b := own_ge HO.out
      have HOB := Lib.hid hob
      have HC := Lib.hid (l4Rule_c A2 c2 R.1 r TA tc hrb R.2 (w.heap.size + 1) wr HO.out (by omega) (by omega) (by rw [hs0] at htt; exact htt))
      clear hr hrb R1 e1 HR htt hob
      go_wp2_with fail
      refine HC.out.mono ?_
      rintro e w2 ⟨A3, c3, rfl, o2, g2, n2⟩
      have B2 := Lib.hid (below_gn HB.out g2 HOB.out (by omega))
      have O2 := Lib.hid o2
      clear o2 g2 n2 HOB
      go_wp2
      go_roundg m
      case measure => omega
      case rel =>
        go_light
        exact ⟨_, A3, c3, by omega, by go_num, rfl, rfl, Lib.hid HT.out.symm, O2, B2⟩
theorem makeG_lt {els : Int} (he : 1 ≤ els ∧ els ≤ 4) {rs : List Rl} (h : rs.all ruleB = true) (h8 : rs.length ≤ 8) : GOk (makeG els rs).1 ∧ 0 ≤ (makeG els rs).2 ∧ (makeG els rs).2 < (makeG els rs).1.length ∧ (makeG els rs).1.length ≤ 57 := by
  have p := (make_put he rs h).1
  have h1 := p.len
  have h2 := p.lo
  have h3 := p.hi
  simp at h1
  exact ⟨(graph_ok (p.gp.graph (by omega) (by omega))).1, h2, h3, by omega⟩
/-- The trimmed graph of a policy; nothing of one that is not ok. -/
def makeR (p : Pol) : List Pt := if polOk p = true then trimN (makeG p.els p.rs).1.length (makeG p.els p.rs).1 (makeG p.els p.rs).2.toNat else []
theorem specGraphMake_c (A : Option Addr) (c : Nat) (rs : List Rl) (els : Int) (w : World) (hr : RdR w w.heap.size A rs.length rs) (hn : rs.length ≤ 9223372036854775807) :
    Calls Try.prog 24 #[.agg #[.slice A rs.length c, .int .i64 els]] w (RetOwn 29 7 (makeR ⟨rs, els⟩).length (pts (makeR ⟨rs, els⟩)) w) := by
  have HK := Lib.hid (fun W h => specPolicyOk_c A rs.length c rs els W h hn)
  have HR := Lib.hid hr
  clear hr
  have HB := Lib.hid (Blk.new w 55 [.slice A rs.length c, .int .i64 els])
  by_cases hok : polOk ⟨rs, els⟩ = true
  · rw [hok] at HK
    have HE : Hid (makeR ⟨rs, els⟩ = trimN (makeG els rs).1.length (makeG els rs).1 (makeG els rs).2.toNat) := Lib.hid (by unfold makeR; rw [if_pos hok])
    rw [HE.out]
    obtain ⟨g0, g1, g2, g3⟩ := makeG_lt (polOk_els hok) (polOk_all hok).2.1 (polOk_all hok).1
    have HM := Lib.hid (fun W h => l4Make_c A c rs els W h hok)
    generalize makeG els rs = R at *
    obtain ⟨a, ha⟩ := Int.eq_ofNat_of_zero_le g1
    have HA := Lib.hid ha
    have HT := Lib.hid (fun B d W h => l4Trim_c R.1.length B R.1.length d R.1 R.2.toNat W h g0 (by omega) (by omega))
    rw [show ((R.2.toNat : Nat) : Int) = R.2 by omega] at HT
    clear hok g0 HE ha
    generalize trimN R.1.length R.1 R.2.toNat = Q at *
    go_enter Try.func24, Try.ntmps24
    (go_wp2_with fail); (go_at_call 33; refine (HK.out _ (HR.out.upB (by go_grown) (by go_size))).mono ?_; rintro e w1 ⟨rfl, b1⟩; obtain ⟨gc1, gf1⟩ := below_get b1; (try simp only [heap_drew, World.size_alloc, World.size_setCell] at gc1 gf1); have s1 := below_via (w := w) (by go_grown) b1; have H1 := s1; have hs1 := b1.size; (try simp at hs1); have z1_0 : w.heap.size < w1.heap.size := (by omega); clear b1)
    (go_wp2_with fail); (go_at_call 34; refine (HM.out _ ((HR.out.up s1).upB (by go_grown) (by go_size))).mono ?_; rintro e w2 ⟨A2, c2, rfl, o2, b2⟩; have R2 := Lib.hid (Rd.of_own o2); clear o2; obtain ⟨gc2, gf2⟩ := below_get b2; (try simp only [heap_drew, World.size_alloc, World.size_setCell] at gc2 gf2); have s2 := below_via (w := w1) (by go_grown) b2; have H2 := below_via H1 s2; have hs2 := b2.size; (try simp at hs2); have z2_0 : w.heap.size < w2.heap.size := (by omega); clear b2)
    (go_wp2_with fail); (go_at_call 17; refine (HT.out _ _ _ R2.out).mono ?_; rintro e w3 ⟨A3, c3, rfl, o3, b3⟩; have O3 := Lib.hid (own_base o3 H2.size); obtain ⟨gc3, gf3⟩ := below_get b3; (try simp only [heap_drew, World.size_alloc, World.size_setCell] at gc3 gf3); have s3 := below_via (w := w2) (by go_grown) b3; have H3 := below_via H2 s3; have hs3 := b3.size; (try simp at hs3); have z3_0 : w.heap.size < w3.heap.size := (by omega); clear b3; clear o3)
    go_wp2
    go_returns
    exact ⟨A3, c3, rfl, O3.out, by go_grown⟩
  · have hf : polOk ⟨rs, els⟩ = false := by simpa using hok
    rw [hf] at HK
    have HE : Hid (makeR ⟨rs, els⟩ = []) := Lib.hid (by unfold makeR; rw [if_neg hok])
    rw [HE.out]
    clear hok hf HE
    go_enter Try.func24, Try.ntmps24
    (go_wp2_with fail); (go_at_call 33; refine (HK.out _ (HR.out.upB (by go_grown) (by go_size))).mono ?_; rintro e w1 ⟨rfl, b1⟩; obtain ⟨gc1, gf1⟩ := below_get b1; (try simp only [heap_drew, World.size_alloc, World.size_setCell] at gc1 gf1); have s1 := below_via (w := w) (by go_grown) b1; have H1 := s1; have hs1 := b1.size; (try simp at hs1); have z1_0 : w.heap.size < w1.heap.size := (by omega); clear b1)
    go_wp2
    go_returns
    exact ⟨_, _, rfl, own_base (own_empty7 w1 29 w1.heap.size w1.heap.size 7 rfl (Nat.le_refl _)) H1.size, by go_grown⟩
end Go.Proofs.Ytljgaepgblakhaa
