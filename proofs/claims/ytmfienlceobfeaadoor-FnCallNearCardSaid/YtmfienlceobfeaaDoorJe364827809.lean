/- Drawn policies that are spoilt, or not. Conditions: each contract's own. -/
import Derived.Test.YtmfienlceobfeaaDoorJ5d716f00b3
import Derived.Test.YtmfienlceobfeaaDoorJe17d57b08f
import Derived.Test.YtmfienlceobfeaaDoorJ57ea5831c3
import Derived.Test.YtmfienlceobfeaaDoorJ088eb571f7
namespace Go.Proofs.YtmfienlceobfeaaDoor
set_option linter.unusedSimpArgs false
open Go.RowKit
set_option linter.unusedVariables false
set_option linter.unnecessarySimpa false
set_option maxRecDepth 20000
/-- A policy in memory of its own, from block B on, of at most K rules, or of nine. -/
def AnyPol (ER ET B K : Nat) (v : Value) (w : World) : Prop := ∃ (A : Option Addr) (n c : Nat) (qs : List (Rl × Value)) (e : Int), v = .agg #[.slice A n c, .int .i64 e] ∧ OP w B w.heap.size ER ET A n c qs ∧ (n ≤ K ∨ n = 9) ∧ ∀ q ∈ qs, q.1.ts.length ≤ 8
section
variable {w w1 : World} {lo hi hi' ER ET g n c k : Nat} {qs : List (Rl × Value)} {a q : Rl × Value}
theorem OP.putLo (h : OP w lo hi ER ET (some ⟨g, 0, none⟩) n c qs) (hE : ER ≠ ET) (hk : qs[k]? = some a) (v : Int) : OP (w.setCell ⟨g, k * 4 + 1, none⟩ (.int .i64 v)) lo hi ER ET (some ⟨g, 0, none⟩) n c (qs.set k (⟨a.1.v, v, a.1.hi, a.1.ts⟩, a.2)) := by
  refine h.cells (o := k * 4 + 1) (cs := [.int .i64 v]) hE ?_ fun x hx => ?_
  · rw [rcells_set hk]
    show (rcells qs).set (k * 4 + 1) (.int .i64 v) = ((((rcells qs).set (k * 4) (.int .i64 a.1.v)).set (k * 4 + 1) (.int .i64 v)).set (k * 4 + 1 + 1) (.int .i64 a.1.hi)).set (k * 4 + 1 + 1 + 1) a.2
    have r0 : (rcells qs)[k * 4]? = some (.int .i64 a.1.v) := rcells_at hk (j := 0) (by omega)
    have r2 := rcells_at hk (j := 2) (by omega)
    have r3 := rcells_at hk (j := 3) (by omega)
    rw [set_same (l := rcells qs) r0, set_same (l := (rcells qs).set (k * 4 + 1) (.int .i64 v)) (by rw [List.getElem?_set_ne (by omega)]; exact r2), set_same (l := (rcells qs).set (k * 4 + 1) (.int .i64 v)) (by rw [List.getElem?_set_ne (by omega)]; exact r3)]
  · rcases List.mem_or_eq_of_mem_set hx with hx | rfl
    · exact h.tst x hx
    · have := h.tst a (List.mem_of_getElem? hk)
      exact ⟨this.own, this.high⟩
theorem OP.putHi (h : OP w lo hi ER ET (some ⟨g, 0, none⟩) n c qs) (hE : ER ≠ ET) (hk : qs[k]? = some a) (v : Int) : OP (w.setCell ⟨g, k * 4 + 2, none⟩ (.int .i64 v)) lo hi ER ET (some ⟨g, 0, none⟩) n c (qs.set k (⟨a.1.v, a.1.lo, v, a.1.ts⟩, a.2)) := by
  refine h.cells (o := k * 4 + 2) (cs := [.int .i64 v]) hE ?_ fun x hx => ?_
  · rw [rcells_set hk]
    show (rcells qs).set (k * 4 + 2) (.int .i64 v) = ((((rcells qs).set (k * 4) (.int .i64 a.1.v)).set (k * 4 + 1) (.int .i64 a.1.lo)).set (k * 4 + 1 + 1) (.int .i64 v)).set (k * 4 + 1 + 1 + 1) a.2
    have r0 : (rcells qs)[k * 4]? = some (.int .i64 a.1.v) := rcells_at hk (j := 0) (by omega)
    have r1 := rcells_at hk (j := 1) (by omega)
    have r3 := rcells_at hk (j := 3) (by omega)
    rw [set_same (l := rcells qs) r0, set_same (l := rcells qs) r1, set_same (l := (rcells qs).set (k * 4 + 1 + 1) (.int .i64 v)) (by rw [List.getElem?_set_ne (by omega)]; exact r3)]
  · rcases List.mem_or_eq_of_mem_set hx with hx | rfl
    · exact h.tst x hx
    · have := h.tst a (List.mem_of_getElem? hk)
      exact ⟨this.own, this.high⟩
/-- A rule's tests put anew, behind an append onto them. -/
theorem OP.putTs (h : OP w lo hi ER ET (some ⟨g, 0, none⟩) n c qs) (hE : ER ≠ ET) (ha : Apart qs) (hk : qs[k]? = some q) (k1 : w.grownBy w1 q.2.ownBlock) {v : Value} {ts : List Tst} (o1 : w1.ownsRow lo ET 4 v ts.length (tsts ts)) (hh : hi ≤ hi') (h1 : w1.heap.size ≤ hi') :
    OP (w1.setCell ⟨g, k * 4 + 3, none⟩ v) lo hi' ER ET (some ⟨g, 0, none⟩) n c (qs.set k (⟨q.1.v, q.1.lo, q.1.hi, ts⟩, v)) := by
  have hkl := (List.getElem?_eq_some_iff.1 hk).1
  have hq := h.tst q (List.mem_of_getElem? hk)
  have hgo : (Value.slice (some ⟨g, 0, none⟩) n c).ownBlock = some g := rfl
  have hrow : w1.ownsRow lo ER 4 (.slice (some ⟨g, 0, none⟩) n c) n (rcells qs) := h.own.kept k1 (.inr (fun e => own_unlike h.own hq.own hE g hgo (by rw [← e]; rfl)))
  have hst := (hrow.stored (k * 4 + 3) v).1
  have hcells : rcells (qs.set k (⟨q.1.v, q.1.lo, q.1.hi, ts⟩, v)) = (rcells qs).set (k * 4 + 3) v := by
    rw [rcells_set hk]
    show ((((rcells qs).set (k * 4) (.int .i64 q.1.v)).set (k * 4 + 1) (.int .i64 q.1.lo)).set (k * 4 + 1 + 1) (.int .i64 q.1.hi)).set (k * 4 + 1 + 1 + 1) v = _
    have r0 : (rcells qs)[k * 4]? = some (.int .i64 q.1.v) := rcells_at hk (j := 0) (by omega)
    have r1 := rcells_at hk (j := 1) (by omega)
    have r2 := rcells_at hk (j := 2) (by omega)
    rw [set_same (l := rcells qs) r0, set_same (l := rcells qs) r1, set_same (l := rcells qs) r2]
  have far : ∀ {v' : Value} {m : Nat} {xs : List Value}, w1.ownsRow lo ET 4 v' m xs → (w1.setCell ⟨g, k * 4 + 3, none⟩ v).ownsRow lo ET 4 v' m xs := fun {v' m xs} ho =>
    ((Keep.refl w1 (fun t => t ≠ g)).set_ v (fun t ht _ e => ht e.symm)).own ho (fun t ht e => by
      subst e
      exact own_unlike hrow ho hE t hgo ht)
  refine ⟨by rw [hcells]; exact hst, fun b hb => ?_, fun x hx => ?_⟩
  · have := h.high b hb; omega
  · obtain ⟨j, hj, rfl⟩ := List.getElem_of_mem hx
    by_cases hjk : j = k
    · subst hjk
      rw [List.getElem_set_self]
      exact ⟨far o1, fun b hb => by have := (o1.lt b hb).2; omega⟩
    · rw [List.length_set] at hj
      rw [List.getElem_set_ne (Ne.symm hjk)]
      have hxj : qs[j]? = some qs[j] := List.getElem?_eq_getElem hj
      have hx' := h.tst qs[j] (List.getElem_mem hj)
      refine ⟨far (hx'.own.kept k1 ?_), fun b hb => by have := hx'.high b hb; omega⟩
      rcases Nat.lt_or_gt_of_ne hjk with hlt | hgt
      · exact (ha j k _ _ hlt hxj hk)
      · rcases ha k j _ _ hgt hk hxj with h0 | h0
        · by_cases hn : (qs[j]).2.ownBlock = none
          · exact .inl hn
          · exact .inr (by rw [h0]; exact hn)
        · exact .inr (Ne.symm h0)
theorem OP.four (h : OP w lo hi ER ET (some ⟨g, 0, none⟩) n c qs) (hk : qs[k]? = some q) : w.cell? ⟨g, k * 4, none⟩ = some (.int .i64 q.1.v) ∧ w.cell? ⟨g, k * 4 + 1, none⟩ = some (.int .i64 q.1.lo) ∧ w.cell? ⟨g, k * 4 + 2, none⟩ = some (.int .i64 q.1.hi) ∧ w.cell? ⟨g, k * 4 + 3, none⟩ = some q.2 ∧ ∀ j, w.frozen? ⟨g, j, none⟩ = false := by
  have cell : ∀ i u, i < 4 → (qcells q)[i]? = some u → w.cell? ⟨g, k * 4 + i, none⟩ = some u := fun i u hi hu => by
    have := h.own.cells (g := g) rfl (k * 4 + i) u (by rw [rcells_at hk hi]; exact hu)
    rw [add_zero_block] at this
    exact this
  have hcap : ∃ cap, (Value.slice (some ⟨g, 0, none⟩) n c) = .slice (some ⟨g, 0, none⟩) n cap := ⟨_, rfl⟩
  refine ⟨cell 0 _ (by omega) rfl, cell 1 _ (by omega) rfl, cell 2 _ (by omega) rfl, cell 3 _ (by omega) rfl, fun j => ?_⟩
  exact h.own.frozenAt j
theorem OP.fourApp (h : OP w lo hi ER ET (some ⟨g, 0, none⟩) n c qs) (hE : ER ≠ ET) (hk : qs[k]? = some q) (k1 : w.grownBy w1 q.2.ownBlock) : w1.cell? ⟨g, k * 4 + 3, none⟩ = some q.2 ∧ ∀ j, w1.frozen? ⟨g, j, none⟩ = false := by
  have hq := h.tst q (List.mem_of_getElem? hk)
  have hgo : (Value.slice (some ⟨g, 0, none⟩) n c).ownBlock = some g := rfl
  have hrow : w1.ownsRow lo ER 4 (.slice (some ⟨g, 0, none⟩) n c) n (rcells qs) := h.own.kept k1 (.inr (fun e => own_unlike h.own hq.own hE g hgo (by rw [← e]; rfl)))
  have := hrow.cells (g := g) rfl (k * 4 + 3) q.2 (by rw [rcells_at hk (by omega)]; rfl)
  rw [add_zero_block] at this
  exact ⟨this, fun j => hrow.frozenAt j⟩
theorem tsts_app (a b : List Tst) : tsts (a ++ b) = tsts a ++ tsts b := by simp [tsts]
theorem ls_set {L : Nat} (h : ∀ q ∈ qs, q.1.ts.length ≤ L) (hq : q.1.ts.length ≤ L) : ∀ x ∈ qs.set k q, x.1.ts.length ≤ L := by
  intro x hx
  rcases List.mem_or_eq_of_mem_set hx with hx | rfl
  · exact h x hx
  · exact hq
end
theorem own_notB {w : World} {base e size n c g T : Nat} {xs cs : List Value} (h : w.ownsRow base e size (.slice (some ⟨g, 0, none⟩) n c) n xs) (hX : Blk w g T cs) (hT : e ≠ T) : False := by
  rcases h.2 with ⟨h1, _⟩ | ⟨g1, c1, cur1, hv, _, hh1, _⟩
  · cases h1
  · have e1 : g = g1 := by injection hv with hv; injection hv with hv; injection hv
    subst e1
    have h2 := hX
    unfold Blk at h2
    rw [hh1] at h2
    injection h2 with h2
    injection h2 with _ e3 _
    exact hT e3
theorem ls_of {qs : List (Rl × Value)} {rs : List Rl} {L : Nat} (e : rls qs = rs) (h : ∀ r ∈ rs, r.ts.length ≤ L) : ∀ q ∈ qs, q.1.ts.length ≤ L := fun q hq => h q.1 (by rw [← e]; exact List.mem_map_of_mem hq)
theorem ls_more {qs : List (Rl × Value)} {L L' : Nat} (h : ∀ q ∈ qs, q.1.ts.length ≤ L) (hL : L ≤ L') : ∀ q ∈ qs, q.1.ts.length ≤ L' := fun q hq => Nat.le_trans (h q hq) hL
set_option maxHeartbeats 4000000 in
set_option maxRecDepth 100000 in
theorem spoil_c (g : Nat) (p : Int) (A : Option Addr) (n c : Nat) (xs : List Int) (PA : Option Addr) (pn pc : Nat) (rs : List Rl) (e : Int) (w : World) (h : Dr w g 56 p A n c xs) (hp : p ≤ 1099511590000) (hr : RdR w w.heap.size PA pn rs) (hn : pn ≤ 8) (hts : ∀ r ∈ rs, r.ts.length ≤ 4) :
    Calls Tryd.prog 14 #[.pointer (some ⟨g, 0, none⟩), .agg #[.slice PA pn pc, .int .i64 e]] w (RetDraw (AnyPol 37 52 w.heap.size pn) g 56 p 100 A n c xs w) := by
  obtain ⟨i0, hi0, hz0, hz1, hz2⟩ := info_parts info_rule
  obtain ⟨j0, hj0, hy0, hy1, hy2⟩ := info_parts info_test4
  have hlow := h.low
  have hgl := h.blk.lt
  have D0 := Lib.hid h
  have HR := Lib.hid hr
  have HT := Lib.hid hts
  have hl := hr.1
  subst hl
  have hB2 := blk_two w 25 25 [.slice PA rs.length pc, .int .i64 e] [.slice none 0 0, .int .i64 0]
  have HB2 := Lib.hid hB2.2
  clear h hr hts hB2
  go_enter Tryd.func14, Tryd.ntmps14
  (go_wp2_with fail); (go_at_call 24; refine (l2Copy_c PA rs.length pc rs e _ (HR.out.upB (by go_grown) (by go_size)) (by omega) (fun r h => by have := HT.out r h; omega)).mono ?_; rintro e w1 ⟨A1, c1, qs, rfl, e1, o1, p1, b1⟩; have B1 := Lib.hid (HB2.out.up b1); simp only [World.size_alloc] at o1; have O1 := Lib.hid o1; have P1 := Lib.hid p1; have LS := Lib.hid (ls_of e1 HT.out); have D1 := Lib.hid ((D0.out.upto (by go_grown)).upto b1); have H1 := Lib.hid (below_via (w := w) (by go_grown) b1); have hs1 := b1.size; simp at hs1; clear b1 o1 p1 e1 HB2)
  have G1 : Hid (w.grownBy w1 (some g)) := Lib.hid (gr_grown (gr_refl w g) (row := none) ⟨H1.out.os, H1.out.tape, H1.out.output, H1.out.size, fun i hi _ => H1.out.block i hi⟩ (fun b e => by cases e))
  have hX := Lib.hid (Blk.new w1 25 [.slice A1 rs.length c1, .int .i64 e])
  have n1 : w.heap.size + 1 ≠ w1.heap.size := by omega
  go_upto_region 2 with (fail)
  go_cut [17] (fun v17 wx => ∃ (b : Bool) (q : Int), v17 = .bool b ∧ (b = false → 0 < rs.length) ∧ Hid (Blk wx (w.heap.size + 1) 25 [.slice none 0 0, .int .i64 0]) ∧ Hid (Blk wx w1.heap.size 25 [.slice A1 rs.length c1, .int .i64 e]) ∧ Hid (OP wx (w.heap.size + 1 + 1) w1.heap.size 37 52 A1 rs.length c1 qs) ∧ Hid (Dr wx g 56 q A n c xs) ∧ p ≤ q ∧ q ≤ p + 1 ∧ Hid (w.grownBy wx (some g)) ∧ w1.heap.size < wx.heap.size)
  case first =>
    by_cases hz : rs.length = 0
    · have hz' : ((rs.length : Int) == 0) = true := by rw [hz]; rfl
      clear hz
      go_wp2_with fail
      go_meet
      exact ⟨true, p, rfl, (fun h => by cases h), B1.out.alloc _, hX, O1.out.up (by go_grown), D1.out.upto (by go_grown), by omega, by omega, gr_alloc G1.out _, by simp⟩
    · have hz' : ((rs.length : Int) == 0) = false := by rw [beq_eq_false_iff_ne]; omega
      have hz0 : 0 < rs.length := by omega
      clear hz
      (go_wp2_with fail); (go_at_call 13; refine (pick_c g _ _ A n c xs _ (D1.out.upto (by go_grown)) (by omega)).mono ?_; rintro e w2 ⟨_, q2, rfl, ⟨x2, rfl, l2, u2⟩, d2, e2, f2, g2⟩; have B2 := Lib.hid ((B1.out.alloc _).other g2 (by simp; omega)); have X2 := Lib.hid (hX.out.other g2 (by simp; omega)); have O2 := Lib.hid ((O1.out.up (by go_grown)).gr g2 (by omega)); have D2 := Lib.hid d2; have G2 := Lib.hid (gr_via (gr_alloc G1.out _) g2); have hs2 := g2.size; simp at hs2; clear g2 d2 u2)
      go_wp2_with fail
      all_goals
        go_meet
        exact ⟨_, q2, rfl, (fun _ => hz0), B2, X2, O2, D2, by omega, by omega, G2, by omega⟩
  case rest =>
    obtain ⟨b, q, rfl, hb, HB, HX, HO, HD, hq1, hq2, HG, hzc⟩ := hcut
    have hd0 := HD.out.low
    clear B1 hX O1 D1 G1
    cases b with
    | true =>
      clear hb
      go_wp2_with fail
      have hE := Lib.hid (Blk.new wc 3 (ints [0, 5]))
      go_at_call 13
      refine (pick_c g _ _ A n c xs _ (HD.out.upto (by go_grown)) (by omega)).mono ?_
      rintro e3 w3 ⟨_, q3, rfl, ⟨x3, rfl, l3, u3⟩, d3, e3, f3, g3⟩
      have B3 := Lib.hid ((HB.out.alloc _).other g3 (by simp; omega))
      have X3 := Lib.hid ((HX.out.alloc _).other g3 (by simp; omega))
      have E3 := Lib.hid (hE.out.other g3 (by simp; omega))
      have O3 := Lib.hid ((HO.out.up (by go_grown)).gr g3 (by omega))
      have hs3 := g3.size
      simp at hs3
      have G3 := Lib.hid (gr_via (gr_alloc HG.out _) g3)
      have D3 := Lib.hid d3
      have v3 := u3 (by omega)
      clear d3 g3 u3 hE
      obtain ⟨y, hy⟩ := lit_at [0, 5] x3 l3 (by simp; omega)
      have ey := E3.out.cell hy
      clear hy
      have x0 := X3.out.cell (i := 0) rfl
      have x1' := X3.out.cell (i := 1) rfl
      have xf := X3.out.free
      have b0 := B3.out.cell (i := 0) rfl
      have b1 := B3.out.cell (i := 1) rfl
      have bf := B3.out.free
      have n1' : w1.heap.size ≠ w.heap.size + 1 := Ne.symm n1
      go_wp2
      refine bodyPost_ret (v := .agg #[.slice A1 rs.length c1, .int .i64 y]) (by simp [results, Tryd.results14, go_sem, b0, b1, n1, n1']) rfl ?_
      go_light
      exact ⟨_, q3, rfl, ⟨A1, rs.length, c1, qs, y, rfl, ((((O3.out.set_ (g := w1.heap.size) (o := 1) (.inr (Nat.le_refl _)) _).set_ (g := w.heap.size + 1) (o := 0) (.inl (by omega)) _).set_ (g := w.heap.size + 1) (o := 1) (.inl (by omega)) _).wide (by omega) (by simp; omega)), .inl (Nat.le_refl _), ls_more LS.out (by omega)⟩, ((D3.out.far (by simp; omega) _).far (by simp; omega) _).far (by simp; omega) _, by omega, by omega, gr_set (gr_set (gr_set G3.out (.inr (by simp; omega)) _) (.inr (by simp)) _) (.inr (by simp)) _⟩
    | false =>
      have hpos := hb rfl
      clear hb
      have x0 := HX.out.cell (i := 0) rfl
      (go_wp2_with fail); (go_at_call 13; refine (pick_c g _ _ A n c xs _ HD.out (by omega)).mono ?_; rintro e w3 ⟨_, q3, rfl, ⟨x3, rfl, l3, u3⟩, d3, e3, f3, g3⟩; have B3 := Lib.hid (HB.out.other g3 (by simp; omega)); have X3 := Lib.hid (HX.out.other g3 (by simp; omega)); have O3 := Lib.hid (HO.out.gr g3 (by omega)); have D3 := Lib.hid d3; have G3 := Lib.hid (gr_via HG.out g3); have hs3 := g3.size; have v3 := u3 (by omega); clear d3 g3 u3 x0 HB HX HO HD HG)
      obtain ⟨k, rfl⟩ := Int.eq_ofNat_of_zero_le l3
      (go_wp2_with fail); (go_at_call 13; refine (pick_c g _ _ A n c xs _ D3.out (by omega)).mono ?_; rintro e w4 ⟨_, q4, rfl, ⟨x4, rfl, l4, u4⟩, d4, e4, f4, g4⟩; have B4 := Lib.hid (B3.out.other g4 (by simp; omega)); have X4 := Lib.hid (X3.out.other g4 (by simp; omega)); have O4 := Lib.hid (O3.out.gr g4 (by omega)); have D4 := Lib.hid d4; have G4 := Lib.hid (gr_via G3.out g4); have hs4 := g4.size; have v4 := u4 (by omega); clear d4 g4 u4 B3 X3 O3 D3 G3)
      go_upto_block 0 with (fail)
      go_cut [46, 58, 72, 84] (fun v46 v58 v72 v84 wx => ∃ (A' : Option Addr) (n' c' : Nat) (qs' : List (Rl × Value)) (q : Int), Hid (Blk wx (w.heap.size + 1) 25 [.slice none 0 0, .int .i64 0]) ∧ Hid (Blk wx w1.heap.size 25 [.slice A' n' c', .int .i64 e]) ∧ Hid (OP wx (w.heap.size + 1 + 1) wx.heap.size 37 52 A' n' c' qs') ∧ (n' = rs.length ∨ n' = 9) ∧ Hid (∀ q ∈ qs', q.1.ts.length ≤ 8) ∧
        Hid (Dr wx g 56 q A n c xs) ∧ q4 ≤ q ∧ q ≤ q4 + 60 ∧ Hid (w.grownBy wx (some g)))
      case first =>
        obtain ⟨gr, q0, TA, tc, rfl, hlo, hhi, hgs, hq0, htv, c0, c1', c2', c3', cf, htl⟩ := O4.out.at_ (k := k) (by omega)
        have HQ := Lib.hid hq0
        have HTV := Lib.hid htv
        have x0 := X4.out.cell (i := 0) rfl
        have hk0 : (0 : Int) ≤ (k : Int) := by omega
        have zx : w1.heap.size < w4.heap.size := by omega
        have zx' : w1.heap.size ≠ w4.heap.size := by omega
        have zg : gr < w4.heap.size := by omega
        have zg' : gr ≠ w4.heap.size := by omega
        have hls0 := ls_more LS.out (show 4 ≤ 8 by omega) q0 (List.mem_of_getElem? hq0)
        clear hq0 htv
        by_cases h0 : x4 = 0
        · subst h0
          clear c0 c1' c2' c3' cf x0
          have x0 := X4.out.cell (i := 0) rfl
          go_wp2
          refine wp_region_held_drew (S := (fun w' => w'.cell? ⟨w1.heap.size, 0, none⟩ = some (.slice (some ⟨gr, 0, none⟩) rs.length c1))) (by kernel_rfl) ?_ (fun hHeld => ?_)
          · ((try dsimp only); (simp [go_sem, *]))
          refine wpAnyH_take (i := 0) (oi := _) (v := ?_) rfl (by kernel_rfl) (by kernel_rfl) (by kernel_rfl) (fun _ _ _ h => h) (Or.inl ⟨by rfl, ?_⟩) (by assumption) ?_
          rotate_left
          · (intro w hSw; (try dsimp only at hSw); go_simp; (try with_reducible rfl))
          (try simp only [Act.put, List.setIfInBounds_toArray, List.set_cons_zero, List.set_cons_succ])
          refine wpAnyH_take (i := 1) (oi := _) (v := ?_) rfl (by kernel_rfl) (by kernel_rfl) (by kernel_rfl) (fun _ _ _ h => h) (Or.inl ⟨by rfl, ?_⟩) (by assumption) ?_
          rotate_left
          · (intro w hSw; (try dsimp only at hSw); go_simp; (try with_reducible rfl))
          (try simp only [Act.put, List.setIfInBounds_toArray, List.set_cons_zero, List.set_cons_succ])
          refine wpAnyH_take (i := 2) (oi := _) (v := ?_) rfl (by kernel_rfl) (by kernel_rfl) (by kernel_rfl) (fun _ _ _ h => h) (Or.inl ⟨by rfl, ?_⟩) (by assumption) ?_
          rotate_left
          · (intro w hSw; (try dsimp only at hSw); go_simp; (try with_reducible rfl))
          (try simp only [Act.put, List.setIfInBounds_toArray, List.set_cons_zero, List.set_cons_succ])
          refine wpAnyH_take (i := 4) (oi := _) (v := ?_) rfl (by kernel_rfl) (by kernel_rfl) (by kernel_rfl) (fun _ _ _ h => h) (Or.inl ⟨by rfl, ?_⟩) (by assumption) ?_
          rotate_left
          · (intro w hSw; (try dsimp only at hSw); go_simp; (try with_reducible rfl))
          (try simp only [Act.put, List.setIfInBounds_toArray, List.set_cons_zero, List.set_cons_succ])
          refine wpAnyH_ready (rs := [3, 5]) (by kernel_rfl) (by simp) ?_
          refine AllReadyH.cons (o := _) rfl (fun K hK => ?_) ?_
          · go_simp
            refine hK.out _ _ ?_ (fun hHeld => ?_)
            · ((try dsimp only); (simp [go_sem, *]))
            clear hK K
            (try simp only [Act.put, List.setIfInBounds_toArray, List.set_cons_zero, List.set_cons_succ])
            refine wpAnyH_ready (rs := [5]) (by kernel_rfl) (by simp) ?_
            refine AllReadyH.cons (o := _) rfl (fun K hK => ?_) AllReadyH.nil
            go_simp
            ((go_at_call 13; refine (pick_c g _ _ A n c xs _ (D4.out.upto (by go_grown)) (by omega)).mono ?_; rintro e w5 ⟨_, q5, rfl, ⟨x5, rfl, l5, u5⟩, d5, e5, f5, g5⟩; have B5 := Lib.hid ((B4.out.upto2 (by go_grown)).other g5 (by simp; omega)); have X5 := Lib.hid ((X4.out.upto2 (by go_grown)).other g5 (by simp; omega)); have O5 := Lib.hid ((O4.out.up (by go_grown)).gr g5 (by omega)); have v5 := u5 (by omega); obtain ⟨y, hy⟩ := lit_at [0, 5] x5 l5 (by simp; omega); have hget : ∀ hi : x5.toNat < [Value.int .i64 0, .int .i64 5].length, [Value.int .i64 0, .int .i64 5][x5.toNat]'hi = .int .i64 y := lit_get hy; (first | (have e5c := ((Blk.new w4 3 (ints [0, 5])).drew.other g5 (by simp; omega)).cell hy) | skip); clear hy; have hs5 := g5.size; (try simp at hs5); have G5 := Lib.hid (gr_via (w := w) (by (repeat' (first | exact gr_refl _ _ | (with_reducible assumption) | exact Hid.out (by assumption) | refine gr_drew ?_ | refine gr_drewN ?_ _ | refine gr_alloc ?_ _ | refine gr_set ?_ ?_ _ | omega | (simp; omega)))) g5); have D5 := Lib.hid d5; clear d5 g5; have x50 := X5.out.cell (i := 0) rfl; have zr : gr ≠ w5.heap.size := (by omega); have zr' : gr < w5.heap.size := (by omega); have zs : w1.heap.size ≠ w5.heap.size := (by omega); have zs' : w1.heap.size < w5.heap.size := (by omega); obtain ⟨k0, k1, k2, k3, kf⟩ := O5.out.four HQ.out))
            (try go_wp2_with fail)
            refine hK.out _ _ ?_ (fun hHeld => ?_)
            · ((try dsimp only); (simp [go_sem, *]))
            clear hK K
            (try simp only [Act.put, List.setIfInBounds_toArray, List.set_cons_zero, List.set_cons_succ])
            refine wpAnyH_take (i := 6) (oi := _) (v := ?_) rfl (by kernel_rfl) (by kernel_rfl) (by kernel_rfl) (fun _ _ _ h => h) (Or.inl ⟨by rfl, ?_⟩) (by assumption) ?_
            rotate_left
            · (intro w hSw; (try dsimp only at hSw); go_simp; (try with_reducible rfl))
            (try simp only [Act.put, List.setIfInBounds_toArray, List.set_cons_zero, List.set_cons_succ])
            refine wpAnyH_ready (rs := [7]) (by kernel_rfl) (by simp) ?_
            refine AllReadyH.cons (o := _) rfl (fun K hK => ?_) AllReadyH.nil
            go_simp
            refine hK.out _ _ ?_ (fun hHeld => ?_)
            · ((try dsimp only); (simp [go_sem, *]))
            clear hK K
            (try simp only [Act.put, List.setIfInBounds_toArray, List.set_cons_zero, List.set_cons_succ])
            refine wpAnyH_take (i := 8) (oi := _) (v := ?_) rfl (by kernel_rfl) (by kernel_rfl) (by kernel_rfl) (fun _ _ _ h => h) (Or.inl ⟨by rfl, ?_⟩) (by assumption) ?_
            rotate_left
            · (intro w hSw; (try dsimp only at hSw); go_simp; (try with_reducible rfl))
            (try simp only [Act.put, List.setIfInBounds_toArray, List.set_cons_zero, List.set_cons_succ])
            refine wpAnyH_take (i := 9) (oi := _) (v := ?_) rfl (by kernel_rfl) (by kernel_rfl) (by kernel_rfl) (fun _ _ _ h => h) (Or.inl ⟨by rfl, ?_⟩) (by assumption) ?_
            rotate_left
            · (intro w hSw; (try dsimp only at hSw); go_simp; (try with_reducible rfl))
            (try simp only [Act.put, List.setIfInBounds_toArray, List.set_cons_zero, List.set_cons_succ])
            refine wpAnyH_ready (rs := [10]) (by kernel_rfl) (by simp) ?_
            refine AllReadyH.cons (o := _) rfl (fun K hK => ?_) AllReadyH.nil
            go_simp
            refine hK.out _ _ ?_ (fun hHeld => ?_)
            · ((try dsimp only); (simp [go_sem, *]))
            clear hK K
            (try simp only [Act.put, List.setIfInBounds_toArray, List.set_cons_zero, List.set_cons_succ])
            refine wpAnyH_done (by kernel_rfl) ?_ _
            (go_wp2_with fail; go_meet; (first | exact ⟨_, _, _, _, q5, B5.out.far (by simp; omega) _, X5.out.far (by simp; omega) _, ((O5.out.put1 (by decide) HQ.out y).wide (Nat.le_refl _) (by simp; omega)), .inl rfl, ls_set (ls_more LS.out (by omega)) hls0, D5.out.far (by simp; omega) _, by omega, by omega, gr_set G5.out (.inr (by simp; omega)) _⟩ | exact ⟨_, _, _, _, q5, (B5.out.far (by simp; omega) _).alloc _, (X5.out.far (by simp; omega) _).alloc _, (((O5.out.put1 (by decide) HQ.out y).up (Below.alloc (Below.refl _ _) (Nat.le_refl _) _)).wide (Nat.le_refl _) (by simp; omega)), .inl rfl, ls_set (ls_more LS.out (by omega)) hls0, (D5.out.far (by simp; omega) _).upto (Below.alloc (Below.refl _ _) (Nat.le_refl _) _), by omega, by omega, gr_alloc (gr_set G5.out (.inr (by simp; omega)) _) _⟩))
          refine AllReadyH.cons (o := _) rfl (fun K hK => ?_) ?_
          · go_simp
            ((go_at_call 13; refine (pick_c g _ _ A n c xs _ (D4.out.upto (by go_grown)) (by omega)).mono ?_; rintro e w5 ⟨_, q5, rfl, ⟨x5, rfl, l5, u5⟩, d5, e5, f5, g5⟩; have B5 := Lib.hid ((B4.out.upto2 (by go_grown)).other g5 (by simp; omega)); have X5 := Lib.hid ((X4.out.upto2 (by go_grown)).other g5 (by simp; omega)); have O5 := Lib.hid ((O4.out.up (by go_grown)).gr g5 (by omega)); have v5 := u5 (by omega); obtain ⟨y, hy⟩ := lit_at [0, 5] x5 l5 (by simp; omega); have hget : ∀ hi : x5.toNat < [Value.int .i64 0, .int .i64 5].length, [Value.int .i64 0, .int .i64 5][x5.toNat]'hi = .int .i64 y := lit_get hy; (first | (have e5c := ((Blk.new w4 3 (ints [0, 5])).drew.other g5 (by simp; omega)).cell hy) | skip); clear hy; have hs5 := g5.size; (try simp at hs5); have G5 := Lib.hid (gr_via (w := w) (by (repeat' (first | exact gr_refl _ _ | (with_reducible assumption) | exact Hid.out (by assumption) | refine gr_drew ?_ | refine gr_drewN ?_ _ | refine gr_alloc ?_ _ | refine gr_set ?_ ?_ _ | omega | (simp; omega)))) g5); have D5 := Lib.hid d5; clear d5 g5; have x50 := X5.out.cell (i := 0) rfl; have zr : gr ≠ w5.heap.size := (by omega); have zr' : gr < w5.heap.size := (by omega); have zs : w1.heap.size ≠ w5.heap.size := (by omega); have zs' : w1.heap.size < w5.heap.size := (by omega); obtain ⟨k0, k1, k2, k3, kf⟩ := O5.out.four HQ.out))
            (try go_wp2_with fail)
            refine hK.out _ _ ?_ (fun hHeld => ?_)
            · ((try dsimp only); (simp [go_sem, *]))
            clear hK K
            (try simp only [Act.put, List.setIfInBounds_toArray, List.set_cons_zero, List.set_cons_succ])
            refine wpAnyH_ready (rs := [3]) (by kernel_rfl) (by simp) ?_
            refine AllReadyH.cons (o := _) rfl (fun K hK => ?_) AllReadyH.nil
            go_simp
            refine hK.out _ _ ?_ (fun hHeld => ?_)
            · ((try dsimp only); (simp [go_sem, *]))
            clear hK K
            (try simp only [Act.put, List.setIfInBounds_toArray, List.set_cons_zero, List.set_cons_succ])
            refine wpAnyH_take (i := 6) (oi := _) (v := ?_) rfl (by kernel_rfl) (by kernel_rfl) (by kernel_rfl) (fun _ _ _ h => h) (Or.inl ⟨by rfl, ?_⟩) (by assumption) ?_
            rotate_left
            · (intro w hSw; (try dsimp only at hSw); go_simp; (try with_reducible rfl))
            (try simp only [Act.put, List.setIfInBounds_toArray, List.set_cons_zero, List.set_cons_succ])
            refine wpAnyH_ready (rs := [7]) (by kernel_rfl) (by simp) ?_
            refine AllReadyH.cons (o := _) rfl (fun K hK => ?_) AllReadyH.nil
            go_simp
            refine hK.out _ _ ?_ (fun hHeld => ?_)
            · ((try dsimp only); (simp [go_sem, *]))
            clear hK K
            (try simp only [Act.put, List.setIfInBounds_toArray, List.set_cons_zero, List.set_cons_succ])
            refine wpAnyH_take (i := 8) (oi := _) (v := ?_) rfl (by kernel_rfl) (by kernel_rfl) (by kernel_rfl) (fun _ _ _ h => h) (Or.inl ⟨by rfl, ?_⟩) (by assumption) ?_
            rotate_left
            · (intro w hSw; (try dsimp only at hSw); go_simp; (try with_reducible rfl))
            (try simp only [Act.put, List.setIfInBounds_toArray, List.set_cons_zero, List.set_cons_succ])
            refine wpAnyH_take (i := 9) (oi := _) (v := ?_) rfl (by kernel_rfl) (by kernel_rfl) (by kernel_rfl) (fun _ _ _ h => h) (Or.inl ⟨by rfl, ?_⟩) (by assumption) ?_
            rotate_left
            · (intro w hSw; (try dsimp only at hSw); go_simp; (try with_reducible rfl))
            (try simp only [Act.put, List.setIfInBounds_toArray, List.set_cons_zero, List.set_cons_succ])
            refine wpAnyH_ready (rs := [10]) (by kernel_rfl) (by simp) ?_
            refine AllReadyH.cons (o := _) rfl (fun K hK => ?_) AllReadyH.nil
            go_simp
            refine hK.out _ _ ?_ (fun hHeld => ?_)
            · ((try dsimp only); (simp [go_sem, *]))
            clear hK K
            (try simp only [Act.put, List.setIfInBounds_toArray, List.set_cons_zero, List.set_cons_succ])
            refine wpAnyH_done (by kernel_rfl) ?_ _
            (go_wp2_with fail; go_meet; (first | exact ⟨_, _, _, _, q5, B5.out.far (by simp; omega) _, X5.out.far (by simp; omega) _, ((O5.out.put1 (by decide) HQ.out y).wide (Nat.le_refl _) (by simp; omega)), .inl rfl, ls_set (ls_more LS.out (by omega)) hls0, D5.out.far (by simp; omega) _, by omega, by omega, gr_set G5.out (.inr (by simp; omega)) _⟩ | exact ⟨_, _, _, _, q5, (B5.out.far (by simp; omega) _).alloc _, (X5.out.far (by simp; omega) _).alloc _, (((O5.out.put1 (by decide) HQ.out y).up (Below.alloc (Below.refl _ _) (Nat.le_refl _) _)).wide (Nat.le_refl _) (by simp; omega)), .inl rfl, ls_set (ls_more LS.out (by omega)) hls0, (D5.out.far (by simp; omega) _).upto (Below.alloc (Below.refl _ _) (Nat.le_refl _) _), by omega, by omega, gr_alloc (gr_set G5.out (.inr (by simp; omega)) _) _⟩))
          exact AllReadyH.nil
        have k0' : (x4 == 0) = false := by simpa using h0
        by_cases h1 : x4 = 1
        · subst h1
          go_wp2
          go_region
          all_goals
            go_wp2_with fail
            go_meet
            exact ⟨_, _, _, _, q4, B4.out.drew.far (by simp; omega) _, X4.out.drew.far (by simp; omega) _, ((O4.out.drew.putHi (by decide) HQ.out _).wide (Nat.le_refl _) (by simp; omega)), .inl rfl, ls_set (ls_more LS.out (by omega)) hls0, (D4.out.drewN 1).far (by simp; omega) _, by omega, by omega, gr_set (gr_drew G4.out) (.inr (by simp; omega)) _⟩
        have k1' : (x4 == 1) = false := by simpa using h1
        by_cases h2 : x4 = 2
        · subst h2
          clear c0 c1' c2' c3' cf x0
          have x0 := X4.out.cell (i := 0) rfl
          go_wp2
          refine wp_region_held_drew (S := (fun w' => w'.cell? ⟨w1.heap.size, 0, none⟩ = some (.slice (some ⟨gr, 0, none⟩) rs.length c1))) (by kernel_rfl) ?_ (fun hHeld => ?_)
          · ((try dsimp only); (simp [go_sem, *]))
          refine wpAnyH_take (i := 0) (oi := _) (v := ?_) rfl (by kernel_rfl) (by kernel_rfl) (by kernel_rfl) (fun _ _ _ h => h) (Or.inl ⟨by rfl, ?_⟩) (by assumption) ?_
          rotate_left
          · (intro w hSw; (try dsimp only at hSw); go_simp; (try with_reducible rfl))
          (try simp only [Act.put, List.setIfInBounds_toArray, List.set_cons_zero, List.set_cons_succ])
          refine wpAnyH_take (i := 1) (oi := _) (v := ?_) rfl (by kernel_rfl) (by kernel_rfl) (by kernel_rfl) (fun _ _ _ h => h) (Or.inl ⟨by rfl, ?_⟩) (by assumption) ?_
          rotate_left
          · (intro w hSw; (try dsimp only at hSw); go_simp; (try with_reducible rfl))
          (try simp only [Act.put, List.setIfInBounds_toArray, List.set_cons_zero, List.set_cons_succ])
          refine wpAnyH_take (i := 2) (oi := _) (v := ?_) rfl (by kernel_rfl) (by kernel_rfl) (by kernel_rfl) (fun _ _ _ h => h) (Or.inl ⟨by rfl, ?_⟩) (by assumption) ?_
          rotate_left
          · (intro w hSw; (try dsimp only at hSw); go_simp; (try with_reducible rfl))
          (try simp only [Act.put, List.setIfInBounds_toArray, List.set_cons_zero, List.set_cons_succ])
          refine wpAnyH_take (i := 4) (oi := _) (v := ?_) rfl (by kernel_rfl) (by kernel_rfl) (by kernel_rfl) (fun _ _ _ h => h) (Or.inl ⟨by rfl, ?_⟩) (by assumption) ?_
          rotate_left
          · (intro w hSw; (try dsimp only at hSw); go_simp; (try with_reducible rfl))
          (try simp only [Act.put, List.setIfInBounds_toArray, List.set_cons_zero, List.set_cons_succ])
          refine wpAnyH_ready (rs := [3, 5]) (by kernel_rfl) (by simp) ?_
          refine AllReadyH.cons (o := _) rfl (fun K hK => ?_) ?_
          · go_simp
            refine hK.out _ _ ?_ (fun hHeld => ?_)
            · ((try dsimp only); (simp [go_sem, *]))
            clear hK K
            (try simp only [Act.put, List.setIfInBounds_toArray, List.set_cons_zero, List.set_cons_succ])
            refine wpAnyH_ready (rs := [5]) (by kernel_rfl) (by simp) ?_
            refine AllReadyH.cons (o := _) rfl (fun K hK => ?_) AllReadyH.nil
            go_simp
            ((go_at_call 13; refine (pick_c g _ _ A n c xs _ (D4.out.upto (by go_grown)) (by omega)).mono ?_; rintro e w5 ⟨_, q5, rfl, ⟨x5, rfl, l5, u5⟩, d5, e5, f5, g5⟩; have B5 := Lib.hid ((B4.out.upto2 (by go_grown)).other g5 (by simp; omega)); have X5 := Lib.hid ((X4.out.upto2 (by go_grown)).other g5 (by simp; omega)); have O5 := Lib.hid ((O4.out.up (by go_grown)).gr g5 (by omega)); have v5 := u5 (by omega); obtain ⟨y, hy⟩ := lit_at [-1, 4294967296] x5 l5 (by simp; omega); have hget : ∀ hi : x5.toNat < [Value.int .i64 (-1), .int .i64 4294967296].length, [Value.int .i64 (-1), .int .i64 4294967296][x5.toNat]'hi = .int .i64 y := lit_get hy; (first | (have e5c := ((Blk.new w4 3 (ints [-1, 4294967296])).drew.other g5 (by simp; omega)).cell hy) | skip); clear hy; have hs5 := g5.size; (try simp at hs5); have G5 := Lib.hid (gr_via (w := w) (by (repeat' (first | exact gr_refl _ _ | (with_reducible assumption) | exact Hid.out (by assumption) | refine gr_drew ?_ | refine gr_drewN ?_ _ | refine gr_alloc ?_ _ | refine gr_set ?_ ?_ _ | omega | (simp; omega)))) g5); have D5 := Lib.hid d5; clear d5 g5; have x50 := X5.out.cell (i := 0) rfl; have zr : gr ≠ w5.heap.size := (by omega); have zr' : gr < w5.heap.size := (by omega); have zs : w1.heap.size ≠ w5.heap.size := (by omega); have zs' : w1.heap.size < w5.heap.size := (by omega); obtain ⟨k0, k1, k2, k3, kf⟩ := O5.out.four HQ.out))
            (try go_wp2_with fail)
            refine hK.out _ _ ?_ (fun hHeld => ?_)
            · ((try dsimp only); (simp [go_sem, *]))
            clear hK K
            (try simp only [Act.put, List.setIfInBounds_toArray, List.set_cons_zero, List.set_cons_succ])
            refine wpAnyH_take (i := 6) (oi := _) (v := ?_) rfl (by kernel_rfl) (by kernel_rfl) (by kernel_rfl) (fun _ _ _ h => h) (Or.inl ⟨by rfl, ?_⟩) (by assumption) ?_
            rotate_left
            · (intro w hSw; (try dsimp only at hSw); go_simp; (try with_reducible rfl))
            (try simp only [Act.put, List.setIfInBounds_toArray, List.set_cons_zero, List.set_cons_succ])
            refine wpAnyH_ready (rs := [7]) (by kernel_rfl) (by simp) ?_
            refine AllReadyH.cons (o := _) rfl (fun K hK => ?_) AllReadyH.nil
            go_simp
            refine hK.out _ _ ?_ (fun hHeld => ?_)
            · ((try dsimp only); (simp [go_sem, *]))
            clear hK K
            (try simp only [Act.put, List.setIfInBounds_toArray, List.set_cons_zero, List.set_cons_succ])
            refine wpAnyH_take (i := 8) (oi := _) (v := ?_) rfl (by kernel_rfl) (by kernel_rfl) (by kernel_rfl) (fun _ _ _ h => h) (Or.inl ⟨by rfl, ?_⟩) (by assumption) ?_
            rotate_left
            · (intro w hSw; (try dsimp only at hSw); go_simp; (try with_reducible rfl))
            (try simp only [Act.put, List.setIfInBounds_toArray, List.set_cons_zero, List.set_cons_succ])
            refine wpAnyH_take (i := 9) (oi := _) (v := ?_) rfl (by kernel_rfl) (by kernel_rfl) (by kernel_rfl) (fun _ _ _ h => h) (Or.inl ⟨by rfl, ?_⟩) (by assumption) ?_
            rotate_left
            · (intro w hSw; (try dsimp only at hSw); go_simp; (try with_reducible rfl))
            (try simp only [Act.put, List.setIfInBounds_toArray, List.set_cons_zero, List.set_cons_succ])
            refine wpAnyH_ready (rs := [10]) (by kernel_rfl) (by simp) ?_
            refine AllReadyH.cons (o := _) rfl (fun K hK => ?_) AllReadyH.nil
            go_simp
            refine hK.out _ _ ?_ (fun hHeld => ?_)
            · ((try dsimp only); (simp [go_sem, *]))
            clear hK K
            (try simp only [Act.put, List.setIfInBounds_toArray, List.set_cons_zero, List.set_cons_succ])
            refine wpAnyH_done (by kernel_rfl) ?_ _
            (go_wp2_with fail; go_meet; (first | exact ⟨_, _, _, _, q5, B5.out.far (by simp; omega) _, X5.out.far (by simp; omega) _, ((O5.out.putLo (by decide) HQ.out y).wide (Nat.le_refl _) (by simp; omega)), .inl rfl, ls_set (ls_more LS.out (by omega)) hls0, D5.out.far (by simp; omega) _, by omega, by omega, gr_set G5.out (.inr (by simp; omega)) _⟩ | exact ⟨_, _, _, _, q5, (B5.out.far (by simp; omega) _).alloc _, (X5.out.far (by simp; omega) _).alloc _, (((O5.out.putLo (by decide) HQ.out y).up (Below.alloc (Below.refl _ _) (Nat.le_refl _) _)).wide (Nat.le_refl _) (by simp; omega)), .inl rfl, ls_set (ls_more LS.out (by omega)) hls0, (D5.out.far (by simp; omega) _).upto (Below.alloc (Below.refl _ _) (Nat.le_refl _) _), by omega, by omega, gr_alloc (gr_set G5.out (.inr (by simp; omega)) _) _⟩))
          refine AllReadyH.cons (o := _) rfl (fun K hK => ?_) ?_
          · go_simp
            ((go_at_call 13; refine (pick_c g _ _ A n c xs _ (D4.out.upto (by go_grown)) (by omega)).mono ?_; rintro e w5 ⟨_, q5, rfl, ⟨x5, rfl, l5, u5⟩, d5, e5, f5, g5⟩; have B5 := Lib.hid ((B4.out.upto2 (by go_grown)).other g5 (by simp; omega)); have X5 := Lib.hid ((X4.out.upto2 (by go_grown)).other g5 (by simp; omega)); have O5 := Lib.hid ((O4.out.up (by go_grown)).gr g5 (by omega)); have v5 := u5 (by omega); obtain ⟨y, hy⟩ := lit_at [-1, 4294967296] x5 l5 (by simp; omega); have hget : ∀ hi : x5.toNat < [Value.int .i64 (-1), .int .i64 4294967296].length, [Value.int .i64 (-1), .int .i64 4294967296][x5.toNat]'hi = .int .i64 y := lit_get hy; (first | (have e5c := ((Blk.new w4 3 (ints [-1, 4294967296])).drew.other g5 (by simp; omega)).cell hy) | skip); clear hy; have hs5 := g5.size; (try simp at hs5); have G5 := Lib.hid (gr_via (w := w) (by (repeat' (first | exact gr_refl _ _ | (with_reducible assumption) | exact Hid.out (by assumption) | refine gr_drew ?_ | refine gr_drewN ?_ _ | refine gr_alloc ?_ _ | refine gr_set ?_ ?_ _ | omega | (simp; omega)))) g5); have D5 := Lib.hid d5; clear d5 g5; have x50 := X5.out.cell (i := 0) rfl; have zr : gr ≠ w5.heap.size := (by omega); have zr' : gr < w5.heap.size := (by omega); have zs : w1.heap.size ≠ w5.heap.size := (by omega); have zs' : w1.heap.size < w5.heap.size := (by omega); obtain ⟨k0, k1, k2, k3, kf⟩ := O5.out.four HQ.out))
            (try go_wp2_with fail)
            refine hK.out _ _ ?_ (fun hHeld => ?_)
            · ((try dsimp only); (simp [go_sem, *]))
            clear hK K
            (try simp only [Act.put, List.setIfInBounds_toArray, List.set_cons_zero, List.set_cons_succ])
            refine wpAnyH_ready (rs := [3]) (by kernel_rfl) (by simp) ?_
            refine AllReadyH.cons (o := _) rfl (fun K hK => ?_) AllReadyH.nil
            go_simp
            refine hK.out _ _ ?_ (fun hHeld => ?_)
            · ((try dsimp only); (simp [go_sem, *]))
            clear hK K
            (try simp only [Act.put, List.setIfInBounds_toArray, List.set_cons_zero, List.set_cons_succ])
            refine wpAnyH_take (i := 6) (oi := _) (v := ?_) rfl (by kernel_rfl) (by kernel_rfl) (by kernel_rfl) (fun _ _ _ h => h) (Or.inl ⟨by rfl, ?_⟩) (by assumption) ?_
            rotate_left
            · (intro w hSw; (try dsimp only at hSw); go_simp; (try with_reducible rfl))
            (try simp only [Act.put, List.setIfInBounds_toArray, List.set_cons_zero, List.set_cons_succ])
            refine wpAnyH_ready (rs := [7]) (by kernel_rfl) (by simp) ?_
            refine AllReadyH.cons (o := _) rfl (fun K hK => ?_) AllReadyH.nil
            go_simp
            refine hK.out _ _ ?_ (fun hHeld => ?_)
            · ((try dsimp only); (simp [go_sem, *]))
            clear hK K
            (try simp only [Act.put, List.setIfInBounds_toArray, List.set_cons_zero, List.set_cons_succ])
            refine wpAnyH_take (i := 8) (oi := _) (v := ?_) rfl (by kernel_rfl) (by kernel_rfl) (by kernel_rfl) (fun _ _ _ h => h) (Or.inl ⟨by rfl, ?_⟩) (by assumption) ?_
            rotate_left
            · (intro w hSw; (try dsimp only at hSw); go_simp; (try with_reducible rfl))
            (try simp only [Act.put, List.setIfInBounds_toArray, List.set_cons_zero, List.set_cons_succ])
            refine wpAnyH_take (i := 9) (oi := _) (v := ?_) rfl (by kernel_rfl) (by kernel_rfl) (by kernel_rfl) (fun _ _ _ h => h) (Or.inl ⟨by rfl, ?_⟩) (by assumption) ?_
            rotate_left
            · (intro w hSw; (try dsimp only at hSw); go_simp; (try with_reducible rfl))
            (try simp only [Act.put, List.setIfInBounds_toArray, List.set_cons_zero, List.set_cons_succ])
            refine wpAnyH_ready (rs := [10]) (by kernel_rfl) (by simp) ?_
            refine AllReadyH.cons (o := _) rfl (fun K hK => ?_) AllReadyH.nil
            go_simp
            refine hK.out _ _ ?_ (fun hHeld => ?_)
            · ((try dsimp only); (simp [go_sem, *]))
            clear hK K
            (try simp only [Act.put, List.setIfInBounds_toArray, List.set_cons_zero, List.set_cons_succ])
            refine wpAnyH_done (by kernel_rfl) ?_ _
            (go_wp2_with fail; go_meet; (first | exact ⟨_, _, _, _, q5, B5.out.far (by simp; omega) _, X5.out.far (by simp; omega) _, ((O5.out.putLo (by decide) HQ.out y).wide (Nat.le_refl _) (by simp; omega)), .inl rfl, ls_set (ls_more LS.out (by omega)) hls0, D5.out.far (by simp; omega) _, by omega, by omega, gr_set G5.out (.inr (by simp; omega)) _⟩ | exact ⟨_, _, _, _, q5, (B5.out.far (by simp; omega) _).alloc _, (X5.out.far (by simp; omega) _).alloc _, (((O5.out.putLo (by decide) HQ.out y).up (Below.alloc (Below.refl _ _) (Nat.le_refl _) _)).wide (Nat.le_refl _) (by simp; omega)), .inl rfl, ls_set (ls_more LS.out (by omega)) hls0, (D5.out.far (by simp; omega) _).upto (Below.alloc (Below.refl _ _) (Nat.le_refl _) _), by omega, by omega, gr_alloc (gr_set G5.out (.inr (by simp; omega)) _) _⟩))
          exact AllReadyH.nil
        have k2' : (x4 == 2) = false := by simpa using h2
        by_cases h3 : x4 = 3
        · subst h3
          have hT0 : q0.1.ts.length ≤ 4 := by have := LS.out q0 (List.mem_of_getElem? HQ.out); exact this
          clear c0 c1' c2' c3' cf x0
          have x0 := X4.out.cell (i := 0) rfl
          obtain ⟨k40, k41, k42, k43, k4f⟩ := O4.out.four HQ.out
          rw [HTV.out] at k43
          clear k40 k41 k42
          go_wp2
          refine wp_region_held_drew (S := (fun w' => w'.cell? ⟨w1.heap.size, 0, none⟩ = some (.slice (some ⟨gr, 0, none⟩) rs.length c1))) (by kernel_rfl) ?_ (fun hHeld => ?_)
          · ((try dsimp only); (simp [go_sem, *]))
          refine wpAnyH_take (i := 0) (oi := _) (v := ?_) rfl (by kernel_rfl) (by kernel_rfl) (by kernel_rfl) (fun _ _ _ h => h) (Or.inl ⟨by rfl, ?_⟩) (by assumption) ?_
          rotate_left
          · (intro w hSw; (try dsimp only at hSw); go_simp; (try with_reducible rfl))
          (try simp only [Act.put, List.setIfInBounds_toArray, List.set_cons_zero, List.set_cons_succ])
          refine wpAnyH_take (i := 1) (oi := _) (v := ?_) rfl (by kernel_rfl) (by kernel_rfl) (by kernel_rfl) (fun _ _ _ h => h) (Or.inl ⟨by rfl, ?_⟩) (by assumption) ?_
          rotate_left
          · (intro w hSw; (try dsimp only at hSw); go_simp; (try with_reducible rfl))
          (try simp only [Act.put, List.setIfInBounds_toArray, List.set_cons_zero, List.set_cons_succ])
          refine wpAnyH_take (i := 2) (oi := _) (v := ?_) rfl (by kernel_rfl) (by kernel_rfl) (by kernel_rfl) (fun _ _ _ h => h) (Or.inl ⟨by rfl, ?_⟩) (by assumption) ?_
          rotate_left
          · (intro w hSw; (try dsimp only at hSw); go_simp; (try with_reducible rfl))
          (try simp only [Act.put, List.setIfInBounds_toArray, List.set_cons_zero, List.set_cons_succ])
          refine wpAnyH_take (i := 3) (oi := _) (v := ?_) rfl (by kernel_rfl) (by kernel_rfl) (by kernel_rfl) (fun _ _ _ h => h) (Or.inl ⟨by rfl, ?_⟩) (by assumption) ?_
          rotate_left
          · (intro w hSw; (try dsimp only at hSw); go_simp; (try with_reducible rfl))
          (try simp only [Act.put, List.setIfInBounds_toArray, List.set_cons_zero, List.set_cons_succ])
          refine wpAnyH_take (i := 4) (oi := _) (v := ?_) rfl (by kernel_rfl) (by kernel_rfl) (by kernel_rfl) (fun _ _ _ h => h) (Or.inl ⟨by rfl, ?_⟩) (by assumption) ?_
          rotate_left
          · (intro w hSw; (try dsimp only at hSw); go_simp; (try with_reducible rfl))
          (try simp only [Act.put, List.setIfInBounds_toArray, List.set_cons_zero, List.set_cons_succ])
          refine wpAnyH_take (i := 5) (oi := _) (v := ?_) rfl (by kernel_rfl) (by kernel_rfl) (by kernel_rfl) (fun _ _ _ h => h) (Or.inl ⟨by rfl, ?_⟩) (by assumption) ?_
          rotate_left
          · (intro w hSw; (try dsimp only at hSw); go_simp; (try with_reducible rfl))
          (try simp only [Act.put, List.setIfInBounds_toArray, List.set_cons_zero, List.set_cons_succ])
          refine wpAnyH_take (i := 6) (oi := _) (v := ?_) rfl (by kernel_rfl) (by kernel_rfl) (by kernel_rfl) (fun _ _ _ h => h) (Or.inl ⟨by rfl, ?_⟩) (by assumption) ?_
          rotate_left
          · (intro w hSw; (try dsimp only at hSw); go_simp; (try with_reducible rfl))
          (try simp only [Act.put, List.setIfInBounds_toArray, List.set_cons_zero, List.set_cons_succ])
          refine wpAnyH_take (i := 7) (oi := _) (v := ?_) rfl (by kernel_rfl) (by kernel_rfl) (by kernel_rfl) (fun _ _ _ h => h) (Or.inl ⟨by rfl, ?_⟩) (by assumption) ?_
          rotate_left
          · (intro w hSw; (try dsimp only at hSw); go_simp; (try with_reducible rfl))
          (try simp only [Act.put, List.setIfInBounds_toArray, List.set_cons_zero, List.set_cons_succ])
          refine wpAnyH_take (i := 9) (oi := _) (v := ?_) rfl (by kernel_rfl) (by kernel_rfl) (by kernel_rfl) (fun _ _ _ h => h) (Or.inl ⟨by rfl, ?_⟩) (by assumption) ?_
          rotate_left
          · (intro w hSw; (try dsimp only at hSw); go_simp; (try with_reducible rfl))
          (try simp only [Act.put, List.setIfInBounds_toArray, List.set_cons_zero, List.set_cons_succ])
          refine wpAnyH_take (i := 11) (oi := _) (v := ?_) rfl (by kernel_rfl) (by kernel_rfl) (by kernel_rfl) (fun _ _ _ h => h) (Or.inl ⟨by rfl, ?_⟩) (by assumption) ?_
          rotate_left
          · (intro w hSw; (try dsimp only at hSw); go_simp; (try with_reducible rfl))
          (try simp only [Act.put, List.setIfInBounds_toArray, List.set_cons_zero, List.set_cons_succ])
          refine wpAnyH_take (i := 13) (oi := _) (v := ?_) rfl (by kernel_rfl) (by kernel_rfl) (by kernel_rfl) (fun _ _ _ h => h) (Or.inl ⟨by rfl, ?_⟩) (by assumption) ?_
          rotate_left
          · (intro w hSw; (try dsimp only at hSw); go_simp; (try with_reducible rfl))
          (try simp only [Act.put, List.setIfInBounds_toArray, List.set_cons_zero, List.set_cons_succ])
          refine wpAnyH_ready (rs := [8, 10]) (by kernel_rfl) (by simp) ?_
          refine AllReadyH.cons (o := _) rfl (fun K hK => ?_) ?_
          · go_simp
            refine hK.out _ _ ?_ (fun hHeld => ?_)
            · ((try dsimp only); (simp [go_sem, *]))
            clear hK K
            (try simp only [Act.put, List.setIfInBounds_toArray, List.set_cons_zero, List.set_cons_succ])
            refine wpAnyH_ready (rs := [10]) (by kernel_rfl) (by simp) ?_
            refine AllReadyH.cons (o := _) rfl (fun K hK => ?_) AllReadyH.nil
            go_simp
            ((go_at_call 25; refine (drawAnyTest_c g _ A n c xs _ (D4.out.upto (by go_grown)) (by omega)).mono ?_; rintro e w5 ⟨_, q5, rfl, ⟨f5, m5, o5, y5, rfl⟩, d5, e5, i5, g5⟩; have B5 := Lib.hid ((B4.out.upto2 (by go_grown)).other g5 (by simp; omega)); have X5 := Lib.hid ((X4.out.upto2 (by go_grown)).other g5 (by simp; omega)); have O5 := Lib.hid ((O4.out.up (by go_grown)).gr g5 (by omega)); have hs5 := g5.size; (try simp at hs5); have G5 := Lib.hid (gr_via (w := w) (by (repeat' (first | exact gr_refl _ _ | (with_reducible assumption) | exact Hid.out (by assumption) | refine gr_drew ?_ | refine gr_drewN ?_ _ | refine gr_alloc ?_ _ | refine gr_set ?_ ?_ _ | omega | (simp; omega)))) g5); have D5 := Lib.hid d5; clear d5 g5; have x50 := X5.out.cell (i := 0) rfl; obtain ⟨_, _, _, k53, k5f⟩ := O5.out.four HQ.out; rw [HTV.out] at k53; unfold testV))
            (try go_wp2_with fail)
            refine hK.out _ _ ?_ (fun hHeld => ?_)
            · ((try dsimp only); (simp [go_sem, *]))
            clear hK K
            (try simp only [Act.put, List.setIfInBounds_toArray, List.set_cons_zero, List.set_cons_succ])
            refine wpAnyH_ready (rs := [12]) (by kernel_rfl) (by simp) ?_
            refine AllReadyH.cons (o := _) rfl (fun K hK => ?_) AllReadyH.nil
            go_simp
            ((go_at_call 25; refine (drawAnyTest_c g _ A n c xs _ (D5.out.upto (by go_grown)) (by omega)).mono ?_; rintro e w6 ⟨_, q6, rfl, ⟨f6, m6, o6, y6, rfl⟩, d6, e6, i6, g6⟩; have B6 := Lib.hid ((B5.out.upto2 (by go_grown)).other g6 (by simp; omega)); have X6 := Lib.hid ((X5.out.upto2 (by go_grown)).other g6 (by simp; omega)); have O6 := Lib.hid ((O5.out.up (by go_grown)).gr g6 (by omega)); have hs6 := g6.size; (try simp at hs6); have G6 := Lib.hid (gr_via (w := w) (by (repeat' (first | exact gr_refl _ _ | (with_reducible assumption) | exact Hid.out (by assumption) | refine gr_drew ?_ | refine gr_drewN ?_ _ | refine gr_alloc ?_ _ | refine gr_set ?_ ?_ _ | omega | (simp; omega)))) g6); have D6 := Lib.hid d6; clear d6 g6; have x60 := X6.out.cell (i := 0) rfl; obtain ⟨_, _, _, k63, k6f⟩ := O6.out.four HQ.out; rw [HTV.out] at k63; unfold testV))
            (try go_wp2_with fail)
            refine hK.out _ _ ?_ (fun hHeld => ?_)
            · ((try dsimp only); (simp [go_sem, *]))
            clear hK K
            (try simp only [Act.put, List.setIfInBounds_toArray, List.set_cons_zero, List.set_cons_succ])
            refine wpAnyH_ready (rs := [14]) (by kernel_rfl) (by simp) ?_
            refine AllReadyH.cons (o := _) rfl (fun K hK => ?_) AllReadyH.nil
            go_simp
            ((go_at_call 25; refine (drawAnyTest_c g _ A n c xs _ (D6.out.upto (by go_grown)) (by omega)).mono ?_; rintro e w7 ⟨_, q7, rfl, ⟨f7, m7, o7, y7, rfl⟩, d7, e7, i7, g7⟩; have B7 := Lib.hid ((B6.out.upto2 (by go_grown)).other g7 (by simp; omega)); have X7 := Lib.hid ((X6.out.upto2 (by go_grown)).other g7 (by simp; omega)); have O7 := Lib.hid ((O6.out.up (by go_grown)).gr g7 (by omega)); have hs7 := g7.size; (try simp at hs7); have G7 := Lib.hid (gr_via (w := w) (by (repeat' (first | exact gr_refl _ _ | (with_reducible assumption) | exact Hid.out (by assumption) | refine gr_drew ?_ | refine gr_drewN ?_ _ | refine gr_alloc ?_ _ | refine gr_set ?_ ?_ _ | omega | (simp; omega)))) g7); have D7 := Lib.hid d7; clear d7 g7; have x70 := X7.out.cell (i := 0) rfl; obtain ⟨_, _, _, k73, k7f⟩ := O7.out.four HQ.out; rw [HTV.out] at k73; have HIGH := Lib.hid (O7.out.tst q0 (List.mem_of_getElem? HQ.out)).high; have R7 := Lib.hid (O7.out.tst q0 (List.mem_of_getElem? HQ.out)).own; rw [HTV.out] at R7 HIGH; unfold testV; have zr7 : gr ≠ w7.heap.size := (by omega); have zr7' : gr < w7.heap.size := (by omega); have zs7 : w1.heap.size ≠ w7.heap.size := (by omega); have zs7' : w1.heap.size < w7.heap.size := (by omega)))
            (try go_wp2_with fail)
            refine hK.out _ _ ?_ (fun hHeld => ?_)
            · ((try dsimp only); (simp [go_sem, *]))
            clear hK K
            (try simp only [Act.put, List.setIfInBounds_toArray, List.set_cons_zero, List.set_cons_succ])
            refine wpAnyH_ready (rs := [15]) (by kernel_rfl) (by simp) ?_
            refine AllReadyH.cons (o := _) rfl (fun K hK => ?_) AllReadyH.nil
            go_simp
            refine hK.out _ _ ?_ (fun hHeld => ?_)
            · ((try dsimp only); (simp [go_sem, *]))
            clear hK K
            (try simp only [Act.put, List.setIfInBounds_toArray, List.set_cons_zero, List.set_cons_succ])
            refine wpAnyH_ready (rs := [16]) (by kernel_rfl) (by simp) ?_
            refine AllReadyH.cons (o := _) rfl (fun K hK => ?_) AllReadyH.nil
            (refine step_append_rd _ (by rfl) _ _ _ (by rfl) (w.heap.size + 1 + 1) 52 j0 _ 4 32 Tryd.underlying35 hj0 hy0 hy1 hy2 rfl (by omega) (.slice TA q0.1.ts.length tc) q0.1.ts.length (tsts q0.1.ts) (by rfl) (R7.out.alloc _) (w7.heap.size + 1) (some ⟨w7.heap.size, 0, none⟩) 3 3 _ (by rfl) (rd_new (w := w7) rfl 52 4 3 (tsts [⟨f5, m5, o5, y5⟩, ⟨f6, m6, o6, y6⟩, ⟨f7, m7, o7, y7⟩]) rfl) (one_tsts _) (by unfold maxLen; omega) (by omega) (by simp; omega) ?_; intro A8 c8 w8 ho8 hg8 ha8; have KO := (O7.out.up (w' := w7.alloc (.cells (tsts [⟨f5, m5, o5, y5⟩, ⟨f6, m6, o6, y6⟩, ⟨f7, m7, o7, y7⟩]).toArray 52)) (Below.alloc (Below.refl _ _) (Nat.le_refl _) _)).fourApp (by decide) HQ.out (by rw [HTV.out]; exact hg8); have k83 := KO.1; rw [HTV.out] at k83; have k8f := KO.2; clear KO; have hs8 := hg8.size; (try simp at hs8); have B8 := Lib.hid ((B7.out.alloc _).gn hg8 (fun e => by have := (R7.out.lt _ e).1; omega)); have X8 := Lib.hid ((X7.out.alloc _).gn hg8 (fun e => by have := (HIGH.out _ e); omega)); have x80 := X8.out.cell (i := 0) rfl; have D8 := Lib.hid ((D7.out.upto (Below.alloc (Below.refl _ _) (Nat.le_refl _) _)).other hg8 (fun b e => by have := (R7.out.lt b e).1; omega)); have G8 := Lib.hid (gr_grown (gr_alloc G7.out _) hg8 (fun b e => .inr (by have := (R7.out.lt b e).1; omega))); have HG8 := Lib.hid hg8; have HO8 := Lib.hid ho8; clear hg8 ho8 ha8)
            refine hK.out _ _ ?_ (fun hHeld => ?_)
            · ((try dsimp only); (simp [go_sem, *]))
            clear hK K
            (try simp only [Act.put, List.setIfInBounds_toArray, List.set_cons_zero, List.set_cons_succ])
            refine wpAnyH_take (i := 17) (oi := _) (v := ?_) rfl (by kernel_rfl) (by kernel_rfl) (by kernel_rfl) (fun _ _ _ h => h) (Or.inl ⟨by rfl, ?_⟩) (by assumption) ?_
            rotate_left
            · (intro w hSw; (try dsimp only at hSw); go_simp; (try with_reducible rfl))
            (try simp only [Act.put, List.setIfInBounds_toArray, List.set_cons_zero, List.set_cons_succ])
            refine wpAnyH_take (i := 18) (oi := _) (v := ?_) rfl (by kernel_rfl) (by kernel_rfl) (by kernel_rfl) (fun _ _ _ h => h) (Or.inl ⟨by rfl, ?_⟩) (by assumption) ?_
            rotate_left
            · (intro w hSw; (try dsimp only at hSw); go_simp; (try with_reducible rfl))
            (try simp only [Act.put, List.setIfInBounds_toArray, List.set_cons_zero, List.set_cons_succ])
            refine wpAnyH_ready (rs := [19]) (by kernel_rfl) (by simp) ?_
            refine AllReadyH.cons (o := _) rfl (fun K hK => ?_) AllReadyH.nil
            go_simp
            refine hK.out _ _ ?_ (fun hHeld => ?_)
            · ((try dsimp only); (simp [go_sem, *]))
            clear hK K
            (try simp only [Act.put, List.setIfInBounds_toArray, List.set_cons_zero, List.set_cons_succ])
            refine wpAnyH_done (by kernel_rfl) ?_ _
            (go_wp2_with fail; go_meet; refine ⟨_, _, _, _, q7, B8.out.far (by simp; omega) _, X8.out.far (by simp; omega) _, Lib.hid ((OP.putTs (hi' := w8.heap.size) (ts := q0.1.ts ++ [⟨f5, m5, o5, y5⟩, ⟨f6, m6, o6, y6⟩, ⟨f7, m7, o7, y7⟩]) (O7.out.up (w' := w7.alloc (.cells (tsts [⟨f5, m5, o5, y5⟩, ⟨f6, m6, o6, y6⟩, ⟨f7, m7, o7, y7⟩]).toArray 52)) (Below.alloc (Below.refl _ _) (Nat.le_refl _) _)) (by decide) P1.out HQ.out (by rw [HTV.out]; exact HG8.out) ?_ (by omega) (Nat.le_refl _)).wide (Nat.le_refl _) (by simp)), .inl rfl, ls_set (ls_more LS.out (by omega)) (by simp; omega), D8.out.far (by simp; omega) _, by omega, by omega, gr_set G8.out (.inr (by simp; omega)) _⟩; have ho := HO8.out; rw [List.length_append, tsts_app]; exact ho)
          refine AllReadyH.cons (o := _) rfl (fun K hK => ?_) ?_
          · go_simp
            ((go_at_call 25; refine (drawAnyTest_c g _ A n c xs _ (D4.out.upto (by go_grown)) (by omega)).mono ?_; rintro e w5 ⟨_, q5, rfl, ⟨f5, m5, o5, y5, rfl⟩, d5, e5, i5, g5⟩; have B5 := Lib.hid ((B4.out.upto2 (by go_grown)).other g5 (by simp; omega)); have X5 := Lib.hid ((X4.out.upto2 (by go_grown)).other g5 (by simp; omega)); have O5 := Lib.hid ((O4.out.up (by go_grown)).gr g5 (by omega)); have hs5 := g5.size; (try simp at hs5); have G5 := Lib.hid (gr_via (w := w) (by (repeat' (first | exact gr_refl _ _ | (with_reducible assumption) | exact Hid.out (by assumption) | refine gr_drew ?_ | refine gr_drewN ?_ _ | refine gr_alloc ?_ _ | refine gr_set ?_ ?_ _ | omega | (simp; omega)))) g5); have D5 := Lib.hid d5; clear d5 g5; have x50 := X5.out.cell (i := 0) rfl; obtain ⟨_, _, _, k53, k5f⟩ := O5.out.four HQ.out; rw [HTV.out] at k53; unfold testV))
            (try go_wp2_with fail)
            refine hK.out _ _ ?_ (fun hHeld => ?_)
            · ((try dsimp only); (simp [go_sem, *]))
            clear hK K
            (try simp only [Act.put, List.setIfInBounds_toArray, List.set_cons_zero, List.set_cons_succ])
            refine wpAnyH_ready (rs := [8, 12]) (by kernel_rfl) (by simp) ?_
            refine AllReadyH.cons (o := _) rfl (fun K hK => ?_) ?_
            · go_simp
              refine hK.out _ _ ?_ (fun hHeld => ?_)
              · ((try dsimp only); (simp [go_sem, *]))
              clear hK K
              (try simp only [Act.put, List.setIfInBounds_toArray, List.set_cons_zero, List.set_cons_succ])
              refine wpAnyH_ready (rs := [12]) (by kernel_rfl) (by simp) ?_
              refine AllReadyH.cons (o := _) rfl (fun K hK => ?_) AllReadyH.nil
              go_simp
              ((go_at_call 25; refine (drawAnyTest_c g _ A n c xs _ (D5.out.upto (by go_grown)) (by omega)).mono ?_; rintro e w6 ⟨_, q6, rfl, ⟨f6, m6, o6, y6, rfl⟩, d6, e6, i6, g6⟩; have B6 := Lib.hid ((B5.out.upto2 (by go_grown)).other g6 (by simp; omega)); have X6 := Lib.hid ((X5.out.upto2 (by go_grown)).other g6 (by simp; omega)); have O6 := Lib.hid ((O5.out.up (by go_grown)).gr g6 (by omega)); have hs6 := g6.size; (try simp at hs6); have G6 := Lib.hid (gr_via (w := w) (by (repeat' (first | exact gr_refl _ _ | (with_reducible assumption) | exact Hid.out (by assumption) | refine gr_drew ?_ | refine gr_drewN ?_ _ | refine gr_alloc ?_ _ | refine gr_set ?_ ?_ _ | omega | (simp; omega)))) g6); have D6 := Lib.hid d6; clear d6 g6; have x60 := X6.out.cell (i := 0) rfl; obtain ⟨_, _, _, k63, k6f⟩ := O6.out.four HQ.out; rw [HTV.out] at k63; unfold testV))
              (try go_wp2_with fail)
              refine hK.out _ _ ?_ (fun hHeld => ?_)
              · ((try dsimp only); (simp [go_sem, *]))
              clear hK K
              (try simp only [Act.put, List.setIfInBounds_toArray, List.set_cons_zero, List.set_cons_succ])
              refine wpAnyH_ready (rs := [14]) (by kernel_rfl) (by simp) ?_
              refine AllReadyH.cons (o := _) rfl (fun K hK => ?_) AllReadyH.nil
              go_simp
              ((go_at_call 25; refine (drawAnyTest_c g _ A n c xs _ (D6.out.upto (by go_grown)) (by omega)).mono ?_; rintro e w7 ⟨_, q7, rfl, ⟨f7, m7, o7, y7, rfl⟩, d7, e7, i7, g7⟩; have B7 := Lib.hid ((B6.out.upto2 (by go_grown)).other g7 (by simp; omega)); have X7 := Lib.hid ((X6.out.upto2 (by go_grown)).other g7 (by simp; omega)); have O7 := Lib.hid ((O6.out.up (by go_grown)).gr g7 (by omega)); have hs7 := g7.size; (try simp at hs7); have G7 := Lib.hid (gr_via (w := w) (by (repeat' (first | exact gr_refl _ _ | (with_reducible assumption) | exact Hid.out (by assumption) | refine gr_drew ?_ | refine gr_drewN ?_ _ | refine gr_alloc ?_ _ | refine gr_set ?_ ?_ _ | omega | (simp; omega)))) g7); have D7 := Lib.hid d7; clear d7 g7; have x70 := X7.out.cell (i := 0) rfl; obtain ⟨_, _, _, k73, k7f⟩ := O7.out.four HQ.out; rw [HTV.out] at k73; have HIGH := Lib.hid (O7.out.tst q0 (List.mem_of_getElem? HQ.out)).high; have R7 := Lib.hid (O7.out.tst q0 (List.mem_of_getElem? HQ.out)).own; rw [HTV.out] at R7 HIGH; unfold testV; have zr7 : gr ≠ w7.heap.size := (by omega); have zr7' : gr < w7.heap.size := (by omega); have zs7 : w1.heap.size ≠ w7.heap.size := (by omega); have zs7' : w1.heap.size < w7.heap.size := (by omega)))
              (try go_wp2_with fail)
              refine hK.out _ _ ?_ (fun hHeld => ?_)
              · ((try dsimp only); (simp [go_sem, *]))
              clear hK K
              (try simp only [Act.put, List.setIfInBounds_toArray, List.set_cons_zero, List.set_cons_succ])
              refine wpAnyH_ready (rs := [15]) (by kernel_rfl) (by simp) ?_
              refine AllReadyH.cons (o := _) rfl (fun K hK => ?_) AllReadyH.nil
              go_simp
              refine hK.out _ _ ?_ (fun hHeld => ?_)
              · ((try dsimp only); (simp [go_sem, *]))
              clear hK K
              (try simp only [Act.put, List.setIfInBounds_toArray, List.set_cons_zero, List.set_cons_succ])
              refine wpAnyH_ready (rs := [16]) (by kernel_rfl) (by simp) ?_
              refine AllReadyH.cons (o := _) rfl (fun K hK => ?_) AllReadyH.nil
              (refine step_append_rd _ (by rfl) _ _ _ (by rfl) (w.heap.size + 1 + 1) 52 j0 _ 4 32 Tryd.underlying35 hj0 hy0 hy1 hy2 rfl (by omega) (.slice TA q0.1.ts.length tc) q0.1.ts.length (tsts q0.1.ts) (by rfl) (R7.out.alloc _) (w7.heap.size + 1) (some ⟨w7.heap.size, 0, none⟩) 3 3 _ (by rfl) (rd_new (w := w7) rfl 52 4 3 (tsts [⟨f5, m5, o5, y5⟩, ⟨f6, m6, o6, y6⟩, ⟨f7, m7, o7, y7⟩]) rfl) (one_tsts _) (by unfold maxLen; omega) (by omega) (by simp; omega) ?_; intro A8 c8 w8 ho8 hg8 ha8; have KO := (O7.out.up (w' := w7.alloc (.cells (tsts [⟨f5, m5, o5, y5⟩, ⟨f6, m6, o6, y6⟩, ⟨f7, m7, o7, y7⟩]).toArray 52)) (Below.alloc (Below.refl _ _) (Nat.le_refl _) _)).fourApp (by decide) HQ.out (by rw [HTV.out]; exact hg8); have k83 := KO.1; rw [HTV.out] at k83; have k8f := KO.2; clear KO; have hs8 := hg8.size; (try simp at hs8); have B8 := Lib.hid ((B7.out.alloc _).gn hg8 (fun e => by have := (R7.out.lt _ e).1; omega)); have X8 := Lib.hid ((X7.out.alloc _).gn hg8 (fun e => by have := (HIGH.out _ e); omega)); have x80 := X8.out.cell (i := 0) rfl; have D8 := Lib.hid ((D7.out.upto (Below.alloc (Below.refl _ _) (Nat.le_refl _) _)).other hg8 (fun b e => by have := (R7.out.lt b e).1; omega)); have G8 := Lib.hid (gr_grown (gr_alloc G7.out _) hg8 (fun b e => .inr (by have := (R7.out.lt b e).1; omega))); have HG8 := Lib.hid hg8; have HO8 := Lib.hid ho8; clear hg8 ho8 ha8)
              refine hK.out _ _ ?_ (fun hHeld => ?_)
              · ((try dsimp only); (simp [go_sem, *]))
              clear hK K
              (try simp only [Act.put, List.setIfInBounds_toArray, List.set_cons_zero, List.set_cons_succ])
              refine wpAnyH_take (i := 17) (oi := _) (v := ?_) rfl (by kernel_rfl) (by kernel_rfl) (by kernel_rfl) (fun _ _ _ h => h) (Or.inl ⟨by rfl, ?_⟩) (by assumption) ?_
              rotate_left
              · (intro w hSw; (try dsimp only at hSw); go_simp; (try with_reducible rfl))
              (try simp only [Act.put, List.setIfInBounds_toArray, List.set_cons_zero, List.set_cons_succ])
              refine wpAnyH_take (i := 18) (oi := _) (v := ?_) rfl (by kernel_rfl) (by kernel_rfl) (by kernel_rfl) (fun _ _ _ h => h) (Or.inl ⟨by rfl, ?_⟩) (by assumption) ?_
              rotate_left
              · (intro w hSw; (try dsimp only at hSw); go_simp; (try with_reducible rfl))
              (try simp only [Act.put, List.setIfInBounds_toArray, List.set_cons_zero, List.set_cons_succ])
              refine wpAnyH_ready (rs := [19]) (by kernel_rfl) (by simp) ?_
              refine AllReadyH.cons (o := _) rfl (fun K hK => ?_) AllReadyH.nil
              go_simp
              refine hK.out _ _ ?_ (fun hHeld => ?_)
              · ((try dsimp only); (simp [go_sem, *]))
              clear hK K
              (try simp only [Act.put, List.setIfInBounds_toArray, List.set_cons_zero, List.set_cons_succ])
              refine wpAnyH_done (by kernel_rfl) ?_ _
              (go_wp2_with fail; go_meet; refine ⟨_, _, _, _, q7, B8.out.far (by simp; omega) _, X8.out.far (by simp; omega) _, Lib.hid ((OP.putTs (hi' := w8.heap.size) (ts := q0.1.ts ++ [⟨f5, m5, o5, y5⟩, ⟨f6, m6, o6, y6⟩, ⟨f7, m7, o7, y7⟩]) (O7.out.up (w' := w7.alloc (.cells (tsts [⟨f5, m5, o5, y5⟩, ⟨f6, m6, o6, y6⟩, ⟨f7, m7, o7, y7⟩]).toArray 52)) (Below.alloc (Below.refl _ _) (Nat.le_refl _) _)) (by decide) P1.out HQ.out (by rw [HTV.out]; exact HG8.out) ?_ (by omega) (Nat.le_refl _)).wide (Nat.le_refl _) (by simp)), .inl rfl, ls_set (ls_more LS.out (by omega)) (by simp; omega), D8.out.far (by simp; omega) _, by omega, by omega, gr_set G8.out (.inr (by simp; omega)) _⟩; have ho := HO8.out; rw [List.length_append, tsts_app]; exact ho)
            refine AllReadyH.cons (o := _) rfl (fun K hK => ?_) ?_
            · go_simp
              ((go_at_call 25; refine (drawAnyTest_c g _ A n c xs _ (D5.out.upto (by go_grown)) (by omega)).mono ?_; rintro e w6 ⟨_, q6, rfl, ⟨f6, m6, o6, y6, rfl⟩, d6, e6, i6, g6⟩; have B6 := Lib.hid ((B5.out.upto2 (by go_grown)).other g6 (by simp; omega)); have X6 := Lib.hid ((X5.out.upto2 (by go_grown)).other g6 (by simp; omega)); have O6 := Lib.hid ((O5.out.up (by go_grown)).gr g6 (by omega)); have hs6 := g6.size; (try simp at hs6); have G6 := Lib.hid (gr_via (w := w) (by (repeat' (first | exact gr_refl _ _ | (with_reducible assumption) | exact Hid.out (by assumption) | refine gr_drew ?_ | refine gr_drewN ?_ _ | refine gr_alloc ?_ _ | refine gr_set ?_ ?_ _ | omega | (simp; omega)))) g6); have D6 := Lib.hid d6; clear d6 g6; have x60 := X6.out.cell (i := 0) rfl; obtain ⟨_, _, _, k63, k6f⟩ := O6.out.four HQ.out; rw [HTV.out] at k63; unfold testV))
              (try go_wp2_with fail)
              refine hK.out _ _ ?_ (fun hHeld => ?_)
              · ((try dsimp only); (simp [go_sem, *]))
              clear hK K
              (try simp only [Act.put, List.setIfInBounds_toArray, List.set_cons_zero, List.set_cons_succ])
              refine wpAnyH_ready (rs := [8, 14]) (by kernel_rfl) (by simp) ?_
              refine AllReadyH.cons (o := _) rfl (fun K hK => ?_) ?_
              · go_simp
                refine hK.out _ _ ?_ (fun hHeld => ?_)
                · ((try dsimp only); (simp [go_sem, *]))
                clear hK K
                (try simp only [Act.put, List.setIfInBounds_toArray, List.set_cons_zero, List.set_cons_succ])
                refine wpAnyH_ready (rs := [14]) (by kernel_rfl) (by simp) ?_
                refine AllReadyH.cons (o := _) rfl (fun K hK => ?_) AllReadyH.nil
                go_simp
                ((go_at_call 25; refine (drawAnyTest_c g _ A n c xs _ (D6.out.upto (by go_grown)) (by omega)).mono ?_; rintro e w7 ⟨_, q7, rfl, ⟨f7, m7, o7, y7, rfl⟩, d7, e7, i7, g7⟩; have B7 := Lib.hid ((B6.out.upto2 (by go_grown)).other g7 (by simp; omega)); have X7 := Lib.hid ((X6.out.upto2 (by go_grown)).other g7 (by simp; omega)); have O7 := Lib.hid ((O6.out.up (by go_grown)).gr g7 (by omega)); have hs7 := g7.size; (try simp at hs7); have G7 := Lib.hid (gr_via (w := w) (by (repeat' (first | exact gr_refl _ _ | (with_reducible assumption) | exact Hid.out (by assumption) | refine gr_drew ?_ | refine gr_drewN ?_ _ | refine gr_alloc ?_ _ | refine gr_set ?_ ?_ _ | omega | (simp; omega)))) g7); have D7 := Lib.hid d7; clear d7 g7; have x70 := X7.out.cell (i := 0) rfl; obtain ⟨_, _, _, k73, k7f⟩ := O7.out.four HQ.out; rw [HTV.out] at k73; have HIGH := Lib.hid (O7.out.tst q0 (List.mem_of_getElem? HQ.out)).high; have R7 := Lib.hid (O7.out.tst q0 (List.mem_of_getElem? HQ.out)).own; rw [HTV.out] at R7 HIGH; unfold testV; have zr7 : gr ≠ w7.heap.size := (by omega); have zr7' : gr < w7.heap.size := (by omega); have zs7 : w1.heap.size ≠ w7.heap.size := (by omega); have zs7' : w1.heap.size < w7.heap.size := (by omega)))
                (try go_wp2_with fail)
                refine hK.out _ _ ?_ (fun hHeld => ?_)
                · ((try dsimp only); (simp [go_sem, *]))
                clear hK K
                (try simp only [Act.put, List.setIfInBounds_toArray, List.set_cons_zero, List.set_cons_succ])
                refine wpAnyH_ready (rs := [15]) (by kernel_rfl) (by simp) ?_
                refine AllReadyH.cons (o := _) rfl (fun K hK => ?_) AllReadyH.nil
                go_simp
                refine hK.out _ _ ?_ (fun hHeld => ?_)
                · ((try dsimp only); (simp [go_sem, *]))
                clear hK K
                (try simp only [Act.put, List.setIfInBounds_toArray, List.set_cons_zero, List.set_cons_succ])
                refine wpAnyH_ready (rs := [16]) (by kernel_rfl) (by simp) ?_
                refine AllReadyH.cons (o := _) rfl (fun K hK => ?_) AllReadyH.nil
                (refine step_append_rd _ (by rfl) _ _ _ (by rfl) (w.heap.size + 1 + 1) 52 j0 _ 4 32 Tryd.underlying35 hj0 hy0 hy1 hy2 rfl (by omega) (.slice TA q0.1.ts.length tc) q0.1.ts.length (tsts q0.1.ts) (by rfl) (R7.out.alloc _) (w7.heap.size + 1) (some ⟨w7.heap.size, 0, none⟩) 3 3 _ (by rfl) (rd_new (w := w7) rfl 52 4 3 (tsts [⟨f5, m5, o5, y5⟩, ⟨f6, m6, o6, y6⟩, ⟨f7, m7, o7, y7⟩]) rfl) (one_tsts _) (by unfold maxLen; omega) (by omega) (by simp; omega) ?_; intro A8 c8 w8 ho8 hg8 ha8; have KO := (O7.out.up (w' := w7.alloc (.cells (tsts [⟨f5, m5, o5, y5⟩, ⟨f6, m6, o6, y6⟩, ⟨f7, m7, o7, y7⟩]).toArray 52)) (Below.alloc (Below.refl _ _) (Nat.le_refl _) _)).fourApp (by decide) HQ.out (by rw [HTV.out]; exact hg8); have k83 := KO.1; rw [HTV.out] at k83; have k8f := KO.2; clear KO; have hs8 := hg8.size; (try simp at hs8); have B8 := Lib.hid ((B7.out.alloc _).gn hg8 (fun e => by have := (R7.out.lt _ e).1; omega)); have X8 := Lib.hid ((X7.out.alloc _).gn hg8 (fun e => by have := (HIGH.out _ e); omega)); have x80 := X8.out.cell (i := 0) rfl; have D8 := Lib.hid ((D7.out.upto (Below.alloc (Below.refl _ _) (Nat.le_refl _) _)).other hg8 (fun b e => by have := (R7.out.lt b e).1; omega)); have G8 := Lib.hid (gr_grown (gr_alloc G7.out _) hg8 (fun b e => .inr (by have := (R7.out.lt b e).1; omega))); have HG8 := Lib.hid hg8; have HO8 := Lib.hid ho8; clear hg8 ho8 ha8)
                refine hK.out _ _ ?_ (fun hHeld => ?_)
                · ((try dsimp only); (simp [go_sem, *]))
                clear hK K
                (try simp only [Act.put, List.setIfInBounds_toArray, List.set_cons_zero, List.set_cons_succ])
                refine wpAnyH_take (i := 17) (oi := _) (v := ?_) rfl (by kernel_rfl) (by kernel_rfl) (by kernel_rfl) (fun _ _ _ h => h) (Or.inl ⟨by rfl, ?_⟩) (by assumption) ?_
                rotate_left
                · (intro w hSw; (try dsimp only at hSw); go_simp; (try with_reducible rfl))
                (try simp only [Act.put, List.setIfInBounds_toArray, List.set_cons_zero, List.set_cons_succ])
                refine wpAnyH_take (i := 18) (oi := _) (v := ?_) rfl (by kernel_rfl) (by kernel_rfl) (by kernel_rfl) (fun _ _ _ h => h) (Or.inl ⟨by rfl, ?_⟩) (by assumption) ?_
                rotate_left
                · (intro w hSw; (try dsimp only at hSw); go_simp; (try with_reducible rfl))
                (try simp only [Act.put, List.setIfInBounds_toArray, List.set_cons_zero, List.set_cons_succ])
                refine wpAnyH_ready (rs := [19]) (by kernel_rfl) (by simp) ?_
                refine AllReadyH.cons (o := _) rfl (fun K hK => ?_) AllReadyH.nil
                go_simp
                refine hK.out _ _ ?_ (fun hHeld => ?_)
                · ((try dsimp only); (simp [go_sem, *]))
                clear hK K
                (try simp only [Act.put, List.setIfInBounds_toArray, List.set_cons_zero, List.set_cons_succ])
                refine wpAnyH_done (by kernel_rfl) ?_ _
                (go_wp2_with fail; go_meet; refine ⟨_, _, _, _, q7, B8.out.far (by simp; omega) _, X8.out.far (by simp; omega) _, Lib.hid ((OP.putTs (hi' := w8.heap.size) (ts := q0.1.ts ++ [⟨f5, m5, o5, y5⟩, ⟨f6, m6, o6, y6⟩, ⟨f7, m7, o7, y7⟩]) (O7.out.up (w' := w7.alloc (.cells (tsts [⟨f5, m5, o5, y5⟩, ⟨f6, m6, o6, y6⟩, ⟨f7, m7, o7, y7⟩]).toArray 52)) (Below.alloc (Below.refl _ _) (Nat.le_refl _) _)) (by decide) P1.out HQ.out (by rw [HTV.out]; exact HG8.out) ?_ (by omega) (Nat.le_refl _)).wide (Nat.le_refl _) (by simp)), .inl rfl, ls_set (ls_more LS.out (by omega)) (by simp; omega), D8.out.far (by simp; omega) _, by omega, by omega, gr_set G8.out (.inr (by simp; omega)) _⟩; have ho := HO8.out; rw [List.length_append, tsts_app]; exact ho)
              refine AllReadyH.cons (o := _) rfl (fun K hK => ?_) ?_
              · go_simp
                ((go_at_call 25; refine (drawAnyTest_c g _ A n c xs _ (D6.out.upto (by go_grown)) (by omega)).mono ?_; rintro e w7 ⟨_, q7, rfl, ⟨f7, m7, o7, y7, rfl⟩, d7, e7, i7, g7⟩; have B7 := Lib.hid ((B6.out.upto2 (by go_grown)).other g7 (by simp; omega)); have X7 := Lib.hid ((X6.out.upto2 (by go_grown)).other g7 (by simp; omega)); have O7 := Lib.hid ((O6.out.up (by go_grown)).gr g7 (by omega)); have hs7 := g7.size; (try simp at hs7); have G7 := Lib.hid (gr_via (w := w) (by (repeat' (first | exact gr_refl _ _ | (with_reducible assumption) | exact Hid.out (by assumption) | refine gr_drew ?_ | refine gr_drewN ?_ _ | refine gr_alloc ?_ _ | refine gr_set ?_ ?_ _ | omega | (simp; omega)))) g7); have D7 := Lib.hid d7; clear d7 g7; have x70 := X7.out.cell (i := 0) rfl; obtain ⟨_, _, _, k73, k7f⟩ := O7.out.four HQ.out; rw [HTV.out] at k73; have HIGH := Lib.hid (O7.out.tst q0 (List.mem_of_getElem? HQ.out)).high; have R7 := Lib.hid (O7.out.tst q0 (List.mem_of_getElem? HQ.out)).own; rw [HTV.out] at R7 HIGH; unfold testV; have zr7 : gr ≠ w7.heap.size := (by omega); have zr7' : gr < w7.heap.size := (by omega); have zs7 : w1.heap.size ≠ w7.heap.size := (by omega); have zs7' : w1.heap.size < w7.heap.size := (by omega)))
                (try go_wp2_with fail)
                refine hK.out _ _ ?_ (fun hHeld => ?_)
                · ((try dsimp only); (simp [go_sem, *]))
                clear hK K
                (try simp only [Act.put, List.setIfInBounds_toArray, List.set_cons_zero, List.set_cons_succ])
                refine wpAnyH_ready (rs := [8, 15]) (by kernel_rfl) (by simp) ?_
                refine AllReadyH.cons (o := _) rfl (fun K hK => ?_) ?_
                · go_simp
                  refine hK.out _ _ ?_ (fun hHeld => ?_)
                  · ((try dsimp only); (simp [go_sem, *]))
                  clear hK K
                  (try simp only [Act.put, List.setIfInBounds_toArray, List.set_cons_zero, List.set_cons_succ])
                  refine wpAnyH_ready (rs := [15]) (by kernel_rfl) (by simp) ?_
                  refine AllReadyH.cons (o := _) rfl (fun K hK => ?_) AllReadyH.nil
                  go_simp
                  refine hK.out _ _ ?_ (fun hHeld => ?_)
                  · ((try dsimp only); (simp [go_sem, *]))
                  clear hK K
                  (try simp only [Act.put, List.setIfInBounds_toArray, List.set_cons_zero, List.set_cons_succ])
                  refine wpAnyH_ready (rs := [16]) (by kernel_rfl) (by simp) ?_
                  refine AllReadyH.cons (o := _) rfl (fun K hK => ?_) AllReadyH.nil
                  (refine step_append_rd _ (by rfl) _ _ _ (by rfl) (w.heap.size + 1 + 1) 52 j0 _ 4 32 Tryd.underlying35 hj0 hy0 hy1 hy2 rfl (by omega) (.slice TA q0.1.ts.length tc) q0.1.ts.length (tsts q0.1.ts) (by rfl) (R7.out.alloc _) (w7.heap.size + 1) (some ⟨w7.heap.size, 0, none⟩) 3 3 _ (by rfl) (rd_new (w := w7) rfl 52 4 3 (tsts [⟨f5, m5, o5, y5⟩, ⟨f6, m6, o6, y6⟩, ⟨f7, m7, o7, y7⟩]) rfl) (one_tsts _) (by unfold maxLen; omega) (by omega) (by simp; omega) ?_; intro A8 c8 w8 ho8 hg8 ha8; have KO := (O7.out.up (w' := w7.alloc (.cells (tsts [⟨f5, m5, o5, y5⟩, ⟨f6, m6, o6, y6⟩, ⟨f7, m7, o7, y7⟩]).toArray 52)) (Below.alloc (Below.refl _ _) (Nat.le_refl _) _)).fourApp (by decide) HQ.out (by rw [HTV.out]; exact hg8); have k83 := KO.1; rw [HTV.out] at k83; have k8f := KO.2; clear KO; have hs8 := hg8.size; (try simp at hs8); have B8 := Lib.hid ((B7.out.alloc _).gn hg8 (fun e => by have := (R7.out.lt _ e).1; omega)); have X8 := Lib.hid ((X7.out.alloc _).gn hg8 (fun e => by have := (HIGH.out _ e); omega)); have x80 := X8.out.cell (i := 0) rfl; have D8 := Lib.hid ((D7.out.upto (Below.alloc (Below.refl _ _) (Nat.le_refl _) _)).other hg8 (fun b e => by have := (R7.out.lt b e).1; omega)); have G8 := Lib.hid (gr_grown (gr_alloc G7.out _) hg8 (fun b e => .inr (by have := (R7.out.lt b e).1; omega))); have HG8 := Lib.hid hg8; have HO8 := Lib.hid ho8; clear hg8 ho8 ha8)
                  refine hK.out _ _ ?_ (fun hHeld => ?_)
                  · ((try dsimp only); (simp [go_sem, *]))
                  clear hK K
                  (try simp only [Act.put, List.setIfInBounds_toArray, List.set_cons_zero, List.set_cons_succ])
                  refine wpAnyH_take (i := 17) (oi := _) (v := ?_) rfl (by kernel_rfl) (by kernel_rfl) (by kernel_rfl) (fun _ _ _ h => h) (Or.inl ⟨by rfl, ?_⟩) (by assumption) ?_
                  rotate_left
                  · (intro w hSw; (try dsimp only at hSw); go_simp; (try with_reducible rfl))
                  (try simp only [Act.put, List.setIfInBounds_toArray, List.set_cons_zero, List.set_cons_succ])
                  refine wpAnyH_take (i := 18) (oi := _) (v := ?_) rfl (by kernel_rfl) (by kernel_rfl) (by kernel_rfl) (fun _ _ _ h => h) (Or.inl ⟨by rfl, ?_⟩) (by assumption) ?_
                  rotate_left
                  · (intro w hSw; (try dsimp only at hSw); go_simp; (try with_reducible rfl))
                  (try simp only [Act.put, List.setIfInBounds_toArray, List.set_cons_zero, List.set_cons_succ])
                  refine wpAnyH_ready (rs := [19]) (by kernel_rfl) (by simp) ?_
                  refine AllReadyH.cons (o := _) rfl (fun K hK => ?_) AllReadyH.nil
                  go_simp
                  refine hK.out _ _ ?_ (fun hHeld => ?_)
                  · ((try dsimp only); (simp [go_sem, *]))
                  clear hK K
                  (try simp only [Act.put, List.setIfInBounds_toArray, List.set_cons_zero, List.set_cons_succ])
                  refine wpAnyH_done (by kernel_rfl) ?_ _
                  (go_wp2_with fail; go_meet; refine ⟨_, _, _, _, q7, B8.out.far (by simp; omega) _, X8.out.far (by simp; omega) _, Lib.hid ((OP.putTs (hi' := w8.heap.size) (ts := q0.1.ts ++ [⟨f5, m5, o5, y5⟩, ⟨f6, m6, o6, y6⟩, ⟨f7, m7, o7, y7⟩]) (O7.out.up (w' := w7.alloc (.cells (tsts [⟨f5, m5, o5, y5⟩, ⟨f6, m6, o6, y6⟩, ⟨f7, m7, o7, y7⟩]).toArray 52)) (Below.alloc (Below.refl _ _) (Nat.le_refl _) _)) (by decide) P1.out HQ.out (by rw [HTV.out]; exact HG8.out) ?_ (by omega) (Nat.le_refl _)).wide (Nat.le_refl _) (by simp)), .inl rfl, ls_set (ls_more LS.out (by omega)) (by simp; omega), D8.out.far (by simp; omega) _, by omega, by omega, gr_set G8.out (.inr (by simp; omega)) _⟩; have ho := HO8.out; rw [List.length_append, tsts_app]; exact ho)
                refine AllReadyH.cons (o := _) rfl (fun K hK => ?_) ?_
                · go_simp
                  refine hK.out _ _ ?_ (fun hHeld => ?_)
                  · ((try dsimp only); (simp [go_sem, *]))
                  clear hK K
                  (try simp only [Act.put, List.setIfInBounds_toArray, List.set_cons_zero, List.set_cons_succ])
                  refine wpAnyH_ready (rs := [8]) (by kernel_rfl) (by simp) ?_
                  refine AllReadyH.cons (o := _) rfl (fun K hK => ?_) AllReadyH.nil
                  go_simp
                  refine hK.out _ _ ?_ (fun hHeld => ?_)
                  · ((try dsimp only); (simp [go_sem, *]))
                  clear hK K
                  (try simp only [Act.put, List.setIfInBounds_toArray, List.set_cons_zero, List.set_cons_succ])
                  refine wpAnyH_ready (rs := [16]) (by kernel_rfl) (by simp) ?_
                  refine AllReadyH.cons (o := _) rfl (fun K hK => ?_) AllReadyH.nil
                  (refine step_append_rd _ (by rfl) _ _ _ (by rfl) (w.heap.size + 1 + 1) 52 j0 _ 4 32 Tryd.underlying35 hj0 hy0 hy1 hy2 rfl (by omega) (.slice TA q0.1.ts.length tc) q0.1.ts.length (tsts q0.1.ts) (by rfl) (R7.out.alloc _) (w7.heap.size + 1) (some ⟨w7.heap.size, 0, none⟩) 3 3 _ (by rfl) (rd_new (w := w7) rfl 52 4 3 (tsts [⟨f5, m5, o5, y5⟩, ⟨f6, m6, o6, y6⟩, ⟨f7, m7, o7, y7⟩]) rfl) (one_tsts _) (by unfold maxLen; omega) (by omega) (by simp; omega) ?_; intro A8 c8 w8 ho8 hg8 ha8; have KO := (O7.out.up (w' := w7.alloc (.cells (tsts [⟨f5, m5, o5, y5⟩, ⟨f6, m6, o6, y6⟩, ⟨f7, m7, o7, y7⟩]).toArray 52)) (Below.alloc (Below.refl _ _) (Nat.le_refl _) _)).fourApp (by decide) HQ.out (by rw [HTV.out]; exact hg8); have k83 := KO.1; rw [HTV.out] at k83; have k8f := KO.2; clear KO; have hs8 := hg8.size; (try simp at hs8); have B8 := Lib.hid ((B7.out.alloc _).gn hg8 (fun e => by have := (R7.out.lt _ e).1; omega)); have X8 := Lib.hid ((X7.out.alloc _).gn hg8 (fun e => by have := (HIGH.out _ e); omega)); have x80 := X8.out.cell (i := 0) rfl; have D8 := Lib.hid ((D7.out.upto (Below.alloc (Below.refl _ _) (Nat.le_refl _) _)).other hg8 (fun b e => by have := (R7.out.lt b e).1; omega)); have G8 := Lib.hid (gr_grown (gr_alloc G7.out _) hg8 (fun b e => .inr (by have := (R7.out.lt b e).1; omega))); have HG8 := Lib.hid hg8; have HO8 := Lib.hid ho8; clear hg8 ho8 ha8)
                  refine hK.out _ _ ?_ (fun hHeld => ?_)
                  · ((try dsimp only); (simp [go_sem, *]))
                  clear hK K
                  (try simp only [Act.put, List.setIfInBounds_toArray, List.set_cons_zero, List.set_cons_succ])
                  refine wpAnyH_take (i := 17) (oi := _) (v := ?_) rfl (by kernel_rfl) (by kernel_rfl) (by kernel_rfl) (fun _ _ _ h => h) (Or.inl ⟨by rfl, ?_⟩) (by assumption) ?_
                  rotate_left
                  · (intro w hSw; (try dsimp only at hSw); go_simp; (try with_reducible rfl))
                  (try simp only [Act.put, List.setIfInBounds_toArray, List.set_cons_zero, List.set_cons_succ])
                  refine wpAnyH_take (i := 18) (oi := _) (v := ?_) rfl (by kernel_rfl) (by kernel_rfl) (by kernel_rfl) (fun _ _ _ h => h) (Or.inl ⟨by rfl, ?_⟩) (by assumption) ?_
                  rotate_left
                  · (intro w hSw; (try dsimp only at hSw); go_simp; (try with_reducible rfl))
                  (try simp only [Act.put, List.setIfInBounds_toArray, List.set_cons_zero, List.set_cons_succ])
                  refine wpAnyH_ready (rs := [19]) (by kernel_rfl) (by simp) ?_
                  refine AllReadyH.cons (o := _) rfl (fun K hK => ?_) AllReadyH.nil
                  go_simp
                  refine hK.out _ _ ?_ (fun hHeld => ?_)
                  · ((try dsimp only); (simp [go_sem, *]))
                  clear hK K
                  (try simp only [Act.put, List.setIfInBounds_toArray, List.set_cons_zero, List.set_cons_succ])
                  refine wpAnyH_done (by kernel_rfl) ?_ _
                  (go_wp2_with fail; go_meet; refine ⟨_, _, _, _, q7, B8.out.far (by simp; omega) _, X8.out.far (by simp; omega) _, Lib.hid ((OP.putTs (hi' := w8.heap.size) (ts := q0.1.ts ++ [⟨f5, m5, o5, y5⟩, ⟨f6, m6, o6, y6⟩, ⟨f7, m7, o7, y7⟩]) (O7.out.up (w' := w7.alloc (.cells (tsts [⟨f5, m5, o5, y5⟩, ⟨f6, m6, o6, y6⟩, ⟨f7, m7, o7, y7⟩]).toArray 52)) (Below.alloc (Below.refl _ _) (Nat.le_refl _) _)) (by decide) P1.out HQ.out (by rw [HTV.out]; exact HG8.out) ?_ (by omega) (Nat.le_refl _)).wide (Nat.le_refl _) (by simp)), .inl rfl, ls_set (ls_more LS.out (by omega)) (by simp; omega), D8.out.far (by simp; omega) _, by omega, by omega, gr_set G8.out (.inr (by simp; omega)) _⟩; have ho := HO8.out; rw [List.length_append, tsts_app]; exact ho)
                exact AllReadyH.nil
              exact AllReadyH.nil
            exact AllReadyH.nil
          exact AllReadyH.nil
        have k3' : (x4 == 3) = false := by simpa using h3
        clear c0 c1' c2' c3' cf x0
        go_wp2_with fail
        go_loopg [] (9 - rs.length) (fun gk wr => ∃ (A' : Option Addr) (n' c' : Nat) (qs' : List (Rl × Value)), gk + n' = 9 ∧ rs.length ≤ n' ∧ Hid (Blk wr (w.heap.size + 1) 25 [.slice none 0 0, .int .i64 0]) ∧ Hid (Blk wr w1.heap.size 25 [.slice A' n' c', .int .i64 e]) ∧ Hid (OP wr (w.heap.size + 1 + 1) wr.heap.size 37 52 A' n' c' qs') ∧ Hid (∀ q ∈ qs', q.1.ts.length ≤ 8) ∧
          Hid (Dr wr g 56 q4 A n c xs) ∧ Hid (w.grownBy wr (some g)) ∧ w1.heap.size < wr.heap.size)
        case atStart => exact ⟨_, rs.length, c1, qs, by omega, Nat.le_refl _, B4, X4, O4.out.wide (Nat.le_refl _) (by omega), Lib.hid (ls_more LS.out (by omega)), D4, G4, by omega⟩
        case round =>
          obtain ⟨A', n', c', qs', hgk, hn', HB, HX, HO, HL, HD, HG, hzr⟩ := hrel
          have x0 := HX.out.cell (i := 0) rfl
          have xf := HX.out.free
          by_cases hg0 : gk = 0
          · subst hg0
            obtain rfl : n' = 9 := by omega
            go_wp2_with fail
            go_meet
            exact ⟨A', 9, c', qs', q4, HB, HX, HO, .inr rfl, HL, HD, by omega, by omega, HG⟩
          · obtain ⟨gk, rfl⟩ : ∃ m, gk = m + 1 := ⟨gk - 1, by omega⟩
            obtain ⟨gs, qk, TB, tb, rfl, hlo', hhi', hgs', hqk, htvk, c0, c1', c2', c3', cf, htl'⟩ := HO.out.at_ (k := k) (by omega)
            have HQK := Lib.hid hqk
            have HTK := Lib.hid htvk
            have hqm := List.mem_of_getElem? hqk
            have hgx : gs ≠ w1.heap.size := fun ee => by have hh := HO.out.own; rw [ee] at hh; exact own_notB hh HX.out (by decide)
            have hgx' := Ne.symm hgx
            have hkn : (k : Int) < (n' : Int) := by omega
            have hgw : gs ≠ wr.heap.size := by omega
            have hzx : w1.heap.size ≠ wr.heap.size := by omega
            have HOW := Lib.hid ((HO.out.up (w' := wr.alloc (.cells #[.int .i64 qk.1.v, .int .i64 qk.1.lo, .int .i64 qk.1.hi, .slice TB qk.1.ts.length tb] 37)) (by go_grown)).drew)
            have hC := rd_new (w := wr) rfl 37 4 1 (rcells [(qk.1, .slice TB qk.1.ts.length tb)]) rfl
            have hqe : (qk.1, Value.slice TB qk.1.ts.length tb) = qk := by rw [← htvk]
            rw [hqe] at hC
            have HC : Hid (Rd (wr.alloc (.cells #[.int .i64 qk.1.v, .int .i64 qk.1.lo, .int .i64 qk.1.hi, .slice TB qk.1.ts.length tb] 37)).drew (wr.heap.size + 1) 4 (some ⟨wr.heap.size, 0, none⟩) 1 (rcells [qk])) := Lib.hid (by rw [← hqe] at hC ⊢; exact hC)
            have HQM := Lib.hid hqm
            clear hqk htvk hqe hC hqm
            go_wp2
            go_region_law (refine step_append_rd _ (by rfl) _ _ _ (by rfl) (w.heap.size + 1 + 1) 37 i0 _ 4 48 Tryd.underlying23 hi0 hz0 hz1 hz2 rfl (by omega) (.slice (some ⟨gs, 0, none⟩) n' c') n' (rcells qs') (by rfl) HOW.out.own (wr.heap.size + 1) (some ⟨wr.heap.size, 0, none⟩) 1 1 (rcells [qk]) (by rfl) HC.out (one_rcells (fun q hq => by rw [List.mem_singleton.1 hq]; exact HOW.out.tst qk HQM.out)) (by unfold maxLen; omega) (by omega) (by simp; omega) ?_; intro A9 c9 w9 ho9 hg9 ha9; have hs9 := hg9.size; (try simp at hs9); have O9 := Lib.hid (HOW.out.app (by decide) (hi' := w9.heap.size) (fun q hq => by rw [List.mem_singleton.1 hq]; exact (HOW.out.tst qk HQM.out).wide (Nat.le_refl _) (by omega)) (by omega) ho9 hg9 (Nat.le_refl _)); have B9 := Lib.hid ((HB.out.alloc _).drew.gn hg9 (fun e => by have := ob_of e; omega)); have X9 := Lib.hid ((HX.out.alloc _).drew.gn hg9 (fun e => by have := ob_of e; omega)); have D9 := Lib.hid (((HD.out.upto (Below.alloc (Below.refl _ _) (Nat.le_refl _) _)).drewN 1).other hg9 (fun b e => by have := ob_of e; omega)); have G9 := Lib.hid (gr_grown (gr_drew (gr_alloc HG.out _)) hg9 (fun b e => .inr (by have := ob_of e; omega))); have x90 := X9.out.cell (i := 0) rfl; have xf9 := X9.out.free; clear ho9 hg9 ha9)
            all_goals
              go_wp2
              go_roundg gk
              case measure => omega
              case rel =>
                go_light
                exact ⟨A9, n' + 1, c9, _, by omega, by omega, B9.out.far (by simp; omega) _, X9.out.set_ 0 _, Lib.hid ((O9.out.setB X9.out (by decide) (by decide) _).wide (Nat.le_refl _) (by simp)), Lib.hid (ls_add HL.out (HL.out qk HQM.out)), D9.out.far (by simp; omega) _, gr_set G9.out (.inr (by simp; omega)) _, by simp; omega⟩
      case rest =>
        obtain ⟨A', n', c', qs', q, HB, HX, HO, hn9, HL, HD, hq1', hq2', HG⟩ := hcut
        have x0 := HX.out.cell (i := 0) rfl
        have x1' := HX.out.cell (i := 1) rfl
        have b0 := HB.out.cell (i := 0) rfl
        have b1 := HB.out.cell (i := 1) rfl
        have bf := HB.out.free
        have n1' : w1.heap.size ≠ w.heap.size + 1 := Ne.symm n1
        go_wp2
        refine bodyPost_ret (v := .agg #[.slice A' n' c', .int .i64 e]) (by simp [results, Tryd.results14, go_sem, b0, b1, n1, n1']) rfl ?_
        go_light
        exact ⟨_, q, rfl, ⟨A', n', c', qs', e, rfl, (((HO.out.set_ (g := w.heap.size + 1) (o := 0) (.inl (by omega)) _).set_ (g := w.heap.size + 1) (o := 1) (.inl (by omega)) _).wide (by omega) (by simp)), by omega, HL.out⟩, (HD.out.far (by simp; omega) _).far (by simp; omega) _, by omega, by omega, gr_set (gr_set HG.out (.inr (by simp)) _) (.inr (by simp)) _⟩
end Go.Proofs.YtmfienlceobfeaaDoor
