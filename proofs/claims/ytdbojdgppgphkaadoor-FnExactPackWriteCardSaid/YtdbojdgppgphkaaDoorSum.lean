/- The contract of the sum of what was taken. Conditions: each contract's own. -/
import Derived.Test.YtdbojdgppgphkaaDoorTake
import Derived.Deep.CutBlock
import Derived.Laws.BytesArg
namespace Go.Proofs.YtdbojdgppgphkaaDoor
set_option linter.unusedSimpArgs false
open Go.RowKit
set_option linter.unusedVariables false
set_option linter.unnecessarySimpa false
theorem eat_len (st : List Int × List Int) (b : Int) (h : st.2.length < 64) : (eat st b).2.length = (st.2.length + 1) % 64 := by
  unfold eat
  split
  · rename_i h1; rw [h1]; rfl
  · simp; omega
theorem absorb_len (st : List Int × List Int) (l : List Int) (h : st.2.length < 64) : (absorb st l).2.length = (st.2.length + l.length) % 64 := by
  induction l generalizing st with
  | nil => show st.2.length = _; simp; omega
  | cons b l ih =>
    show (absorb (eat st b) l).2.length = _
    rw [ih _ (by rw [eat_len st b h]; omega), eat_len st b h]
    simp only [List.length_cons]; omega
/-- How many noughts fill up to 56. -/
def padZ (n : Nat) : Nat := (120 - n % 64) % 64
theorem padZ_of {n k : Nat} (h : (n + k) % 64 = 56) (hm : ∀ j, j < k → (n + j) % 64 ≠ 56) : k = padZ n := by
  unfold padZ
  have hz : (n + (120 - n % 64) % 64) % 64 = 56 := by omega
  rcases Nat.lt_trichotomy k ((120 - n % 64) % 64) with hk | hk | hk
  · omega
  · exact hk
  · exact absurd hz (hm _ hk)
theorem absorb_rep (st : List Int × List Int) (k : Nat) : absorb (absorb st ([128] ++ List.replicate k 0)) [0] = absorb st ([128] ++ List.replicate (k + 1) 0) := by
  rw [← absorb_append, List.append_assoc, List.replicate_succ']
theorem u8s_set (l : List Int) (k : Nat) (x : Int) : (u8s l).set k (.int .u8 x) = u8s (l.set k x) := by simp [u8s, List.map_set]
def be (n : Int) (k : Nat) : List Int := (List.range k).map (fun i => n / 2 ^ (56 - 8 * i) % 256)
theorem be_succ (n : Int) (k : Nat) : be n (k + 1) = be n k ++ [n / 2 ^ (56 - 8 * k) % 256] := by simp [be, List.range_succ]
theorem be_len (n : Int) (k : Nat) : (be n k).length = k := by simp [be]
theorem be_byte (n : Int) (k : Nat) : ∀ x ∈ be n k, 0 ≤ x ∧ x ≤ 255 := by
  intro x hx
  simp only [be, List.mem_map] at hx
  obtain ⟨i, _, rfl⟩ := hx
  omega
/-- What is taken behind n bytes. -/
def padOf (n : Nat) : List Int := [128] ++ List.replicate (padZ (n + 1)) 0 ++ be ((n : Int) * 8) 8
def four (x : Int) : List Int := [x / 16777216, x / 65536 % 256, x / 256 % 256, x % 256]
def flat (ws : List Int) : List Int := (ws.map four).flatten
theorem flat_succ {l : List Int} {k : Nat} {x : Int} (h : l[k]? = some x) : flat (l.take (k + 1)) = flat (l.take k) ++ four x := by
  unfold flat
  rw [List.take_add_one, h]; simp
theorem index_arr {P : Program} (t e : TypeId) (n : Nat) (cs : Array Value) (k : Nat) (v : Value) (w : World) (h : P.underlying t = some (.array n e)) (he : P.plainKey e = true) (hs : (sizeOf e).run P w = .ok 1 w) (hk : k < n) (hv : cs[k]? = some v) :
    (Instr.index t (.agg cs) (.int .i64 (k : Int))).run P w = .ok v w := by
  have hn : 0 ≤ (k : Int) ∧ (k : Int) < (n : Int) := by omega
  have hp := run_part_plain (P := P) (w := w) he hv
  unfold part at hp
  simp [Instr.index, part, run_underlying h, asIntOf, hn, go_sem, hs, hk]
  simpa [go_sem, hs] using hp
theorem bytesI_strOfNums (l : List Int) (h : ∀ x ∈ l, 0 ≤ x ∧ x ≤ 255) : bytesI (strOfNums l) = l := by
  unfold bytesI strOfNums
  simp only [List.map_map]
  induction l with
  | nil => rfl
  | cons a l ih =>
    simp only [List.map_cons]
    rw [ih (fun x hx => h x (List.mem_cons_of_mem _ hx))]
    have := h a (by simp)
    congr 1
    simp
    omega
def initW : List Int := [1779033703, 3144134277, 1013904242, 2773480762, 1359893119, 2600822924, 528734635, 1541459225]
def zeroC : List Value := hcells (List.replicate 8 0) (List.replicate 64 0) 0 0
theorem zeroC_len : zeroC.length = 74 := by decide
theorem init_cells : ((((((((zeroC.set 0 (.int .u32 1779033703)).set 1 (.int .u32 3144134277)).set 2 (.int .u32 1013904242)).set 3 (.int .u32 2773480762)).set 4 (.int .u32 1359893119)).set 5 (.int .u32 2600822924)).set 6 (.int .u32 528734635)).set 7 (.int .u32 1541459225)) = hcells initW (List.replicate 64 0) 0 0 := by rfl
theorem info_hasher : (Tryd.prog.info? 192).map (·.zero) = some (some (.agg zeroC.toArray)) := by kernel_rfl
theorem zero_hasher (W : World) : (zeroValue 192).run Tryd.prog W = .ok (.agg zeroC.toArray) W := by
  have h := info_hasher
  cases hq : Tryd.prog.info? 192 with
  | none => rw [hq] at h; cases h
  | some i =>
    rw [hq] at h
    have hz : i.zero = some (.agg zeroC.toArray) := by simpa using h
    simp [zeroValue, typeInfo, hq, hz]
theorem newHasher_c (w : World) : Calls Tryd.prog 124 #[] w (fun e w' => e = .returned (.pointer (some ⟨w.heap.size, 0, none⟩)) ∧ HS w' w.heap.size 192 (initW, []) (List.replicate 64 0) 0 ∧ Below w.heap.size w w') := by
  have hz := zero_hasher
  have hl := zeroC_len
  have hi := Lib.hid init_cells
  go_enter Tryd.func124, Tryd.ntmps124
  go_wp2
  go_returns
  refine ⟨rfl, ⟨?_, rfl, by simp, ?_, ?_, rfl, by simp⟩, by go_grown⟩
  · have := Blk.new w 192 (hcells initW (List.replicate 64 0) 0 0)
    rw [← hi.out] at this
    exact hi.out ▸ this
  · intro x hx
    simp only [initW, List.mem_cons, List.not_mem_nil, or_false] at hx
    unfold isU32
    omega
  · intro x hx
    have := List.eq_of_mem_replicate hx
    omega
theorem HS.up {w w' : World} {g t : Nat} {st : List Int × List Int} {bs : List Int} {tk : Int} (h : HS w g t st bs tk) (hb : Below w.heap.size w w') : HS w' g t st bs tk := ⟨h.blk.up hb, h.wlen, h.blen, h.wok, h.bok, h.buf, h.less⟩
theorem HS.far {w : World} {g t : Nat} {st : List Int × List Int} {bs : List Int} {tk : Int} (h : HS w g t st bs tk) {p : Addr} (hp : g ≠ p.block) (u : Value) : HS (w.setCell p u) g t st bs tk := ⟨h.blk.far hp u, h.wlen, h.blen, h.wok, h.bok, h.buf, h.less⟩
theorem gr_setRow {a w : World} {g k : Nat} (h : a.grownBy w (some g)) (hk : a.heap.size ≤ k) (cs : Array Value) : a.grownBy (w.setRow k cs) (some g) :=
  ⟨h.os, h.tape, h.output, by simpa using h.size, fun i hi hne => (setRow_other w k i cs (by omega)).trans (h.block i hi hne)⟩
def KT (w : World) : Prop := ∀ i, i < 64 → w.cell? ⟨2, i, none⟩ = some (.int .u32 (roundK.getD i 0))
theorem KT.grown {w w' : World} {g : Nat} (h : KT w) (hG : w.grownBy w' (some g)) (hg : 2 < g) (hz : 2 < w.heap.size) : KT w' :=
  fun i hi => (World.cell?_of_block (w := w) (a := ⟨2, i, none⟩) (hG.block 2 hz (by simp; omega))).trans (h i hi)
theorem KT.up {w w' : World} (h : KT w) (hb : Below w.heap.size w w') (hz : 2 < w.heap.size) : KT w' :=
  fun i hi => (World.cell?_of_block (w := w) (a := ⟨2, i, none⟩) (hb.block 2 hz)).trans (h i hi)
theorem take_x (g : Nat) (st : List Int × List Int) (bs : List Int) (tk : Int) (s : ByteArray) (l : List Int) (w : World) (h : HS w g 192 st bs tk) (hs : bytesI s = l) (h0 : 0 ≤ tk) (h1 : tk + l.length ≤ 1152921504606846976) (hg : 2 < g) (hK : KT w) :
    Calls Tryd.prog 125 #[.pointer (some ⟨g, 0, none⟩), .string s] w (fun e w' => e = .returned (.tuple #[]) ∧ (∃ bs', HS w' g 192 (absorb st l) bs' (tk + l.length)) ∧ w.grownBy w' (some g)) := by
  subst hs
  have := take_c g st bs tk s w h h0 (by rwa [bytesI_len] at h1) hg hK
  rwa [← bytesI_len s] at this
theorem info_a32 : (Tryd.prog.info? 125).map (·.size) = some 32 := by kernel_rfl
theorem plain_u32 : Tryd.prog.plainKey 130 = true := by kernel_rfl
theorem plain_u8 : Tryd.prog.plainKey 5 = true := by kernel_rfl
theorem info_u32 : (Tryd.prog.info? 130).map (·.size) = some 1 := by kernel_rfl
theorem size_u32 (W : World) : (sizeOf 130).run Tryd.prog W = .ok 1 W := by
  have h := info_u32
  cases hq : Tryd.prog.info? 130 with
  | none => rw [hq] at h; cases h
  | some i => rw [hq] at h; simp [sizeOf, typeInfo, hq]; simpa using h
set_option maxHeartbeats 1600000 in
set_option maxRecDepth 100000 in
theorem sum_c (g : Nat) (st : List Int × List Int) (bs : List Int) (n : Nat) (w : World) (h : HS w g 192 st bs n) (h1 : n ≤ 1152921504606840000) (hl : st.2.length = n % 64) (hg : 2 < g) (hK : KT w) :
    Calls Tryd.prog 126 #[.pointer (some ⟨g, 0, none⟩)] w (fun e w' => e = .returned (.agg (u8s (flat (absorb st (padOf n)).1)).toArray) ∧ w.grownBy w' (some g)) := by
  have H := Lib.hid h
  have HK := Lib.hid hK
  have hlt := h.blk.lt
  have ct := h.blk.cell (hcells_t h.wlen h.blen)
  have cf := h.blk.free
  clear h hK
  go_enter Tryd.func126, Tryd.ntmps126
  have hz : 2 < w.heap.size := by omega
  (go_wp2_with fail); (go_at_call 125; refine (take_x g st bs n _ [128] _ (H.out.up (by go_grown)) rfl (by omega) (by simp; omega) hg (HK.out.up (by go_grown) hz)).mono ?_; rintro e w1 ⟨rfl, ⟨bs1, h1'⟩, g1⟩; have H1 := Lib.hid h1'; have G1 := Lib.hid (gr_via (gr_alloc (gr_refl w g) _) g1); have hs1 := g1.size; have R0 := Lib.hid ((Blk.new w 125 (List.replicate 32 (.int .u8 0))).other g1 (by simp; omega)); clear h1' g1)
  simp at hs1
  have L1 := Lib.hid (absorb_len st [128] H.out.less)
  go_wp2
  go_loopg [] 64 (fun gk wr => ∃ (k : Nat) (bs' : List Int), gk + k = 64 ∧ Hid (HS wr g 192 (absorb st ([128] ++ List.replicate k 0)) bs' (n + 1 + k)) ∧ Hid (∀ j, j < k → (n + 1 + j) % 64 ≠ 56) ∧ Hid (w.grownBy wr (some g)) ∧ Hid (Blk wr w.heap.size 125 (List.replicate 32 (.int .u8 0))))
  case atStart => exact ⟨0, bs1, rfl, Lib.hid (by simpa using H1.out), Lib.hid (fun j hj => absurd hj (by omega)), G1, R0⟩
  case round =>
    obtain ⟨kz, bs', hgk, HH, HM, HG, HR⟩ := hrel
    have hll : (absorb st ([128] ++ List.replicate kz 0)).2.length = (n + 1 + kz) % 64 := by
      rw [absorb_len _ _ H.out.less, hl]; simp; omega
    have c72 := HH.out.blk.cell (hcells_u HH.out.wlen HH.out.blen)
    rw [hll] at c72
    have hgs := HG.out.size
    by_cases hk : (n + 1 + kz) % 64 = 56
    · have hq : ((((n + 1 + kz) % 64 : Nat) : Int) == 56) = true := by simp; omega
      have KZ := Lib.hid (padZ_of hk HM.out)
      rw [hk] at c72
      go_upto_block 7 with (fail)
      have hB0 : w.heap.size < wr.heap.size := HR.out.lt
      have hgB : g < wr.heap.size := HH.out.blk.lt
      have K3 := Lib.hid (HK.out.grown HG.out hg hz)
      have TB := Lib.hid (Blk.new wr 193 (u8s (List.replicate 8 0)))
      have H3 := Lib.hid (HH.out.up (Below.alloc (Below.refl _ _) (Nat.le_refl _) (.cells (u8s (List.replicate 8 0)).toArray 193)))
      have G3 := Lib.hid (gr_alloc HG.out (.cells (u8s (List.replicate 8 0)).toArray 193))
      have R3 := Lib.hid (HR.out.alloc (.cells (u8s (List.replicate 8 0)).toArray 193))
      have N3 := Lib.hid hll
      clear hll HH HG HR hgs
      generalize hB4 : wr.heap.size = B4 at *
      go_loopg [23] 8 (fun gk i wr => ∃ (k : Nat) (zs : List Int), gk + k = 8 ∧ i = .int .i64 k ∧ Hid (zs.length = 8) ∧ Hid (zs.take k = be ((n : Int) * 8) k) ∧ Hid (Blk wr B4 193 (u8s zs)) ∧ Hid (HS wr g 192 (absorb st ([128] ++ List.replicate kz 0)) bs' (n + 1 + kz)) ∧ Hid (w.grownBy wr (some g)) ∧ Hid (Blk wr w.heap.size 125 (List.replicate 32 (.int .u8 0))))
      case atStart => exact ⟨0, List.replicate 8 0, rfl, rfl, rfl, rfl, TB, H3, G3, R3⟩
      case round =>
        obtain ⟨k, zs, hgk, rfl, HZ, HT, TB, HH, HG, HR⟩ := hrel
        by_cases hk : k < 8
        · obtain ⟨gk, rfl⟩ : ∃ m, gk = m + 1 := ⟨gk - 1, by omega⟩
          obtain ⟨z, hzz⟩ := some_at HZ.out hk
          have cz := TB.out.cell (u8s_at hzz)
          have cf := TB.out.free
          clear hzz
          go_wp2
          go_roundg gk
          case measure => omega
          case rel =>
            go_light
            have hs := set_take (x := (n : Int) * 8 / 2 ^ (56 - 8 * k) % 256) HT.out (by rw [HZ.out]; omega)
            exact ⟨k + 1, zs.set k ((n : Int) * 8 / 2 ^ (56 - 8 * k) % 256), by omega, by go_num, by simpa [Hid] using HZ.out, Lib.hid ((be_succ _ _).symm ▸ hs), (u8s_set _ _ _ ▸ TB.out.set_ k (.int .u8 ((n : Int) * 8 / 2 ^ (56 - 8 * k) % 256)) : Blk _ _ _ _), HH.out.far (by simp; omega) _, gr_set HG.out (.inr (by simp; omega)) _, HR.out.far (by simp; omega) _⟩
        · obtain rfl : k = 8 := by omega
          have hzz := HT.out
          rw [List.take_of_length_le (by rw [HZ.out]; omega)] at hzz
          have hconv := run_convert_bytes_arg (P := Tryd.prog) wr 24 5 Tryd.underlying24 Tryd.underlying5 B4 0 8 8 (be ((n : Int) * 8) 8) (be_len _ _) (fun i hi => by
            have hx : (u8s zs)[i]? = some (.int .u8 ((be ((n : Int) * 8) 8).getD i 0)) := by
              rw [hzz]
              obtain ⟨x, hx⟩ := some_at (be_len ((n : Int) * 8) 8) hi
              rw [getD_of hx]; exact u8s_at hx
            have := TB.out.cell hx
            simpa using this) 9 Tryd.underlying9
          have HB8 := Lib.hid (bytesI_strOfNums _ (be_byte ((n : Int) * 8) 8))
          have HL8 := Lib.hid (be_len ((n : Int) * 8) 8)
          clear hzz
          (go_wp2_with fail); (go_at_call 125; refine (take_x g _ bs' (n + 1 + kz) _ (be ((n : Int) * 8) 8) _ HH.out HB8.out (by omega) (by rw [HL8.out]; omega) hg (HK.out.grown HG.out hg hz)).mono ?_; rintro e w5 ⟨rfl, ⟨bs5, h5'⟩, g5⟩; have H5 := Lib.hid h5'; have G5 := Lib.hid (gr_via HG.out g5); have R5 := Lib.hid (HR.out.other g5 (by simp; omega)); clear h5' g5)
          have hE : absorb (absorb st ([128] ++ List.replicate kz 0)) (be ((n : Int) * 8) 8) = absorb st (padOf n) := by
            rw [← absorb_append, KZ.out]; rfl
          rw [hE] at H5
          clear hE
          have hfin : ∃ ws fb, absorb st (padOf n) = (ws, fb) := ⟨_, _, rfl⟩
          obtain ⟨ws, fb, hfin⟩ := hfin
          rw [hfin] at H5
          have HFIN := Lib.hid hfin
          clear hfin
          have HW := Lib.hid (H5.out.wlen : ws.length = 8)
          match ws, HW, HFIN, H5 with
          | [v0, v1, v2, v3, v4, v5, v6, v7], HW, HFIN, H5 =>
          have e0 : w5.cell? ⟨g, 0, none⟩ = some (.int .u32 v0) := H5.out.blk.cell rfl
          have e1 : w5.cell? ⟨g, 1, none⟩ = some (.int .u32 v1) := H5.out.blk.cell rfl
          have e2 : w5.cell? ⟨g, 2, none⟩ = some (.int .u32 v2) := H5.out.blk.cell rfl
          have e3 : w5.cell? ⟨g, 3, none⟩ = some (.int .u32 v3) := H5.out.blk.cell rfl
          have e4 : w5.cell? ⟨g, 4, none⟩ = some (.int .u32 v4) := H5.out.blk.cell rfl
          have e5 : w5.cell? ⟨g, 5, none⟩ = some (.int .u32 v5) := H5.out.blk.cell rfl
          have e6 : w5.cell? ⟨g, 6, none⟩ = some (.int .u32 v6) := H5.out.blk.cell rfl
          have e7 : w5.cell? ⟨g, 7, none⟩ = some (.int .u32 v7) := H5.out.blk.cell rfl
          have h5 : w.heap.size < w5.heap.size := R5.out.lt
          have h5g : g < w5.heap.size := H5.out.blk.lt
          have TB5 := Lib.hid (Blk.new w5 125 (List.replicate 32 (.int .u8 0)))
          have G6 := Lib.hid (gr_alloc G5.out (.cells (List.replicate 32 (Value.int .u8 0)).toArray 125))
          have R6 := Lib.hid (R5.out.alloc (.cells (List.replicate 32 (Value.int .u8 0)).toArray 125))
          go_upto_block 14 with (fail)
          clear hconv HB8 HL8 e0 e1 e2 e3 e4 e5 e6 e7
          generalize hB6 : w5.heap.size = B6 at *
          go_loopg [43] 8 (fun gk i wr => ∃ (k : Nat) (zs : List Value), gk + k = 8 ∧ i = .int .i64 k ∧ Hid (zs.length = 32) ∧ Hid (zs.take (4 * k) = u8s (flat ([v0, v1, v2, v3, v4, v5, v6, v7].take k))) ∧ Hid (Blk wr B6 125 zs) ∧ Hid (w.grownBy wr (some g)) ∧ Hid (Blk wr w.heap.size 125 (List.replicate 32 (.int .u8 0))))
          case atStart => exact ⟨0, List.replicate 32 (.int .u8 0), rfl, rfl, rfl, rfl, TB5, G6, R6⟩
          case round =>
            obtain ⟨k, zs, hgk, rfl, HZ, HT, TB, HG, HR⟩ := hrel
            by_cases hk : k < 8
            · obtain ⟨gk, rfl⟩ : ∃ m, gk = m + 1 := ⟨gk - 1, by omega⟩
              obtain ⟨z0, hz0⟩ := some_at HZ.out (show 4 * k < 32 by omega)
              obtain ⟨z1, hz1⟩ := some_at HZ.out (show 4 * k + 1 < 32 by omega)
              obtain ⟨z2, hz2⟩ := some_at HZ.out (show 4 * k + 2 < 32 by omega)
              obtain ⟨z3, hz3⟩ := some_at HZ.out (show 4 * k + 3 < 32 by omega)
              have c0 := TB.out.cell hz0
              have c1 := TB.out.cell hz1
              have c2 := TB.out.cell hz2
              have c3 := TB.out.cell hz3
              have cf := TB.out.free
              clear hz0 hz1 hz2 hz3
              obtain ⟨x, hx⟩ := some_at (show [v0, v1, v2, v3, v4, v5, v6, v7].length = 8 from rfl) hk
              have hix := fun W => index_arr (P := Tryd.prog) 190 130 8 #[.int .u32 v0, .int .u32 v1, .int .u32 v2, .int .u32 v3, .int .u32 v4, .int .u32 v5, .int .u32 v6, .int .u32 v7] k (.int .u32 x) W Tryd.underlying190 plain_u32 (size_u32 W) hk (by
                have := u32s_at hx
                simpa [u32s] using this)
              have UX : isU32 x := H5.out.wok x (List.mem_of_getElem? hx)
              have UX0 := UX.1
              have UX1 := UX.2
              have HFX := Lib.hid (flat_succ hx)
              clear hx
              go_wp2
              go_roundg gk
              case measure => omega
              case rel =>
                go_light
                have hs := setL_take zs (4 * k) (u8s (four x)) (by rw [HZ.out]; simp [u8s, four]; omega)
                refine ⟨k + 1, setL zs (4 * k) (u8s (four x)), by omega, by go_num, by rw [setL_len]; exact HZ.out, ?_, (((TB.out.set_ (4 * k) _).set_ (4 * k + 1) _).set_ (4 * k + 2) _).set_ (4 * k + 3) _, gr_set (gr_set (gr_set (gr_set HG.out (.inr (by simp; omega)) _) (.inr (by simp; omega)) _) (.inr (by simp; omega)) _) (.inr (by simp; omega)) _, (((HR.out.far (by simp; omega) _).far (by simp; omega) _).far (by simp; omega) _).far (by simp; omega) _⟩
                show _ = _
                have e4 : (u8s (four x)).length = 4 := rfl
                rw [e4] at hs
                rw [show 4 * (k + 1) = 4 * k + 4 from by omega, hs, HT.out, HFX.out]
                simp [u8s]
            · obtain rfl : k = 8 := by omega
              have ht := HT.out
              rw [List.take_of_length_le (by rw [HZ.out]; omega)] at ht
              have HTE := Lib.hid ht
              clear ht HT
              have hi32 : (Tryd.prog.info? 125).map (·.size) = some zs.toArray.size := by
                rw [List.size_toArray, HZ.out]; exact info_a32
              have h1c : zs.toArray.all (·.oneCell') = true := by
                rw [HTE.out]; simp [u8s, Value.oneCell']
              go_wp2_with (first
                | (refine wpList_load_row rfl 125 _ rfl B6 rfl 125 zs.toArray (0, 0) _ TB.out Tryd.underlying125 rfl hi32 ?_)
                | (refine wpList_store_row rfl 125 _ _ rfl w.heap.size zs.toArray rfl rfl 125 _ HR.out hi32 (by simp [HZ.out]) h1c ?_))
              refine bodyPost_ret (v := .agg zs.toArray) (results_cell_row Tryd.results126 _ _ w.heap.size 125 zs.toArray (0, 0) _ (by rfl) (setRow_heap wr w.heap.size _ _ 125 (0, 0) HR.out) Tryd.underlying125 rfl hi32) rfl ⟨?_, gr_setRow HG.out (Nat.le_refl _) _⟩
              rw [HTE.out, HFIN.out]
              rfl
    · have hk64 : kz < 64 := by
        rcases Nat.lt_or_ge kz 64 with h | h
        · exact h
        · exact absurd (by unfold padZ; omega) (HM.out (padZ (n + 1)) (by unfold padZ; omega))
      obtain ⟨gk, rfl⟩ : ∃ m, gk = m + 1 := ⟨gk - 1, by omega⟩
      have hq : ((((n + 1 + kz) % 64 : Nat) : Int) == 56) = false := by simp; omega
      (go_wp2_with fail); (go_at_call 125; refine (take_x g _ bs' (n + 1 + kz) _ [0] _ HH.out rfl (by omega) (by simp; omega) hg (HK.out.grown HG.out hg hz)).mono ?_; rintro e w2 ⟨rfl, ⟨bs2, h2'⟩, g2⟩; have H2 := Lib.hid h2'; have G2 := Lib.hid (gr_via HG.out g2); have R2 := Lib.hid (HR.out.other g2 (by simp; omega)); clear h2' g2)
      go_wp2
      go_roundg gk
      case measure => omega
      case rel =>
        go_light
        refine ⟨kz + 1, bs2, by omega, ?_, ?_, G2, R2⟩
        · have := H2.out
          rw [absorb_rep] at this
          simpa [Hid, Int.add_assoc] using this
        · show ∀ j, _
          intro j hj
          by_cases hjk : j = kz
          · subst hjk; exact hk
          · exact HM.out j (by omega)
end Go.Proofs.YtdbojdgppgphkaaDoor
