/- The contracts of the sum of texts and of its figures. Conditions: each contract's own. -/
import Derived.Test.YtdbojdgppgphkaaDoorSum
namespace Go.Proofs.YtdbojdgppgphkaaDoor
set_option linter.unusedSimpArgs false
open Go.RowKit
set_option linter.unusedVariables false
set_option linter.unnecessarySimpa false
def catB (xs : List ByteArray) : List Int := (xs.map bytesI).flatten
theorem catB_succ {xs : List ByteArray} {k : Nat} {x : ByteArray} (h : xs[k]? = some x) : catB (xs.take (k + 1)) = catB (xs.take k) ++ bytesI x := by
  unfold catB
  rw [List.take_add_one, h]; simp
theorem catB_take (xs : List ByteArray) (k : Nat) : (catB (xs.take k)).length ≤ (catB xs).length := by
  have h : catB xs = catB (xs.take k) ++ catB (xs.drop k) := by
    unfold catB
    rw [← List.flatten_append, ← List.map_append, List.take_append_drop]
  rw [h, List.length_append]; omega
theorem eat_ok {st : List Int × List Int} (h : st.1.length = 8) (hu : ∀ x ∈ st.1, isU32 x) (b : Int) : (eat st b).1.length = 8 ∧ ∀ x ∈ (eat st b).1, isU32 x := by
  unfold eat
  split
  · exact ⟨mixed_len h, mixed_u32 h⟩
  · exact ⟨h, hu⟩
theorem absorb_ok {st : List Int × List Int} (h : st.1.length = 8) (hu : ∀ x ∈ st.1, isU32 x) (l : List Int) : (absorb st l).1.length = 8 ∧ ∀ x ∈ (absorb st l).1, isU32 x := by
  induction l generalizing st with
  | nil => exact ⟨h, hu⟩
  | cons b l ih => exact ih (eat_ok h hu b).1 (eat_ok h hu b).2
theorem flat_len (ws : List Int) : (flat ws).length = 4 * ws.length := by
  induction ws with
  | nil => rfl
  | cons a ws ih => unfold flat at *; rw [List.map_cons, List.flatten_cons, List.length_append, ih]; simp [four]; omega
theorem flat_byte {ws : List Int} (h : ∀ x ∈ ws, isU32 x) : ∀ x ∈ flat ws, 0 ≤ x ∧ x ≤ 255 := by
  intro x hx
  simp only [flat, List.mem_flatten, List.mem_map] at hx
  obtain ⟨l, ⟨a, ha, rfl⟩, hx⟩ := hx
  obtain ⟨h0, h1⟩ := h a ha
  simp only [four, List.mem_cons, List.not_mem_nil, or_false] at hx
  rcases hx with rfl | rfl | rfl | rfl <;> omega
theorem initW_len : initW.length = 8 := rfl
theorem initW_u32 : ∀ x ∈ initW, isU32 x := by
  intro x hx
  simp only [initW, List.mem_cons, List.not_mem_nil, or_false] at hx
  unfold isU32
  omega
/-- The sum of bytes, as bytes. -/
def digest (l : List Int) : List Int := flat (absorb (initW, []) (l ++ padOf l.length)).1
theorem digest_len (l : List Int) : (digest l).length = 32 := by
  unfold digest
  rw [flat_len, (absorb_ok initW_len initW_u32 _).1]
theorem digest_byte (l : List Int) : ∀ x ∈ digest l, 0 ≤ x ∧ x ≤ 255 := flat_byte (absorb_ok initW_len initW_u32 _).2
def strs (xs : List ByteArray) : List Value := xs.map Value.string
theorem strs_at {xs : List ByteArray} {k : Nat} {x : ByteArray} (h : xs[k]? = some x) : (strs xs)[k]? = some (.string x) := by simp [strs, h]
theorem sum_d (g : Nat) (l : List Int) (bs : List Int) (w : World) (h : HS w g 192 (absorb (initW, []) l) bs (l.length : Nat)) (h1 : l.length ≤ 1152921504606840000) (hg : 2 < g) (hK : KT w) :
    Calls Tryd.prog 126 #[.pointer (some ⟨g, 0, none⟩)] w (fun e w' => ∃ D, D = u8s (digest l) ∧ e = .returned (.agg D.toArray) ∧ w.grownBy w' (some g)) := by
  refine (sum_c g _ bs l.length w h h1 (by rw [absorb_len _ _ (by simp)]; simp) hg hK).mono ?_
  rintro e w' ⟨rfl, hG⟩
  exact ⟨_, rfl, by rw [digest, absorb_append], hG⟩
set_option maxHeartbeats 1600000 in
set_option maxRecDepth 100000 in
theorem hashOf_c (A : Option Addr) (n c : Nat) (xs : List ByteArray) (w : World) (hr : Rd w w.heap.size 1 A n (strs xs)) (hsz : (catB xs).length ≤ 1152921504606840000) (hK : KT w) (hz : 2 < w.heap.size) (hn : n ≤ 1000) :
    Calls Tryd.prog 92 #[.slice A n c] w (fun e w' => e = .returned (.agg (u8s (digest (catB xs))).toArray) ∧ Below w.heap.size w w') := by
  have HR := Lib.hid hr
  have HK := Lib.hid hK
  have HL := Lib.hid (show xs.length = n by simpa [strs] using hr.len1)
  have HSZ := Lib.hid hsz
  clear hr hK hsz
  go_enter Tryd.func92, Tryd.ntmps92
  (go_wp2_with fail); (go_at_call 124; refine (newHasher_c _).mono ?_; rintro e w1 ⟨rfl, h1, b1⟩; have H1 := Lib.hid h1; have s1 := below_via (w := w) (by go_grown) b1; have hs1 := b1.size; have R1 := Lib.hid ((Blk.new w 125 (List.replicate 32 (.int .u8 0))).up b1); clear h1 b1)
  simp at hs1
  have HB1 := Lib.hid (H1.out.blk.lt)
  simp at H1 HB1
  go_wp2
  go_loopw [9] (fun i wr => ∃ (k : Nat) (bs : List Int), k ≤ n ∧ i = .int .i64 k ∧ Hid (HS wr (w.heap.size + 1) 192 (absorb (initW, []) (catB (xs.take k))) bs ((catB (xs.take k)).length : Nat)) ∧ Hid (Below w.heap.size w wr) ∧ Hid (Blk wr w.heap.size 125 (List.replicate 32 (.int .u8 0)))) (fun i _ => n - (intOf i).toNat)
  case atStart => exact ⟨0, _, by omega, rfl, H1, s1, R1⟩
  case round =>
    obtain ⟨k, bs, hk, rfl, HH, HB, HR1⟩ := hrel
    by_cases hlt : k < n
    · obtain ⟨b, off, rfl, hb, hc⟩ := HR.out.2 (by omega)
      obtain ⟨x, hx⟩ := some_at HL.out hlt
      have hcell := (HB.out.cell (p := ⟨b, off + k, none⟩) hb).trans (hc k _ (strs_at hx))
      have HX := Lib.hid (catB_succ hx)
      have HLe := Lib.hid (catB_take xs (k + 1))
      clear hc hx
      (go_wp2_with fail); (go_at_call 125; refine (take_x _ _ bs _ x (bytesI x) _ HH.out rfl (by omega) (by have := HLe.out; have := HSZ.out; rw [HX.out, List.length_append] at *; omega) (by omega) (HK.out.up HB.out hz)).mono ?_; rintro e w2 ⟨rfl, ⟨bs2, h2⟩, g2⟩; have H2 := Lib.hid h2; have G2 := Lib.hid g2; clear h2 g2)
      go_wp2
      go_roundw
      case rel =>
        go_light
        refine ⟨k + 1, bs2, by omega, by go_num, ?_, ?_, ?_⟩
        · have := H2.out
          rw [← absorb_append, ← HX.out] at this
          have e : (((catB (xs.take k)).length : Nat) : Int) + ((bytesI x).length : Nat) = ((catB (xs.take (k + 1))).length : Nat) := by
            rw [HX.out, List.length_append]; omega
          rw [e] at this
          exact this
        · exact HB.out.trans (gr_below G2.out (by omega) HB.out.size)
        · exact HR1.out.other G2.out (by simp)
      case measure => simp [intOf]; omega
    · obtain rfl : k = n := by omega
      have hz2 := HH.out
      rw [List.take_of_length_le (by rw [HL.out]; omega)] at hz2
      have H2 := Lib.hid hz2
      clear hz2
      go_wp2_with fail
      refine (sum_d _ (catB xs) bs _ H2.out HSZ.out (by omega) (HK.out.up HB.out hz)).mono ?_
      rintro e w3 ⟨D, hD, rfl, g3⟩
      have G3 := Lib.hid g3
      have R3 := Lib.hid (HR1.out.other g3 (by simp))
      have HD := Lib.hid hD
      have hD32 : (Tryd.prog.info? 125).map (·.size) = some D.toArray.size := by
        rw [hD, List.size_toArray, u8s_len, digest_len]; exact info_a32
      have hDl : D.length = 32 := by rw [hD, u8s_len, digest_len]
      have h1c : D.toArray.all (·.oneCell') = true := by
        rw [hD]; simp [u8s, Value.oneCell']
      have HDl := Lib.hid hDl
      clear g3 hD hDl
      have hst : (storeCells ⟨w.heap.size, 0, none⟩ D).run Tryd.prog w3 = .ok () (w3.setRow w.heap.size D.toArray) := by
        have := run_storeCells_at Tryd.prog w.heap.size 0 125 D 0 _ w3 R3.out (by rw [HDl.out]; simp) (by rw [HD.out]; simp [u8s, Value.oneCell'])
        rw [this, HDl.out]
        simp
      go_wp2
      refine bodyPost_ret (v := .agg D.toArray) (results_cell_row Tryd.results92 _ _ w.heap.size 125 D.toArray (0, 0) _ (by rfl) (setRow_heap w3 w.heap.size _ _ 125 (0, 0) R3.out) Tryd.underlying125 rfl hD32) rfl ⟨by rw [HD.out], ?_⟩
      exact (HB.out.trans (gr_below G3.out (by omega) HB.out.size)).trans ⟨rfl, rfl, rfl, by simp, fun i hi => setRow_other w3 w.heap.size i _ (by omega)⟩
end Go.Proofs.YtdbojdgppgphkaaDoor
