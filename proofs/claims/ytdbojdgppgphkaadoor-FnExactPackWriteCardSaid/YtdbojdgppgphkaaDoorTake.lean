/- The contract of taking a text into the sum. Conditions: each contract's own. -/
import Derived.Test.YtdbojdgppgphkaaDoorMix
import Derived.Lib.BufferWrite
namespace Go.Proofs.YtdbojdgppgphkaaDoor
set_option linter.unusedSimpArgs false
open Go.RowKit
set_option linter.unusedVariables false
set_option linter.unnecessarySimpa false
theorem run_copy_cut {P : Program} (w : World) (dT sT ty elem : TypeId) (g o dLen dCap m : Nat) (s : ByteArray) (cur : Array Value) (t : TypeId)
    (hu : P.underlying dT = some (.slice elem)) (hs : (P.info? elem).map (·.size) = some 1) (hg : w.heap[g]? = some (.cells cur t (0, 0))) (hm : Nat.min s.size dLen = m) (hfit : o + m ≤ cur.size) :
    (Builtin.copy_ #[dT, sT] ty #[.slice (some ⟨g, o, none⟩) dLen dCap, .string s]).run P w =
      .ok (goInt m) (w.setRow g (cur.toList.take o ++ (Lib.byteCells s.data.toList).take m ++ cur.toList.drop (o + m)).toArray) := by
  have hl : (Lib.byteCells s.data.toList).length = s.size := by rw [Lib.byteCells_length, ← Lib.size_eq]
  have hlen : ((Lib.byteCells s.data.toList).take m).length = m := by rw [List.length_take, hl, ← hm]; exact Nat.min_eq_left (Nat.min_le_left _ _)
  have hst := run_storeCells_at P g o t ((Lib.byteCells s.data.toList).take m) 0 cur w hg (by rw [hlen]; simpa using hfit) (fun v hv => Lib.byteCells_one _ v (List.mem_of_mem_take hv))
  have htk : List.take m (List.map (fun b : UInt8 => Value.int IntKind.u8 (b.toNat : Int)) s.data.toList) = (Lib.byteCells s.data.toList).take m := rfl
  rw [hlen] at hst
  simp only [Nat.add_zero] at hst
  cases hq : P.info? elem with
  | none => simp [hq] at hs
  | some i =>
    simp [Builtin.copy_, run_underlying hu, Builtin.lenOf, Builtin.firstCells, sizeOf, typeInfo, hq, hm]
    rw [htk, hst]
    simp [Result.andThen]
/-- What a byte does to the words and the bytes that wait. -/
def eat (st : List Int × List Int) (b : Int) : List Int × List Int := if st.2.length = 63 then (mixed st.1 (st.2 ++ [b]), []) else (st.1, st.2 ++ [b])
def absorb (st : List Int × List Int) (l : List Int) : List Int × List Int := l.foldl eat st
theorem absorb_append (st : List Int × List Int) (a b : List Int) : absorb st (a ++ b) = absorb (absorb st a) b := List.foldl_append
theorem absorb_less (ws buf l : List Int) (h : buf.length + l.length < 64) : absorb (ws, buf) l = (ws, buf ++ l) := by
  induction l generalizing buf with
  | nil => simp [absorb]
  | cons b l ih =>
    have e : eat (ws, buf) b = (ws, buf ++ [b]) := by
      unfold eat; rw [if_neg (by simp at h ⊢; omega)]
    show absorb (eat (ws, buf) b) l = _
    rw [e, ih (buf ++ [b]) (by simp at h ⊢; omega)]
    simp
theorem absorb_full (ws buf l : List Int) (h : buf.length + l.length = 64) (hb : buf.length < 64) : absorb (ws, buf) l = (mixed ws (buf ++ l), []) := by
  induction l generalizing buf with
  | nil => simp at h; omega
  | cons b l ih =>
    show absorb (eat (ws, buf) b) l = _
    by_cases hl : buf.length = 63
    · have : l = [] := by
        cases l with
        | nil => rfl
        | cons x l => simp at h; omega
      subst this
      unfold eat; rw [if_pos hl]; rfl
    · have e : eat (ws, buf) b = (ws, buf ++ [b]) := by unfold eat; rw [if_neg hl]
      rw [e, ih (buf ++ [b]) (by simp at h ⊢; omega) (by simp at h ⊢; omega)]
      simp
def bytesI (s : ByteArray) : List Int := s.data.toList.map (fun b => (b.toNat : Int))
theorem bytesI_len (s : ByteArray) : (bytesI s).length = s.size := by rw [bytesI, List.length_map, ← Lib.size_eq]
theorem bytesI_byte (s : ByteArray) : ∀ x ∈ bytesI s, 0 ≤ x ∧ x ≤ 255 := by
  intro x hx
  simp only [bytesI, List.mem_map] at hx
  obtain ⟨b, _, rfl⟩ := hx
  have := b.toNat_lt
  omega
theorem byteCells_I (s : ByteArray) : Lib.byteCells s.data.toList = u8s (bytesI s) := by simp [Lib.byteCells, u8s, bytesI]
def spliced (bs r : List Int) (k m : Nat) : List Int := bs.take k ++ r.take m ++ bs.drop (k + m)
theorem spliced_len {bs r : List Int} {k m : Nat} (hm : m ≤ r.length) (hk : k + m ≤ bs.length) : (spliced bs r k m).length = bs.length := by
  unfold spliced
  rw [List.length_append, List.length_append, List.length_take, List.length_take, List.length_drop]; omega
theorem spliced_take {bs r : List Int} {k m : Nat} (hm : m ≤ r.length) (hk : k + m ≤ bs.length) : (spliced bs r k m).take (k + m) = bs.take k ++ r.take m := by
  unfold spliced
  rw [List.take_append_of_le_length (by rw [List.length_append, List.length_take, List.length_take]; omega), List.take_of_length_le (by rw [List.length_append, List.length_take, List.length_take]; omega)]
theorem hcells_splice {ws bs r : List Int} {u tk : Int} {k m : Nat} (hw : ws.length = 8) (hk : k + m ≤ bs.length) :
    (hcells ws bs u tk).take (8 + k) ++ (u8s r).take m ++ (hcells ws bs u tk).drop (8 + k + m) = hcells ws (spliced bs r k m) u tk := by
  have hl : (u32s ws).length = 8 := by rw [u32s_len, hw]
  have hb : (u8s bs).length = bs.length := u8s_len bs
  unfold hcells spliced
  rw [List.append_assoc (u32s ws), show 8 + k = (u32s ws).length + k from by rw [hl], List.take_length_add_append, show (u32s ws).length + k + m = (u32s ws).length + (k + m) from by omega, List.drop_length_add_append,
    List.take_append_of_le_length (by omega), List.drop_append_of_le_length (by omega)]
  simp [u8s, List.map_take, List.map_drop]
theorem hcells_setu {ws bs : List Int} {u u' tk : Int} (hw : ws.length = 8) (hb : bs.length = 64) : (hcells ws bs u tk).set 72 (.int .i64 u') = hcells ws bs u' tk := by
  unfold hcells
  have hl : (u32s ws ++ u8s bs).length = 72 := by rw [List.length_append, u32s_len, u8s_len, hw, hb]
  rw [List.set_append_right _ _ (by omega), hl]; rfl
theorem hcells_sett {ws bs : List Int} {u tk tk' : Int} (hw : ws.length = 8) (hb : bs.length = 64) : (hcells ws bs u tk).set 73 (.int .u64 tk') = hcells ws bs u tk' := by
  unfold hcells
  have hl : (u32s ws ++ u8s bs).length = 72 := by rw [List.length_append, u32s_len, u8s_len, hw, hb]
  rw [List.set_append_right _ _ (by omega), hl]; rfl
theorem bytesI_extract (r : ByteArray) (m : Nat) : bytesI (r.extract m r.size) = (bytesI r).drop m := by
  have h : (r.extract m r.size).data.toList = r.data.toList.drop m := by
    rw [ByteArray.data_extract, Array.toList_extract, List.extract_eq_take_drop]
    rw [List.take_of_length_le (by rw [List.length_drop, ← Lib.size_eq]; exact Nat.le_refl _)]
  unfold bytesI
  rw [h, List.map_drop]
theorem absorb_part (st : List Int × List Int) (l : List Int) (m : Nat) : absorb (absorb st (l.take m)) (l.drop m) = absorb st l := by
  rw [← absorb_append, List.take_append_drop]
theorem spliced_byte {bs r : List Int} {k m : Nat} (hb : ∀ x ∈ bs, 0 ≤ x ∧ x ≤ 255) (hr : ∀ x ∈ r, 0 ≤ x ∧ x ≤ 255) : ∀ x ∈ spliced bs r k m, 0 ≤ x ∧ x ≤ 255 := by
  intro x hx
  unfold spliced at hx
  rw [List.mem_append, List.mem_append] at hx
  rcases hx with (hx | hx) | hx
  · exact hb x (List.mem_of_mem_take hx)
  · exact hr x (List.mem_of_mem_take hx)
  · exact hb x (List.mem_of_mem_drop hx)
def strLen : Value → Nat
  | .string b => b.size
  | _ => 0
/-- Block g is a summer that has the words and the waiting bytes st, and has taken tk bytes. -/
structure HS (w : World) (g t : Nat) (st : List Int × List Int) (bs : List Int) (tk : Int) : Prop where
  blk : Blk w g t (hcells st.1 bs st.2.length tk)
  wlen : st.1.length = 8
  blen : bs.length = 64
  wok : ∀ x ∈ st.1, isU32 x
  bok : ∀ x ∈ bs, 0 ≤ x ∧ x ≤ 255
  buf : bs.take st.2.length = st.2
  less : st.2.length < 64
theorem info_u8 : (Tryd.prog.info? 5).map (·.size) = some 1 := by kernel_rfl
theorem len64 : Tryd.prog.arrayLen 127 = 64 := by kernel_rfl
theorem elem64 : Tryd.prog.elem 127 = 5 := by kernel_rfl
theorem size_u8 (W : World) : (sizeOf 5).run Tryd.prog W = .ok 1 W := by
  have h := info_u8
  cases hq : Tryd.prog.info? 5 with
  | none => rw [hq] at h; cases h
  | some i => rw [hq] at h; simp [sizeOf, typeInfo, hq]; simpa using h
theorem slice64 (g k : Nat) (hk : k < 64) (W : World) : (Instr.sliceAt 127 (.pointer (some ⟨g, 8, none⟩)) (some (.int .i64 (k : Int))) none none).run Tryd.prog W = .ok (.slice (some ⟨g, 8 + k, none⟩) (64 - k) (64 - k)) W := by
  have hu : Tryd.prog.underlying 127 = some (.array (Tryd.prog.arrayLen 127) (Tryd.prog.elem 127)) := by
    rw [len64, elem64]; exact Tryd.underlying127
  rw [run_sliceAt_array_l W 127 ⟨g, 8, none⟩ hu .i64 (k : Int) (by omega) (by rw [len64]; omega), elem64, size_u8, len64]
  show Result.ok _ W = _
  unfold slicedAt
  rw [Int.toNat_natCast, if_neg (by omega), Nat.mul_one]
  simp [Addr.add]
set_option maxHeartbeats 1600000 in
set_option maxRecDepth 100000 in
theorem take_c (g : Nat) (st : List Int × List Int) (bs : List Int) (tk : Int) (s : ByteArray) (w : World) (h : HS w g 192 st bs tk) (h0 : 0 ≤ tk) (h1 : tk + s.size ≤ 1152921504606846976) (hg : 2 < g) (hK : ∀ i, i < 64 → w.cell? ⟨2, i, none⟩ = some (.int .u32 (roundK.getD i 0))) :
    Calls Tryd.prog 125 #[.pointer (some ⟨g, 0, none⟩), .string s] w (fun e w' => e = .returned (.tuple #[]) ∧ (∃ bs', HS w' g 192 (absorb st (bytesI s)) bs' (tk + s.size)) ∧ w.grownBy w' (some g)) := by
  have H := Lib.hid h
  have HK := Lib.hid hK
  have hlt := h.blk.lt
  have ct := h.blk.cell (hcells_t h.wlen h.blen)
  have cf := h.blk.free
  clear h hK
  go_enter Tryd.func125, Tryd.ntmps125
  go_wp2
  go_loopw [1] (fun v wr => ∃ (r : ByteArray) (bs' : List Int) (st' : List Int × List Int), v = .string r ∧ r.size ≤ s.size ∧ Hid (HS wr g 192 st' bs' (tk + s.size)) ∧ Hid (absorb st' (bytesI r) = absorb st (bytesI s)) ∧ Hid (w.grownBy wr (some g))) (fun v _ => strLen v)
  case atStart =>
    have hh := H.out
    exact ⟨s, bs, st, rfl, Nat.le_refl _, ⟨hcells_sett hh.wlen hh.blen ▸ hh.blk.set_ 73 (.int .u64 (tk + s.size)), hh.wlen, hh.blen, hh.wok, hh.bok, hh.buf, hh.less⟩, rfl, gr_set (gr_refl _ _) (.inl rfl) _⟩
  case round =>
    obtain ⟨r, bs', ⟨ws', buf⟩, rfl, hrs, HH, HA, HG⟩ := hrel
    have hless := HH.out.less
    have hw8 := HH.out.wlen
    have hb64 := HH.out.blen
    simp only at hless hw8
    by_cases hr : 0 < r.size
    · obtain ⟨m, hm⟩ : ∃ m, Nat.min r.size (64 - buf.length) = m := ⟨_, rfl⟩
      have hm1 : m ≤ r.size := by rw [← hm]; exact Nat.min_le_left _ _
      have hm2 : m ≤ 64 - buf.length := by rw [← hm]; exact Nat.min_le_right _ _
      have hm0 : 0 < m := by
        rw [← hm]; exact Nat.lt_min.2 ⟨hr, by omega⟩
      have c72 := HH.out.blk.cell (hcells_u hw8 hb64)
      have cf := HH.out.blk.free
      have hcp : ∀ (W : World) (ty : TypeId), W.heap[g]? = wr.heap[g]? → (Builtin.copy_ #[24, 9] ty #[.slice (some ⟨g, 8 + buf.length, none⟩) (64 - buf.length) (64 - buf.length), .string r]).run Tryd.prog W = .ok (goInt m) (W.setRow g (hcells ws' (spliced bs' (bytesI r) buf.length m) buf.length (tk + s.size)).toArray) := by
        intro W ty hW
        have := run_copy_cut (P := Tryd.prog) W 24 9 ty 5 g (8 + buf.length) (64 - buf.length) (64 - buf.length) m r (hcells ws' bs' buf.length (tk + s.size)).toArray 192 Tryd.underlying24 info_u8 (hW.trans HH.out.blk) hm (by
          unfold hcells; simp only [List.size_toArray, List.length_append, u32s_len, u8s_len, hw8, hb64]; simp; omega)
        rw [byteCells_I] at this
        rw [this]
        show Result.ok _ (W.setRow g (List.toArray ((hcells ws' bs' buf.length (tk + s.size)).take (8 + buf.length) ++ (u8s (bytesI r)).take m ++ (hcells ws' bs' buf.length (tk + s.size)).drop (8 + buf.length + m)))) = _
        rw [hcells_splice hw8 (by omega)]
      have hcp0 := hcp wr
      have hcp1 := hcp wr.drew
      simp only [heap_drew, forall_const] at hcp0 hcp1
      clear hcp
      have hsx := slice64 g buf.length hless
      go_wp2
      go_region
      have hB1 : Blk (wr.drew.setRow g (hcells ws' (spliced bs' (bytesI r) buf.length m) buf.length (tk + s.size)).toArray) g 192 (hcells ws' (spliced bs' (bytesI r) buf.length m) buf.length (tk + s.size)) := setRow_heap wr.drew g _ _ 192 (0, 0) HH.out.blk
      have hG1 : wr.grownBy (wr.drew.setRow g (hcells ws' (spliced bs' (bytesI r) buf.length m) buf.length (tk + s.size)).toArray) (some g) := ⟨rfl, rfl, rfl, by simp, fun k _ hk => setRow_other wr.drew g k _ (by simpa using hk)⟩
      generalize wr.drew.setRow g (hcells ws' (spliced bs' (bytesI r) buf.length m) buf.length (tk + s.size)).toArray = W1 at hB1 hG1
      have hsl : (spliced bs' (bytesI r) buf.length m).length = 64 := by rw [spliced_len (by rw [bytesI_len]; omega) (by omega), hb64]
      have c72' := hB1.cell (hcells_u hw8 hsl)
      have cf' := hB1.free
      have HB1 := Lib.hid hB1
      have HG1 := Lib.hid hG1
      clear hB1 hG1
      by_cases hf : buf.length + m = 64
      · have hq : (((buf.length : Nat) : Int) + (m : Int) == 64) = true := by simp; omega
        go_wp2_with fail
        have GG := Lib.hid (gr_set (gr_via HG.out HG1.out) (.inl rfl) (Value.int .i64 ((buf.length : Int) + (m : Int))) : w.grownBy (W1.setCell ⟨g, 72, none⟩ (.int .i64 ((buf.length : Int) + (m : Int)))) (some g))
        have HM := Lib.hid (hcells_setu hw8 hsl ▸ HB1.out.set_ 72 (.int .i64 ((buf.length : Int) + (m : Int))) : Blk _ _ _ _)
        go_wp2_with (go_at_call 149; refine (mix_c g ws' _ _ _ _ HM.out hw8 hsl HH.out.wok (spliced_byte HH.out.bok (bytesI_byte r)) hg (fun i hi => (World.cell?_of_block (w := w) (a := ⟨2, i, none⟩) (GG.out.block 2 (by omega) (by simp; omega))).trans (HK.out i hi))).mono ?_; rintro e w2 ⟨rfl, hB2, hG2⟩; have B2 := Lib.hid hB2; have G2 := Lib.hid (gr_via GG.out hG2); have c2 := hB2.cell (hcells_u (mixed_len hw8) hsl); have f2 := hB2.free; clear hB2 hG2)
        go_roundw
        case rel =>
          go_light
          have ht : (bs'.take buf.length ++ (bytesI r).take m) = spliced bs' (bytesI r) buf.length m := by
            rw [← spliced_take (by rw [bytesI_len]; omega) (by omega), hf, List.take_of_length_le (by omega)]
          have hb : bs'.take buf.length = buf := HH.out.buf
          rw [hb] at ht
          refine ⟨_, spliced bs' (bytesI r) buf.length m, (mixed ws' (spliced bs' (bytesI r) buf.length m), []), rfl, ?_, ⟨hcells_setu (mixed_len hw8) hsl ▸ B2.out.set_ 72 (.int .i64 0), mixed_len hw8, hsl, mixed_u32 hw8, spliced_byte HH.out.bok (bytesI_byte r), rfl, by simp⟩, ?_, gr_set G2.out (.inl rfl) _⟩
          · simp; omega
          · show _ = _
            rw [bytesI_extract, ← HA.out, ← absorb_part (ws', buf) (bytesI r) m, absorb_full ws' buf _ (by rw [List.length_take, bytesI_len]; omega) hless, ht]
        case measure => simp [strLen]; omega
      · have hq : (((buf.length : Nat) : Int) + (m : Int) == 64) = false := by simp; omega
        go_wp2
        go_roundw
        case rel =>
          go_light
          have hb : bs'.take buf.length = buf := HH.out.buf
          have ht := spliced_take (bs := bs') (r := bytesI r) (k := buf.length) (m := m) (by rw [bytesI_len]; omega) (by omega)
          rw [hb] at ht
          have hlen : (buf ++ (bytesI r).take m).length = buf.length + m := by rw [List.length_append, List.length_take, bytesI_len]; omega
          refine ⟨_, spliced bs' (bytesI r) buf.length m, (ws', buf ++ (bytesI r).take m), rfl, ?_, ⟨?_, hw8, hsl, HH.out.wok, spliced_byte HH.out.bok (bytesI_byte r), ?_, ?_⟩, ?_, gr_set (gr_via HG.out HG1.out) (.inl rfl) _⟩
          · simp; omega
          · have := hcells_setu (u := buf.length) (u' := (buf.length : Int) + (m : Int)) (tk := tk + s.size) hw8 hsl ▸ HB1.out.set_ 72 (.int .i64 ((buf.length : Int) + (m : Int)))
            simp only [hlen]
            exact this
          · simp only [hlen]; exact ht
          · simp only [hlen]; omega
          · show _ = _
            rw [bytesI_extract, ← HA.out, ← absorb_part (ws', buf) (bytesI r) m, absorb_less ws' buf _ (by rw [List.length_take, bytesI_len]; omega)]
        case measure => simp [strLen]; omega
    · have hr0 : r.size = 0 := by omega
      go_wp2
      go_returns
      have ha := HA.out
      have hn : bytesI r = [] := List.eq_nil_of_length_eq_zero (by rw [bytesI_len]; exact hr0)
      rw [hn] at ha
      exact ⟨rfl, ⟨bs', ha ▸ HH.out⟩, HG.out⟩
end Go.Proofs.YtdbojdgppgphkaaDoor
