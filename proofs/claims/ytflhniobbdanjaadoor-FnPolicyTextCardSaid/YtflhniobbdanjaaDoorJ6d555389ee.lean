/- The contract of taking a text into the sum. Conditions: each contract's own. -/
import Derived.Test.YtflhniobbdanjaaDoorJa960fb7275
import Derived.Lib.BufferWrite
namespace Go.Proofs.YtflhniobbdanjaaDoor
set_option linter.unusedSimpArgs false
open Go.RowKit
set_option linter.unusedVariables false
set_option linter.unnecessarySimpa false
theorem run_copy_cut {P : Program} (w : World) (dT sT ty elem : TypeId) (g o dLen dCap m : Nat) (s : ByteArray) (cur : Array Value) (t : TypeId)
    (hu : P.underlying dT = some (.slice elem)) (hs : (P.info? elem).map (·.size) = some 1) (hg : w.heap[g]? = some (.cells cur t (0, 0))) (hm : Nat.min s.size dLen = m) (hfit : o + m ≤ cur.size) :
    (Builtin.copy_ #[dT, sT] ty #[.slice (some ⟨g, o, none⟩) dLen dCap, .string s]).run P w =
      .ok (goInt m) (w.setRow g (cur.toList.take o ++ (Lib.byteCells s.data.toList).take m ++ cur.toList.drop (o + m)).toArray) := by
  have hl : (Lib.byteCells s.data.toList).length = s.size := by rw [Lib.byteCells_length, ← Lib.size_eq]
  have hlen : ((Lib.byteCells s.data.toList).take m).length = m := by rw [List.length_take, hl, ← hm]; exact Nat.min_eq_left (Nat.min_le_left _ _)
  have hst := run_storeCells_at P g o t ((Lib.byteCells s.data.toList).take m) 0 cur w hg (by rw [hlen]; simpa using hfit) (fun v hv => Lib.byteCells_one _ v (List.mem_of_mem_take hv))
  have htk : List.take m (List.map (fun b : UInt8 => Value.int IntKind.u8 (b.toNat : Int)) s.data.toList) = (Lib.byteCells s.data.toList).take m := rfl
  rw [hlen] at hst
  simp only [Nat.add_zero] at hst
  cases hq : P.info? elem with
  | none => simp [hq] at hs
  | some i =>
    simp [Builtin.copy_, run_underlying hu, Builtin.lenOf, Builtin.firstCells, sizeOf, typeInfo, hq, hm]
    rw [htk, hst]
    simp [Result.andThen]
/-- What a byte does to the words and the bytes that wait. -/
def eat (st : List Int × List Int) (b : Int) : List Int × List Int := if st.2.length = 63 then (mixed st.1 (st.2 ++ [b]), []) else (st.1, st.2 ++ [b])
def absorb (st : List Int × List Int) (l : List Int) : List Int × List Int := l.foldl eat st
theorem absorb_append (st : List Int × List Int) (a b : List Int) : absorb st (a ++ b) = absorb (absorb st a) b := List.foldl_append
theorem absorb_less (ws buf l : List Int) (h : buf.length + l.length < 64) : absorb (ws, buf) l = (ws, buf ++ l) := by
  induction l generalizing buf with
  | nil => simp [absorb]
  | cons b l ih =>
    have e : eat (ws, buf) b = (ws, buf ++ [b]) := by
      unfold eat; rw [if_neg (by simp at h ⊢; omega)]
    show absorb (eat (ws, buf) b) l = _
    rw [e, ih (buf ++ [b]) (by simp at h ⊢; omega)]
    simp
theorem absorb_full (ws buf l : List Int) (h : buf.length + l.length = 64) (hb : buf.length < 64) : absorb (ws, buf) l = (mixed ws (buf ++ l), []) := by
  induction l generalizing buf with
  | nil => simp at h; omega
  | cons b l ih =>
    show absorb (eat (ws, buf) b) l = _
    by_cases hl : buf.length = 63
    · have : l = [] := by
        cases l with
        | nil => rfl
        | cons x l => simp at h; omega
      subst this
      unfold eat; rw [if_pos hl]; rfl
    · have e : eat (ws, buf) b = (ws, buf ++ [b]) := by unfold eat; rw [if_neg hl]
      rw [e, ih (buf ++ [b]) (by simp at h ⊢; omega) (by simp at h ⊢; omega)]
      simp
def bytesI (s : ByteArray) : List Int := s.data.toList.map (fun b => (b.toNat : Int))
theorem bytesI_len (s : ByteArray) : (bytesI s).length = s.size := by rw [bytesI, List.length_map, ← Lib.size_eq]
theorem bytesI_byte (s : ByteArray) : ∀ x ∈ bytesI s, 0 ≤ x ∧ x ≤ 255 := by
  intro x hx
  simp only [bytesI, List.mem_map] at hx
  obtain ⟨b, _, rfl⟩ := hx
  have := b.toNat_lt
  omega
theorem byteCells_I (s : ByteArray) : Lib.byteCells s.data.toList = u8s (bytesI s) := by simp [Lib.byteCells, u8s, bytesI]
def spliced (bs r : List Int) (k m : Nat) : List Int := bs.take k ++ r.take m ++ bs.drop (k + m)
theorem spliced_len {bs r : List Int} {k m : Nat} (hm : m ≤ r.length) (hk : k + m ≤ bs.length) : (spliced bs r k m).length = bs.length := by
  unfold spliced
  rw [List.length_append, List.length_append, List.length_take, List.length_take, List.length_drop]; omega
theorem spliced_take {bs r : List Int} {k m : Nat} (hm : m ≤ r.length) (hk : k + m ≤ bs.length) : (spliced bs r k m).take (k + m) = bs.take k ++ r.take m := by
  unfold spliced
  rw [List.take_append_of_le_length (by rw [List.length_append, List.length_take, List.length_take]; omega), List.take_of_length_le (by rw [List.length_append, List.length_take, List.length_take]; omega)]
theorem hcells_splice {ws bs r : List Int} {u tk : Int} {k m : Nat} (hw : ws.length = 8) (hk : k + m ≤ bs.length) :
    (hcells ws bs u tk).take (8 + k) ++ (u8s r).take m ++ (hcells ws bs u tk).drop (8 + k + m) = hcells ws (spliced bs r k m) u tk := by
  have hl : (u32s ws).length = 8 := by rw [u32s_len, hw]
  have hb : (u8s bs).length = bs.length := u8s_len bs
  unfold hcells spliced
  rw [List.append_assoc (u32s ws), show 8 + k = (u32s ws).length + k from by rw [hl], List.take_length_add_append, show (u32s ws).length + k + m = (u32s ws).length + (k + m) from by omega, List.drop_length_add_append,
    List.take_append_of_le_length (by omega), List.drop_append_of_le_length (by omega)]
  simp [u8s, List.map_take, List.map_drop]
theorem hcells_setu {ws bs : List Int} {u u' tk : Int} (hw : ws.length = 8) (hb : bs.length = 64) : (hcells ws bs u tk).set 72 (.int .i64 u') = hcells ws bs u' tk := by
  unfold hcells
  have hl : (u32s ws ++ u8s bs).length = 72 := by rw [List.length_append, u32s_len, u8s_len, hw, hb]
  rw [List.set_append_right _ _ (by omega), hl]; rfl
theorem hcells_sett {ws bs : List Int} {u tk tk' : Int} (hw : ws.length = 8) (hb : bs.length = 64) : (hcells ws bs u tk).set 73 (.int .u64 tk') = hcells ws bs u tk' := by
  unfold hcells
  have hl : (u32s ws ++ u8s bs).length = 72 := by rw [List.length_append, u32s_len, u8s_len, hw, hb]
  rw [List.set_append_right _ _ (by omega), hl]; rfl
theorem bytesI_extract (r : ByteArray) (m : Nat) : bytesI (r.extract m r.size) = (bytesI r).drop m := by
  have h : (r.extract m r.size).data.toList = r.data.toList.drop m := by
    rw [ByteArray.data_extract, Array.toList_extract, List.extract_eq_take_drop]
    rw [List.take_of_length_le (by rw [List.length_drop, ← Lib.size_eq]; exact Nat.le_refl _)]
  unfold bytesI
  rw [h, List.map_drop]
theorem absorb_part (st : List Int × List Int) (l : List Int) (m : Nat) : absorb (absorb st (l.take m)) (l.drop m) = absorb st l := by
  rw [← absorb_append, List.take_append_drop]
theorem spliced_byte {bs r : List Int} {k m : Nat} (hb : ∀ x ∈ bs, 0 ≤ x ∧ x ≤ 255) (hr : ∀ x ∈ r, 0 ≤ x ∧ x ≤ 255) : ∀ x ∈ spliced bs r k m, 0 ≤ x ∧ x ≤ 255 := by
  intro x hx
  unfold spliced at hx
  rw [List.mem_append, List.mem_append] at hx
  rcases hx with (hx | hx) | hx
  · exact hb x (List.mem_of_mem_take hx)
  · exact hr x (List.mem_of_mem_take hx)
  · exact hb x (List.mem_of_mem_drop hx)
def strLen : Value → Nat
  | .string b => b.size
  | _ => 0
/-- Block g is a summer that has the words and the waiting bytes st, and has taken tk bytes. -/
structure HS (w : World) (g t : Nat) (st : List Int × List Int) (bs : List Int) (tk : Int) : Prop where
  blk : Blk w g t (hcells st.1 bs st.2.length tk)
  wlen : st.1.length = 8
  blen : bs.length = 64
  wok : ∀ x ∈ st.1, isU32 x
  bok : ∀ x ∈ bs, 0 ≤ x ∧ x ≤ 255
  buf : bs.take st.2.length = st.2
  less : st.2.length < 64
theorem info_u8 : (Tryd.prog.info? 5).map (·.size) = some 1 := by kernel_rfl
theorem len64 : Tryd.prog.arrayLen 134 = 64 := by kernel_rfl
theorem elem64 : Tryd.prog.elem 134 = 5 := by kernel_rfl
theorem size_u8 (W : World) : (sizeOf 5).run Tryd.prog W = .ok 1 W := by
  have h := info_u8
  cases hq : Tryd.prog.info? 5 with
  | none => rw [hq] at h; cases h
  | some i => rw [hq] at h; simp [sizeOf, typeInfo, hq]; simpa using h
theorem slice64 (g k : Nat) (hk : k < 64) (W : World) : (Instr.sliceAt 134 (.pointer (some ⟨g, 8, none⟩)) (some (.int .i64 (k : Int))) none none).run Tryd.prog W = .ok (.slice (some ⟨g, 8 + k, none⟩) (64 - k) (64 - k)) W := by
  have hu : Tryd.prog.underlying 134 = some (.array (Tryd.prog.arrayLen 134) (Tryd.prog.elem 134)) := by
    rw [len64, elem64]; exact Tryd.underlying134
  rw [run_sliceAt_array_l W 134 ⟨g, 8, none⟩ hu .i64 (k : Int) (by omega) (by rw [len64]; omega), elem64, size_u8, len64]
  show Result.ok _ W = _
  unfold slicedAt
  rw [Int.toNat_natCast, if_neg (by omega), Nat.mul_one]
  simp [Addr.add]
end Go.Proofs.YtflhniobbdanjaaDoor
