/- Orders: both sides' contracts. Conditions: each contract's own. -/
import Derived.Test.YtdbojdgppgphkaaDoorGate
namespace Go.Proofs.YtdbojdgppgphkaaDoor
set_option linter.unusedSimpArgs false
open Go.RowKit
set_option linter.unusedVariables false
set_option linter.unnecessarySimpa false
set_option maxRecDepth 20000
theorem headB_size {n : Int} (h0 : -9223372036854775808 ≤ n) (h1 : n ≤ 9223372036854775807) (pack : ByteArray) : (headB n pack).size ≤ 101 := by
  unfold headB
  have := itoaB_size h0 h1
  rw [ByteArray.size_append, ByteArray.size_append, ByteArray.size_append, sumB_size]
  have e1 : (⟨#[111, 114, 100, 101, 114, 32]⟩ : ByteArray).size = 6 := rfl
  have e2 : (⟨#[32]⟩ : ByteArray).size = 1 := rfl
  omega
/-- The runs of the sums of texts of which an order is made. -/
theorem order_runs {P : Program} {n : Int} (h0 : -9223372036854775808 ≤ n) (h1 : n ≤ 9223372036854775807) (key pack : ByteArray) : ∃ I S X1 X2 H Y1 M R : ByteArray, I = itoaB n ∧ S = sumB pack ∧ H = headB n pack ∧ M = macB key H ∧ R = orderB key n pack ∧
    (∀ W, (Op.stringOp .add ⟨#[111, 114, 100, 101, 114, 32]⟩ I).run P W = .ok (.string X1) W) ∧ (∀ W, (Op.stringOp .add X1 ⟨#[32]⟩).run P W = .ok (.string X2) W) ∧ (∀ W, (Op.stringOp .add X2 S).run P W = .ok (.string H) W) ∧
    (∀ W, (Op.stringOp .add H ⟨#[32]⟩).run P W = .ok (.string Y1) W) ∧ (∀ W, (Op.stringOp .add Y1 M).run P W = .ok (.string R) W) := by
  have a := itoaB_size h0 h1
  have b := sumB_size pack
  have c := macB_size key (headB n pack)
  have d := headB_size h0 h1 pack
  have e1 : (⟨#[111, 114, 100, 101, 114, 32]⟩ : ByteArray).size = 6 := rfl
  have e2 : (⟨#[32]⟩ : ByteArray).size = 1 := rfl
  refine ⟨_, _, _, _, _, _, _, _, rfl, rfl, rfl, rfl, rfl, fun W => add_run _ _ (by omega) W, fun W => add_run _ _ (by rw [ByteArray.size_append]; omega) W, fun W => add_run _ _ (by rw [ByteArray.size_append, ByteArray.size_append]; omega) W, fun W => add_run _ _ (by omega) W, fun W => add_run _ _ (by rw [ByteArray.size_append]; omega) W⟩
set_option maxHeartbeats 800000 in
theorem specGateOrder_c (key : ByteArray) (n : Int) (pack : ByteArray) (hk : key.size ≤ 1099511627776) (h0 : -9223372036854775808 ≤ n) (h1 : n ≤ 9223372036854775807) (hp : pack.size ≤ 1099511627776) (w : World) :
    Calls Tryd.prog 13 #[.string key, .int .i64 n, .string pack] w (RetB (.string (orderB key n pack)) w) := by
  have hH := headB_size h0 h1 pack
  obtain ⟨I, S, X1, X2, H, Y1, M, R, eI, eS, eH, eM, eR, r1, r2, r3, r4, r5⟩ := order_runs (P := Tryd.prog) h0 h1 key pack
  have HC1 := Lib.hid (decAll_c n h0 h1)
  have HC2 := Lib.hid (specHashSum_c pack hp)
  have HC3 := Lib.hid (specHashMac_c key (headB n pack) hk (by omega))
  have HO : Hid (∀ W, Calls Tryd.prog 45 #[.int .i64 n, .string pack] W (RetB (.string H) W)) := Lib.hid (fun w => by
    have e2 : strOfNums (hexL (digest (bytesI pack))) = S := eS.symm
    rw [← eI] at HC1
    rw [e2] at HC2
    clear eI eS eH eM eR HC3 e2 h0 h1 hH
    go_enter Tryd.func45, Tryd.ntmps45
    (go_wp2_with fail); (go_at_call 89; refine (HC1.out _).mono ?_; rintro e w1 ⟨rfl, b1⟩; obtain ⟨gc1, gf1⟩ := below_get b1; (try simp only [heap_drew, World.size_alloc, World.size_setCell] at gc1 gf1); have s1 := below_via (w := w) (by go_grown) b1; have H1 := s1; have hs1 := b1.size; (try simp at hs1); clear b1)
    (go_wp2_with fail); (go_at_call 16; refine (HC2.out _).mono ?_; rintro e w2 ⟨rfl, b2⟩; obtain ⟨gc2, gf2⟩ := below_get b2; (try simp only [heap_drew, World.size_alloc, World.size_setCell] at gc2 gf2); have s2 := below_via (w := w1) (by go_grown) b2; have H2 := below_via H1 s2; have hs2 := b2.size; (try simp at hs2); clear b2)
    go_wp2
    go_returns
    exact ⟨rfl, by go_grown⟩)
  have e3 : strOfNums (hexL (digest (padTo (bytesI (keyS key)) 92 64 ++ digest (padTo (bytesI (keyS key)) 54 64 ++ bytesI (headB n pack))))) = M := by rw [eM, eH]; rfl
  rw [e3, ← eH] at HC3
  rw [← eR]
  clear eI eS eH eM eR e3 HC1 HC2 h0 h1 hH
  go_enter Tryd.func13, Tryd.ntmps13
  (go_wp2_with fail); (go_at_call 45; refine (HO.out _).mono ?_; rintro e w1 ⟨rfl, b1⟩; obtain ⟨gc1, gf1⟩ := below_get b1; (try simp only [heap_drew, World.size_alloc, World.size_setCell] at gc1 gf1); have s1 := below_via (w := w) (by go_grown) b1; have H1 := s1; have hs1 := b1.size; (try simp at hs1); clear b1)
  (go_wp2_with fail); (go_at_call 17; refine (HC3.out _).mono ?_; rintro e w2 ⟨rfl, b2⟩; obtain ⟨gc2, gf2⟩ := below_get b2; (try simp only [heap_drew, World.size_alloc, World.size_setCell] at gc2 gf2); have s2 := below_via (w := w1) (by go_grown) b2; have H2 := below_via H1 s2; have hs2 := b2.size; (try simp at hs2); clear b2)
  go_wp2
  go_returns
  exact ⟨rfl, by go_grown⟩
set_option maxHeartbeats 800000 in
theorem gateOrder_c (key : ByteArray) (n : Int) (pack : ByteArray) (hk : key.size ≤ 1099511627776) (h0 : -9223372036854775808 ≤ n) (h1 : n ≤ 9223372036854775807) (hp : pack.size ≤ 1099511627776) (w : World) (hP : PT w w.heap.size) (hK : KT w) (hz : 2 < w.heap.size) :
    Calls Tryd.prog 14 #[.string key, .int .i64 n, .string pack] w (RetB (.string (orderB key n pack)) w) := by
  have hH := headB_size h0 h1 pack
  obtain ⟨I, S, X1, X2, H, Y1, M, R, eI, eS, eH, eM, eR, r1, r2, r3, r4, r5⟩ := order_runs (P := Tryd.prog) h0 h1 key pack
  have HP := Lib.hid hP
  have HK := Lib.hid hK
  have HC1 := Lib.hid (itoaAll_c n h0 h1)
  have HC2 := Lib.hid (hashSum_c pack hp)
  have HC3 := Lib.hid (hashMac_c key (headB n pack) hk (by omega))
  have e3 : strOfNums (hexL (digest (padTo (bytesI (keyS key)) 92 64 ++ digest (padTo (bytesI (keyS key)) 54 64 ++ bytesI (headB n pack))))) = M := by rw [eM, eH]; rfl
  have e2 : strOfNums (hexL (digest (bytesI pack))) = S := eS.symm
  rw [e3, ← eH] at HC3
  rw [← eI] at HC1
  rw [e2] at HC2
  rw [← eR]
  clear eI eS eH eM eR e2 e3 h0 h1 hH hP hK
  go_enter Tryd.func14, Tryd.ntmps14
  (go_wp2_with fail); (go_at_call 46; refine (HC1.out _ _ HP.out).mono ?_; rintro e w1 ⟨rfl, b1⟩; obtain ⟨gc1, gf1⟩ := below_get b1; (try simp only [heap_drew, World.size_alloc, World.size_setCell] at gc1 gf1); have s1 := below_via (w := w) (by go_grown) b1; have H1 := s1; have hs1 := b1.size; (try simp at hs1); clear b1)
  (go_wp2_with fail); (go_at_call 47; refine (HC2.out _ (HK.out.up H1 hz) (by omega)).mono ?_; rintro e w2 ⟨rfl, b2⟩; obtain ⟨gc2, gf2⟩ := below_get b2; (try simp only [heap_drew, World.size_alloc, World.size_setCell] at gc2 gf2); have s2 := below_via (w := w1) (by go_grown) b2; have H2 := below_via H1 s2; have hs2 := b2.size; (try simp at hs2); clear b2)
  (go_wp2_with fail); (go_at_call 48; refine (HC3.out _ (HK.out.up H2 hz) (by omega)).mono ?_; rintro e w3 ⟨rfl, b3⟩; obtain ⟨gc3, gf3⟩ := below_get b3; (try simp only [heap_drew, World.size_alloc, World.size_setCell] at gc3 gf3); have s3 := below_via (w := w2) (by go_grown) b3; have H3 := below_via H2 s3; have hs3 := b3.size; (try simp at hs3); clear b3)
  go_wp2
  go_returns
  exact ⟨rfl, by go_grown⟩
end Go.Proofs.YtdbojdgppgphkaaDoor
