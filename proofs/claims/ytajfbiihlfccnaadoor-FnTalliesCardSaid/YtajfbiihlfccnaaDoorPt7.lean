/- The walk of the law on ParseTally: it returns true. Conditions: what Cx names. -/
import Derived.Test.YtajfbiihlfccnaaDoorPt6
namespace Go.Proofs.YtajfbiihlfccnaaDoor
open Go.RowKit
set_option linter.unusedVariables false
set_option linter.unusedSimpArgs false
theorem resT_parts (o : Option (Int × Int × Int)) : ∃ y n a b, resT o = .tuple #[.agg #[.int .i64 y, .int .i64 n, .int .i64 a], .bool b] := by
  cases o with
  | none => exact ⟨0, 0, 0, false, rfl⟩
  | some t => exact ⟨t.1, t.2.1, t.2.2, true, rfl⟩
theorem eqTally_same (y n a : Int) (w : World) : Calls Tryd.prog 9 #[.agg #[.int .i64 y, .int .i64 n, .int .i64 a], .agg #[.int .i64 y, .int .i64 n, .int .i64 a]] w fun e w' => e = .returned (.bool true) ∧ Below w.heap.size w w' := by
  go_enter Tryd.func9, Tryd.ntmps9
  go_wp2
  go_returns
  exact ⟨rfl, by go_grown⟩
namespace fnExactParseTally
set_option maxHeartbeats 2000000 in
theorem walk (s : ByteArray) (w : World) (h : Cx w) : Calls Tryd.prog 3 #[.string s] w fun e w' => e = .returned (.bool true) ∧ Below w.heap.size w w' := by
  by_cases hs : s.size ≤ 1048576
  · have c1 : ¬ (1048576 : Int) < (s.size : Int) := by omega
    obtain ⟨y, n, a, b, hr⟩ := resT_parts (ptS s.data.toList)
    have HS := Lib.hid hr
    have HI := Lib.hid ((congrArg resT (pt_same s.data.toList)).trans hr)
    have HC := Lib.hid h
    clear hr h
    go_enter Tryd.func3, Tryd.ntmps3
    go_upto_region 4 with (go_at_call 7; refine (sParseTally_any s _ hs HC.out).mono ?_; rintro e w1 ⟨rfl, hb⟩; rw [HS.out]; have HB1 := Lib.hid hb; have HC1 := Lib.hid (HC.out.below hb); clear hb)
    have HB2 := Lib.hid (after HB1.out (below1 w1 (.cells #[.int .i64 y, .int .i64 n, .int .i64 a] 23)))
    have HC2 := Lib.hid (HC1.out.below (below1 w1 (.cells #[.int .i64 y, .int .i64 n, .int .i64 a] 23)))
    have X2 := Lib.hid (show BoxF (w1.alloc (.cells #[.int .i64 y, .int .i64 n, .int .i64 a] 23)) w1.heap.size [.int .i64 y, .int .i64 n, .int .i64 a] from BoxF.new' w1 _ _ _ rfl)
    have lt2 : w1.heap.size < (w1.alloc (.cells #[.int .i64 y, .int .i64 n, .int .i64 a] 23)).heap.size := by simp
    generalize (w1.alloc (.cells #[.int .i64 y, .int .i64 n, .int .i64 a] 23)) = w2 at *
    obtain ⟨q1, hq1⟩ : ∃ q, w1.heap.size = q := ⟨_, rfl⟩
    rw [hq1] at X2 lt2 ⊢
    clear hq1
    go_upto_region 5 with (go_at_call 8; refine (ParseTally_any s _ hs HC2.out).mono ?_; rintro e w3 ⟨rfl, hb⟩; rw [HI.out]; have HB3 := Lib.hid (after HB2.out hb); have X3 := Lib.hid (X2.out.below hb lt2); have lt3 := Nat.lt_of_lt_of_le lt2 hb.size; clear hb)
    have HB4 := Lib.hid (after HB3.out (below1 w3 (.cells #[.int .i64 y, .int .i64 n, .int .i64 a] 23)))
    have X4 := Lib.hid (X3.out.below (below1 w3 (.cells #[.int .i64 y, .int .i64 n, .int .i64 a] 23)) lt3)
    have Y4 := Lib.hid (show BoxF (w3.alloc (.cells #[.int .i64 y, .int .i64 n, .int .i64 a] 23)) w3.heap.size [.int .i64 y, .int .i64 n, .int .i64 a] from BoxF.new' w3 _ _ _ rfl)
    generalize (w3.alloc (.cells #[.int .i64 y, .int .i64 n, .int .i64 a] 23)) = w4 at *
    have d0 := X4.out.1 0 _ rfl
    have d1 := X4.out.1 1 _ rfl
    have d2 := X4.out.1 2 _ rfl
    have g0 := Y4.out.1 0 _ rfl
    have g1 := Y4.out.1 1 _ rfl
    have g2 := Y4.out.1 2 _ rfl
    have hbb : (b != b) = false := by simp
    go_wp2_with (go_at_call 9; refine (eqTally_same _ _ _ _).mono ?_; rintro e w5 ⟨rfl, hb⟩; have HB5 := Lib.hid (after HB4.out hb); clear hb)
    go_ret
    exact ⟨rfl, HB5.out⟩
  · have c1 : (1048576 : Int) < (s.size : Int) := by omega
    go_enter Tryd.func3, Tryd.ntmps3
    go_wp2
    go_ret
    exact ⟨rfl, Below.refl _ _⟩
end fnExactParseTally
end Go.Proofs.YtajfbiihlfccnaaDoor
