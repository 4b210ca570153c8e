/- The walk of the law on ParseAmendment: it returns true. Conditions: what Cx, Wds4 name. -/
import Derived.Test.YtnnphhhjkhoglaaDoorAmp3
import Derived.Test.YtnnphhhjkhoglaaDoorAmp4
namespace Go.Proofs.YtnnphhhjkhoglaaDoor
open Go.RowKit
set_option linter.unusedVariables false
set_option linter.unusedSimpArgs false
theorem BT.only_ {w w' : World} {q lo hi : Nat} {T : TypeId} {vs : List Value} (h : BT w q T vs) (ho : Only lo hi w w') (hq : q < lo ∨ hi ≤ q) : BT w' q T vs := by
  have hk := ho.block q h.lt hq
  obtain ⟨cs, fr, ht⟩ := h.ty
  exact ⟨h.box.blk hk, ⟨cs, fr, hk.trans ht⟩⟩
section
variable {B B' lo hi : Nat} {w : World} {A A' : Option Addr} {c c' : Nat} {ws : List ByteArray}
theorem eqF (k p n : Int) (h : RdS B w A c ws) (h' : RdS B' w A' c' ws) : Calls Tryd.prog 6 #[.agg #[.int .i64 k, .int .i64 p, .int .i64 n, .slice A ws.length c], .agg #[.int .i64 k, .int .i64 p, .int .i64 n, .slice A' ws.length c']] w fun e w' => e = .returned (.bool true) ∧ Below w.heap.size w w' := eqA_abs (a := ⟨k, p, n, ws⟩) h h'
theorem markF (k p n : Int) (h : OwS lo hi w A c ws) : Calls Tryd.prog 7 #[.agg #[.int .i64 k, .int .i64 p, .int .i64 n, .slice A ws.length c], .int .i64 1] w fun e w' => e = .returned (.int .i64 (1 + (ws.length : Int))) ∧ OwS lo hi w' A c (marks 1 ws.length) ∧ Only lo hi w w' := markA_abs (a := ⟨k, p, n, ws⟩) 1 h (by omega) (by omega)
theorem heldF (k p n : Int) {m : Nat} (hm : m = ws.length) (h : RdS B w A c (marks 1 m)) : Calls Tryd.prog 8 #[.agg #[.int .i64 k, .int .i64 p, .int .i64 n, .slice A m c], .int .i64 1] w fun e w' => e = .returned (.int .i64 (1 + (m : Int))) ∧ Below w.heap.size w w' := by
  subst hm
  exact heldA_abs (a := ⟨k, p, n, ws⟩) 1 h (by omega) (by omega)
end
namespace fnExactParseAmendment
set_option maxRecDepth 100000 in
set_option maxHeartbeats 8000000 in
theorem walk (s : ByteArray) (w : World) (h : Cx w) (h4 : Wds4 w) : Calls Tryd.prog 3 #[.string s] w fun e w' => e = .returned (.bool true) ∧ Below w.heap.size w w' := by
  by_cases hs : s.size ≤ 1048576
  · have c1 : ¬ (1048576 : Int) < (s.size : Int) := by omega
    obtain ⟨a, hxs⟩ : ∃ xs, Hid (amR (amS s.data.toList) = xs) := ⟨_, Lib.hid rfl⟩
    obtain ⟨ok, hok⟩ : ∃ b, Hid (amB (amS s.data.toList) = b) := ⟨_, Lib.hid rfl⟩
    have HS : Hid (Calls Tryd.prog 4 #[.string s] w (AmTo w a ok)) := Lib.hid (by (have h9 := sParseAmendment_any s w hs); rw [hxs.out, hok.out] at h9; exact h9)
    have HI : Hid (∀ v, Cx v → Wds4 v → Calls Tryd.prog 5 #[.string s] v (AmTo v a ok)) := Lib.hid (fun v hv hw => by (have h9 := ParseAmendment_any s v hs hv hw); rw [am_same, hxs.out, hok.out] at h9; exact h9)
    have HC := Lib.hid h
    have H4 := Lib.hid h4
    have kb : (ok != ok) = false := by simp
    clear h h4 hs hxs hok
    obtain ⟨k, p, n, ws⟩ := a
    go_enter Tryd.func3, Tryd.ntmps3
    go_wp2_with fail
    refine HS.out.mono ?_
    rintro e w1 ⟨A0, c0, rfl, o0, hb⟩
    have hbl := below1 w1 (.cells #[.int .i64 k, .int .i64 p, .int .i64 n, .slice A0 ws.length c0] 24)
    have T1 := Lib.hid (after hb hbl)
    have R0 := Lib.hid (o0.rd.below hbl (Nat.le_refl _))
    have X0 := Lib.hid (BT.new w1 #[.int .i64 k, .int .i64 p, .int .i64 n, .slice A0 ws.length c0] 24 w1.heap.size rfl)
    have hq0 : w1.heap.size < (w1.alloc (.cells #[.int .i64 k, .int .i64 p, .int .i64 n, .slice A0 ws.length c0] 24)).heap.size := by simp
    clear o0 hb hbl
    go_upto_region 4 with fail
    generalize w1.alloc (.cells #[.int .i64 k, .int .i64 p, .int .i64 n, .slice A0 ws.length c0] 24) = v1 at *
    generalize w1.heap.size = q0 at *
    go_wp2_with fail
    refine (HI.out v1 (HC.out.below T1.out) (H4.out.below T1.out)).mono ?_
    rintro e w2 ⟨A1, c1, rfl, o1, hb⟩
    have hbl := below1 w2 (.cells #[.int .i64 k, .int .i64 p, .int .i64 n, .slice A1 ws.length c1] 24)
    have T2 := Lib.hid (after T1.out (after hb hbl))
    replace R0 := Lib.hid ((R0.out.below hb (Nat.le_of_lt hq0)).below hbl (Nat.le_trans (Nat.le_of_lt hq0) hb.size))
    replace X0 := Lib.hid ((X0.out.call hb).call hbl)
    have O1 := Lib.hid (o1.below hbl (Nat.le_refl _))
    have X1 := Lib.hid (BT.new w2 #[.int .i64 k, .int .i64 p, .int .i64 n, .slice A1 ws.length c1] 24 w2.heap.size rfl)
    have hz1 := Lib.hid hb.size
    have hz2 : w2.heap.size < (w2.alloc (.cells #[.int .i64 k, .int .i64 p, .int .i64 n, .slice A1 ws.length c1] 24)).heap.size := by simp
    clear o1 hb hbl
    go_upto_region 5 with fail
    generalize w2.alloc (.cells #[.int .i64 k, .int .i64 p, .int .i64 n, .slice A1 ws.length c1] 24) = v2 at *
    generalize w2.heap.size = q1 at *
    go_wp2_with (first | (refine wpList_load_mid rfl 24 _ rfl q1 0 rfl [.int .i64 k, .int .i64 p, .int .i64 n, .slice A1 ws.length c1] _ X1.out.rng Tryd.underlying24 rfl (by kernel_rfl) ?_) | (refine wpList_load_mid rfl 24 _ rfl q0 0 rfl [.int .i64 k, .int .i64 p, .int .i64 n, .slice A0 ws.length c0] _ X0.out.rng Tryd.underlying24 rfl (by kernel_rfl) ?_))
    refine (eqF k p n O1.out.rd R0.out).mono ?_
    rintro e v3 ⟨rfl, hb⟩
    have T3 := Lib.hid (after T2.out hb)
    have hz3 : q1 < v3.heap.size := Nat.lt_of_lt_of_le hz2 hb.size
    replace R0 := Lib.hid (R0.out.below hb (by have := hz1.out; omega))
    replace O1 := Lib.hid (O1.out.below hb (Nat.le_of_lt hz2))
    replace X0 := Lib.hid (X0.out.call hb)
    replace X1 := Lib.hid (X1.out.call hb)
    clear hb hz2
    go_wp2_with (refine wpList_load_mid rfl 24 _ rfl q1 0 rfl [.int .i64 k, .int .i64 p, .int .i64 n, .slice A1 ws.length c1] _ X1.out.rng Tryd.underlying24 rfl (by kernel_rfl) ?_)
    refine (markF k p n O1.out).mono ?_
    rintro e v4 ⟨rfl, om, ho⟩
    have hl := O1.out.2.2.1
    have hlo : v1.heap.size ≤ v3.heap.size := by have := hz1.out; omega
    have hbw := ho.below hlo
    have T4 := Lib.hid (T3.out.trans (hbw.mono T1.out.size))
    replace R0 := Lib.hid (R0.out.below hbw (Nat.le_of_lt hq0))
    replace X0 := Lib.hid (X0.out.only_ ho (.inl hq0))
    replace X1 := Lib.hid (X1.out.only_ ho (.inr (Nat.le_refl _)))
    have OM := Lib.hid om
    have hz4 : q1 < v4.heap.size := Nat.lt_of_lt_of_le hz3 ho.size
    have k1 : decide ((1 : Int) + (ws.length : Int) < 0) = false := decide_eq_false (by omega)
    have k2 : ((1 : Int) + (ws.length : Int) != 1 + (ws.length : Int)) = false := by simp
    clear O1 om ho hbw hlo hl hz3
    go_wp2_with (refine wpList_load_mid rfl 24 _ rfl q1 0 rfl [.int .i64 k, .int .i64 p, .int .i64 n, .slice A1 ws.length c1] _ X1.out.rng Tryd.underlying24 rfl (by kernel_rfl) ?_)
    refine (heldF k p n rfl OM.out.rd).mono ?_
    rintro e v5 ⟨rfl, hb⟩
    have T5 := Lib.hid (after T4.out hb)
    have hz5 : q1 < v5.heap.size := Nat.lt_of_lt_of_le hz4 hb.size
    replace R0 := Lib.hid (R0.out.below hb (by have := hz1.out; omega))
    replace OM := Lib.hid (OM.out.below hb (Nat.le_of_lt hz4))
    replace X0 := Lib.hid (X0.out.call hb)
    replace X1 := Lib.hid (X1.out.call hb)
    clear hb hz4
    go_wp2_with fail
    refine (HI.out v5 (HC.out.below T5.out) (H4.out.below T5.out)).mono ?_
    rintro e w6 ⟨A2, c2, rfl, o2, hb⟩
    have hbl := below1 w6 (.cells #[.int .i64 k, .int .i64 p, .int .i64 n, .slice A2 ws.length c2] 24)
    have T6 := Lib.hid (after T5.out (after hb hbl))
    have hz6 : q1 < w6.heap.size := Nat.lt_of_lt_of_le hz5 hb.size
    replace R0 := Lib.hid ((R0.out.below hb (by have := hz1.out; omega)).below hbl (by have := hz1.out; omega))
    replace OM := Lib.hid ((OM.out.below hb (Nat.le_of_lt hz5)).below hbl (Nat.le_of_lt hz6))
    replace X0 := Lib.hid ((X0.out.call hb).call hbl)
    replace X1 := Lib.hid ((X1.out.call hb).call hbl)
    have O2 := Lib.hid (o2.below hbl (Nat.le_refl _))
    have X2 := Lib.hid (BT.new w6 #[.int .i64 k, .int .i64 p, .int .i64 n, .slice A2 ws.length c2] 24 w6.heap.size rfl)
    have hz7 : w6.heap.size < (w6.alloc (.cells #[.int .i64 k, .int .i64 p, .int .i64 n, .slice A2 ws.length c2] 24)).heap.size := by simp
    clear o2 hb hbl hz5
    go_upto_region 16 with fail
    generalize w6.alloc (.cells #[.int .i64 k, .int .i64 p, .int .i64 n, .slice A2 ws.length c2] 24) = v6 at *
    generalize w6.heap.size = q2 at *
    go_wp2_with (first | (refine wpList_load_mid rfl 24 _ rfl q2 0 rfl [.int .i64 k, .int .i64 p, .int .i64 n, .slice A2 ws.length c2] _ X2.out.rng Tryd.underlying24 rfl (by kernel_rfl) ?_) | (refine wpList_load_mid rfl 24 _ rfl q0 0 rfl [.int .i64 k, .int .i64 p, .int .i64 n, .slice A0 ws.length c0] _ X0.out.rng Tryd.underlying24 rfl (by kernel_rfl) ?_))
    refine (eqF k p n O2.out.rd R0.out).mono ?_
    rintro e v7 ⟨rfl, hb⟩
    have T7 := Lib.hid (after T6.out hb)
    replace OM := Lib.hid (OM.out.below hb (by omega))
    replace X1 := Lib.hid (X1.out.call hb)
    clear hb R0 O2 X0 X2
    go_wp2_with (refine wpList_load_mid rfl 24 _ rfl q1 0 rfl [.int .i64 k, .int .i64 p, .int .i64 n, .slice A1 ws.length c1] _ X1.out.rng Tryd.underlying24 rfl (by kernel_rfl) ?_)
    refine (heldF k p n rfl OM.out.rd).mono ?_
    rintro e v8 ⟨rfl, hb⟩
    have T8 := Lib.hid (after T7.out hb)
    clear hb
    go_wp2
    go_ret
    exact ⟨rfl, T8.out⟩
  · have c1 : (1048576 : Int) < (s.size : Int) := by omega
    go_enter Tryd.func3, Tryd.ntmps3
    go_wp2
    go_ret
    exact ⟨rfl, Below.refl _ _⟩
end fnExactParseAmendment
end Go.Proofs.YtnnphhhjkhoglaaDoor
