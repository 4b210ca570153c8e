/- The walk of the law on DisposeQuestion: it returns true. Conditions: none. -/
import Derived.Test.YtajbbinphnekiaaQR
import Derived.Test.YtajbbinphnekiaaPk
namespace Go.Proofs.Ytajbbinphnekiaa
open Go.RowKit
set_option linter.unusedVariables false
section
variable {B B' : Nat} {w : World} {A D : Option Addr} {c d : Nat} {xs : List Rul} {qs : List Qst}
theorem DisposeQuestion_abs (h : Rd RuleK B w A c xs) (h' : Rd QuestionK B' w D d qs) : Calls Try.prog 24 #[.slice A xs.length c, .slice D qs.length d] w (ToLQB w (disL xs qs) (disQ xs qs) (disB xs qs)) := DisposeQuestion_any A c xs D d qs w (PA.of h h')
theorem sDisposeQuestion_abs (h : Rd RuleK B w A c xs) (h' : Rd QuestionK B' w D d qs) : Calls Try.prog 23 #[.slice A xs.length c, .slice D qs.length d] w (ToLQB w (disL xs qs) (disQ xs qs) (disB xs qs)) := sDisposeQuestion_any A c xs D d qs w (PA.of h h')
end
namespace fnExactDisposeQuestion
set_option maxRecDepth 100000 in
set_option maxHeartbeats 4000000 in
theorem walk (AX00 : Option Addr) (cX00 : Nat) (xs : List Rul) (AX10 : Option Addr) (cX10 : Nat) (qs : List Qst) (w : World) (hx00 : (xs).length ≤ cX00 ∧ Cells w AX00 (RuleK.row xs) ∧ (xs).length ≤ maxLen ∧ ∀ x ∈ xs, RuleK.fit x) (hx10 : (qs).length ≤ cX10 ∧ Cells w AX10 (QuestionK.row qs) ∧ (qs).length ≤ maxLen ∧ ∀ x ∈ qs, QuestionK.fit x) :
    Calls Try.prog 4 #[.slice AX00 (xs).length cX00, .slice AX10 (qs).length cX10] w fun e w' => e = .returned (.bool true) ∧ Below w.heap.size w w' := by
  have fX00_i := Lib.hid (show Rd0 RuleK w.heap.size w AX00 cX00 xs from ⟨hx00.1, CellsB.of_cells hx00.2.1, hx00.2.2⟩)
  have fX10_i := Lib.hid (show Rd0 QuestionK w.heap.size w AX10 cX10 qs from ⟨hx10.1, CellsB.of_cells hx10.2.1, hx10.2.2⟩)
  clear hx00 hx10
  go_enter Try.func4, Try.ntmps4
  have t0 := Lib.hid (Below.refl w.heap.size w)
  have fX00_0 := Lib.hid (fX00_i.out.below t0.out (Nat.le_refl _))
  have fX10_0 := Lib.hid (fX10_i.out.below t0.out (Nat.le_refl _))
  go_wp2_with fail
  clear fX00_i fX10_i
  refine (szR_abs (1048576) fX00_0.out (by omega) (by omega)).mono ?_
  rintro e w1 ⟨rfl, hb⟩
  have t1 := Lib.hid (after t0.out hb)
  have s1 := Lib.hid hb.size
  have fX00_1 := Lib.hid (fX00_0.out.below hb t0.out.size)
  have fX10_1 := Lib.hid (fX10_0.out.below hb t0.out.size)
  clear fX00_0 fX10_0 hb
  rcases Int.lt_or_le ((szR_of xs) (1048576)) 0 with hz | hz
  · go_wp2_with fail
    go_ret
    exact ⟨rfl, t1.out⟩
  have hz0 : ¬ (szR_of xs) (1048576) < 0 := by omega
  obtain ⟨fit0, lo0, hi0⟩ := szR_fit hz0 (by omega)
  have FT0 := Lib.hid fit0
  clear fit0 hz
  go_wp2_with fail
  refine (szQ_abs ((szR_of xs) (1048576)) fX10_1.out lo0 hi0).mono ?_
  rintro e w2 ⟨rfl, hb⟩
  have t2 := Lib.hid (after t1.out hb)
  have s2 := Lib.hid hb.size
  have fX00_2 := Lib.hid (fX00_1.out.below hb t1.out.size)
  have fX10_2 := Lib.hid (fX10_1.out.below hb t1.out.size)
  clear fX00_1 fX10_1 hb
  rcases Int.lt_or_le ((szQ_of qs) ((szR_of xs) (1048576))) 0 with hz | hz
  · go_wp2_with fail
    go_ret
    exact ⟨rfl, t2.out⟩
  have hz1 : ¬ (szQ_of qs) ((szR_of xs) (1048576)) < 0 := by omega
  obtain ⟨fit1, lo1, hi1⟩ := szQ_fit hz1 (by omega)
  have FT1 := Lib.hid fit1
  clear fit1 hz
  have fX00_2r := Lib.hid (fX00_2.out.rd (FT0.out))
  have fX10_2r := Lib.hid (fX10_2.out.rd (FT1.out))
  clear fX00_2 fX10_2
  go_wp2_with fail
  refine (toR_abs fX00_2r.out).mono ?_
  rintro e w3 ⟨AWa00, cWa00, rfl, oWa00, hb⟩
  have t3 := Lib.hid (after t2.out hb)
  have s3 := Lib.hid hb.size
  have fX00_3 := Lib.hid (fX00_2r.out.below hb t2.out.size)
  have fX10_3 := Lib.hid (fX10_2r.out.below hb t2.out.size)
  have fWa00_3 := Lib.hid oWa00
  clear fX00_2r fX10_2r oWa00 hb
  go_wp2_with fail
  refine (toQ_abs fX10_3.out).mono ?_
  rintro e w4 ⟨AWa10, cWa10, rfl, oWa10, hb⟩
  have t4 := Lib.hid (after t3.out hb)
  have s4 := Lib.hid hb.size
  have fX00_4 := Lib.hid (fX00_3.out.below hb t3.out.size)
  have fX10_4 := Lib.hid (fX10_3.out.below hb t3.out.size)
  have fWa00_4 := Lib.hid (fWa00_3.out.below hb (Nat.le_refl _))
  have fWa10_4 := Lib.hid oWa10
  clear fX00_3 fX10_3 fWa00_3 oWa10 hb
  go_wp2_with fail
  refine (sDisposeQuestion_abs fWa00_4.out.rd fWa10_4.out.rd).mono ?_
  rintro e w5 ⟨AW0, cW0, rfl, oW0, hb⟩
  have t5 := Lib.hid (after t4.out hb)
  have s5 := Lib.hid hb.size
  have fX00_5 := Lib.hid (fX00_4.out.below hb t4.out.size)
  have fX10_5 := Lib.hid (fX10_4.out.below hb t4.out.size)
  have fWa00_5 := Lib.hid (fWa00_4.out.below hb s4.out)
  have fWa10_5 := Lib.hid (fWa10_4.out.below hb (Nat.le_refl _))
  have fW0_5 := Lib.hid oW0
  clear fX00_4 fX10_4 fWa00_4 fWa10_4 oW0 hb
  clear fWa00_5 fWa10_5
  have nb := (BoxL.new w5 #[.int .i64 ((disQ xs qs)).r, .int .i64 ((disQ xs qs)).m, .bool ((disQ xs qs)).s] 35).mono (show w5.heap.size + 1 ≤ (w5.alloc (.cells #[.int .i64 ((disQ xs qs)).r, .int .i64 ((disQ xs qs)).m, .bool ((disQ xs qs)).s] 35)).heap.size by simp)
  have hb : Below w5.heap.size w5 (w5.alloc (.cells #[.int .i64 ((disQ xs qs)).r, .int .i64 ((disQ xs qs)).m, .bool ((disQ xs qs)).s] 35)) := by go_grown
  go_wp2_with fail
  generalize w5.alloc (.cells #[.int .i64 ((disQ xs qs)).r, .int .i64 ((disQ xs qs)).m, .bool ((disQ xs qs)).s] 35) = w6 at *
  have t6 := Lib.hid (after t5.out hb)
  have s6 := Lib.hid hb.size
  have fX00_6 := Lib.hid (fX00_5.out.below hb t5.out.size)
  have fX10_6 := Lib.hid (fX10_5.out.below hb t5.out.size)
  have fW0_6 := Lib.hid (fW0_5.out.below hb (Nat.le_refl _))
  have bWV_6 := Lib.hid nb
  clear fX00_5 fX10_5 fW0_5 nb hb
  refine (toR_abs fX00_6.out).mono ?_
  rintro e w7 ⟨AY00, cY00, rfl, oY00, hb⟩
  have t7 := Lib.hid (after t6.out hb)
  have s7 := Lib.hid hb.size
  have fX00_7 := Lib.hid (fX00_6.out.below hb t6.out.size)
  have fX10_7 := Lib.hid (fX10_6.out.below hb t6.out.size)
  have fW0_7 := Lib.hid (fW0_6.out.below hb s6.out)
  have bWV_7 := Lib.hid (bWV_6.out.below hb (Nat.le_refl _))
  have fY00_7 := Lib.hid oY00
  clear fX00_6 fX10_6 fW0_6 bWV_6 oY00 hb
  have eWV0 := bWV_7.out.2 0 _ rfl
  have eWV1 := bWV_7.out.2 1 _ rfl
  have eWV2 := bWV_7.out.2 2 _ rfl
  have zWV := Nat.lt_of_lt_of_le bWV_7.out.1 s7.out
  go_wp2_with fail
  clear eWV0 eWV1 eWV2 zWV
  refine (toQ_abs fX10_7.out).mono ?_
  rintro e w8 ⟨AY10, cY10, rfl, oY10, hb⟩
  have t8 := Lib.hid (after t7.out hb)
  have s8 := Lib.hid hb.size
  have fX00_8 := Lib.hid (fX00_7.out.below hb t7.out.size)
  have fX10_8 := Lib.hid (fX10_7.out.below hb t7.out.size)
  have fW0_8 := Lib.hid (fW0_7.out.below hb (Nat.le_trans s6.out s7.out))
  have bWV_8 := Lib.hid (bWV_7.out.below hb s7.out)
  have fY00_8 := Lib.hid (fY00_7.out.below hb (Nat.le_refl _))
  have fY10_8 := Lib.hid oY10
  clear fX00_7 fX10_7 fW0_7 bWV_7 fY00_7 oY10 hb
  have eWV0 := bWV_8.out.2 0 _ rfl
  have eWV1 := bWV_8.out.2 1 _ rfl
  have eWV2 := bWV_8.out.2 2 _ rfl
  have zWV := Nat.lt_of_lt_of_le bWV_8.out.1 (Nat.le_trans s7.out s8.out)
  go_wp2_with fail
  clear eWV0 eWV1 eWV2 zWV
  refine (DisposeQuestion_abs fY00_8.out.rd fY10_8.out.rd).mono ?_
  rintro e w9 ⟨AG0, cG0, rfl, oG0, hb⟩
  have t9 := Lib.hid (after t8.out hb)
  have s9 := Lib.hid hb.size
  have fX00_9 := Lib.hid (fX00_8.out.below hb t8.out.size)
  have fX10_9 := Lib.hid (fX10_8.out.below hb t8.out.size)
  have fW0_9 := Lib.hid (fW0_8.out.below hb (Nat.le_trans s6.out (Nat.le_trans s7.out s8.out)))
  have bWV_9 := Lib.hid (bWV_8.out.below hb (Nat.le_trans s7.out s8.out))
  have fY00_9 := Lib.hid (fY00_8.out.below hb s8.out)
  have fY10_9 := Lib.hid (fY10_8.out.below hb (Nat.le_refl _))
  have fG0_9 := Lib.hid oG0
  clear fX00_8 fX10_8 fW0_8 bWV_8 fY00_8 fY10_8 oG0 hb
  have nb := (BoxL.new w9 #[.int .i64 ((disQ xs qs)).r, .int .i64 ((disQ xs qs)).m, .bool ((disQ xs qs)).s] 35).mono (show w9.heap.size + 1 ≤ (w9.alloc (.cells #[.int .i64 ((disQ xs qs)).r, .int .i64 ((disQ xs qs)).m, .bool ((disQ xs qs)).s] 35)).heap.size by simp)
  have hb : Below w9.heap.size w9 (w9.alloc (.cells #[.int .i64 ((disQ xs qs)).r, .int .i64 ((disQ xs qs)).m, .bool ((disQ xs qs)).s] 35)) := by go_grown
  have eWV0 := bWV_9.out.2 0 _ rfl
  have eWV1 := bWV_9.out.2 1 _ rfl
  have eWV2 := bWV_9.out.2 2 _ rfl
  have zWV := Nat.lt_of_lt_of_le bWV_9.out.1 (Nat.le_trans s7.out (Nat.le_trans s8.out s9.out))
  go_wp2_with fail
  clear eWV0 eWV1 eWV2 zWV
  generalize w9.alloc (.cells #[.int .i64 ((disQ xs qs)).r, .int .i64 ((disQ xs qs)).m, .bool ((disQ xs qs)).s] 35) = w10 at *
  have t10 := Lib.hid (after t9.out hb)
  have s10 := Lib.hid hb.size
  have fX00_10 := Lib.hid (fX00_9.out.below hb t9.out.size)
  have fX10_10 := Lib.hid (fX10_9.out.below hb t9.out.size)
  have fW0_10 := Lib.hid (fW0_9.out.below hb (Nat.le_trans s6.out (Nat.le_trans s7.out (Nat.le_trans s8.out s9.out))))
  have bWV_10 := Lib.hid (bWV_9.out.below hb (Nat.le_trans s7.out (Nat.le_trans s8.out s9.out)))
  have fY00_10 := Lib.hid (fY00_9.out.below hb (Nat.le_trans s8.out s9.out))
  have fY10_10 := Lib.hid (fY10_9.out.below hb s9.out)
  have fG0_10 := Lib.hid (fG0_9.out.below hb (Nat.le_refl _))
  have bGV_10 := Lib.hid nb
  clear fX00_9 fX10_9 fW0_9 bWV_9 fY00_9 fY10_9 fG0_9 nb hb
  refine (eqQ_abs fG0_10.out.rd fW0_10.out.rd).mono ?_
  rintro e w11 ⟨rfl, hb⟩
  have t11 := Lib.hid (after t10.out hb)
  have s11 := Lib.hid hb.size
  have fX00_11 := Lib.hid (fX00_10.out.below hb t10.out.size)
  have fX10_11 := Lib.hid (fX10_10.out.below hb t10.out.size)
  have fW0_11 := Lib.hid (fW0_10.out.below hb (Nat.le_trans s6.out (Nat.le_trans s7.out (Nat.le_trans s8.out (Nat.le_trans s9.out s10.out)))))
  have bWV_11 := Lib.hid (bWV_10.out.below hb (Nat.le_trans s7.out (Nat.le_trans s8.out (Nat.le_trans s9.out s10.out))))
  have fY00_11 := Lib.hid (fY00_10.out.below hb (Nat.le_trans s8.out (Nat.le_trans s9.out s10.out)))
  have fY10_11 := Lib.hid (fY10_10.out.below hb (Nat.le_trans s9.out s10.out))
  have fG0_11 := Lib.hid (fG0_10.out.below hb s10.out)
  have bGV_11 := Lib.hid (bGV_10.out.below hb (Nat.le_refl _))
  clear fX00_10 fX10_10 fW0_10 bWV_10 fY00_10 fY10_10 fG0_10 bGV_10 hb
  have eWV0 := bWV_11.out.2 0 _ rfl
  have eWV1 := bWV_11.out.2 1 _ rfl
  have eWV2 := bWV_11.out.2 2 _ rfl
  have zWV := Nat.lt_of_lt_of_le bWV_11.out.1 (Nat.le_trans s7.out (Nat.le_trans s8.out (Nat.le_trans s9.out (Nat.le_trans s10.out s11.out))))
  have eGV0 := bGV_11.out.2 0 _ rfl
  have eGV1 := bGV_11.out.2 1 _ rfl
  have eGV2 := bGV_11.out.2 2 _ rfl
  have zGV := Nat.lt_of_lt_of_le bGV_11.out.1 s11.out
  go_wp2_with fail
  clear eWV0 eWV1 eWV2 zWV eGV0 eGV1 eGV2 zGV
  refine (eqQuestion_same _ _).mono ?_
  rintro e w12 ⟨rfl, hb⟩
  have t12 := Lib.hid (after t11.out hb)
  have s12 := Lib.hid hb.size
  have fX00_12 := Lib.hid (fX00_11.out.below hb t11.out.size)
  have fX10_12 := Lib.hid (fX10_11.out.below hb t11.out.size)
  have fW0_12 := Lib.hid (fW0_11.out.below hb (Nat.le_trans s6.out (Nat.le_trans s7.out (Nat.le_trans s8.out (Nat.le_trans s9.out (Nat.le_trans s10.out s11.out))))))
  have bWV_12 := Lib.hid (bWV_11.out.below hb (Nat.le_trans s7.out (Nat.le_trans s8.out (Nat.le_trans s9.out (Nat.le_trans s10.out s11.out)))))
  have fY00_12 := Lib.hid (fY00_11.out.below hb (Nat.le_trans s8.out (Nat.le_trans s9.out (Nat.le_trans s10.out s11.out))))
  have fY10_12 := Lib.hid (fY10_11.out.below hb (Nat.le_trans s9.out (Nat.le_trans s10.out s11.out)))
  have fG0_12 := Lib.hid (fG0_11.out.below hb (Nat.le_trans s10.out s11.out))
  have bGV_12 := Lib.hid (bGV_11.out.below hb s11.out)
  clear fX00_11 fX10_11 fW0_11 bWV_11 fY00_11 fY10_11 fG0_11 bGV_11 hb
  have eWV0 := bWV_12.out.2 0 _ rfl
  have eWV1 := bWV_12.out.2 1 _ rfl
  have eWV2 := bWV_12.out.2 2 _ rfl
  have zWV := Nat.lt_of_lt_of_le bWV_12.out.1 (Nat.le_trans s7.out (Nat.le_trans s8.out (Nat.le_trans s9.out (Nat.le_trans s10.out (Nat.le_trans s11.out s12.out)))))
  have eGV0 := bGV_12.out.2 0 _ rfl
  have eGV1 := bGV_12.out.2 1 _ rfl
  have eGV2 := bGV_12.out.2 2 _ rfl
  have zGV := Nat.lt_of_lt_of_le bGV_12.out.1 (Nat.le_trans s11.out s12.out)
  go_wp2_with fail
  clear eWV0 eWV1 eWV2 zWV eGV0 eGV1 eGV2 zGV
  refine (toR_abs fX00_12.out).mono ?_
  rintro e w13 ⟨AZ00, cZ00, rfl, oZ00, hb⟩
  have t13 := Lib.hid (after t12.out hb)
  have s13 := Lib.hid hb.size
  have fX00_13 := Lib.hid (fX00_12.out.below hb t12.out.size)
  have fX10_13 := Lib.hid (fX10_12.out.below hb t12.out.size)
  have fW0_13 := Lib.hid (fW0_12.out.below hb (Nat.le_trans s6.out (Nat.le_trans s7.out (Nat.le_trans s8.out (Nat.le_trans s9.out (Nat.le_trans s10.out (Nat.le_trans s11.out s12.out)))))))
  have bWV_13 := Lib.hid (bWV_12.out.below hb (Nat.le_trans s7.out (Nat.le_trans s8.out (Nat.le_trans s9.out (Nat.le_trans s10.out (Nat.le_trans s11.out s12.out))))))
  have fY00_13 := Lib.hid (fY00_12.out.below hb (Nat.le_trans s8.out (Nat.le_trans s9.out (Nat.le_trans s10.out (Nat.le_trans s11.out s12.out)))))
  have fY10_13 := Lib.hid (fY10_12.out.below hb (Nat.le_trans s9.out (Nat.le_trans s10.out (Nat.le_trans s11.out s12.out))))
  have fG0_13 := Lib.hid (fG0_12.out.below hb (Nat.le_trans s10.out (Nat.le_trans s11.out s12.out)))
  have bGV_13 := Lib.hid (bGV_12.out.below hb (Nat.le_trans s11.out s12.out))
  have fZ00_13 := Lib.hid oZ00
  clear fX00_12 fX10_12 fW0_12 bWV_12 fY00_12 fY10_12 fG0_12 bGV_12 oZ00 hb
  have eWV0 := bWV_13.out.2 0 _ rfl
  have eWV1 := bWV_13.out.2 1 _ rfl
  have eWV2 := bWV_13.out.2 2 _ rfl
  have zWV := Nat.lt_of_lt_of_le bWV_13.out.1 (Nat.le_trans s7.out (Nat.le_trans s8.out (Nat.le_trans s9.out (Nat.le_trans s10.out (Nat.le_trans s11.out (Nat.le_trans s12.out s13.out))))))
  have eGV0 := bGV_13.out.2 0 _ rfl
  have eGV1 := bGV_13.out.2 1 _ rfl
  have eGV2 := bGV_13.out.2 2 _ rfl
  have zGV := Nat.lt_of_lt_of_le bGV_13.out.1 (Nat.le_trans s11.out (Nat.le_trans s12.out s13.out))
  go_wp2_with fail
  clear eWV0 eWV1 eWV2 zWV eGV0 eGV1 eGV2 zGV
  refine (eqR_abs fY00_13.out.rd fZ00_13.out.rd).mono ?_
  rintro e w14 ⟨rfl, hb⟩
  have t14 := Lib.hid (after t13.out hb)
  have s14 := Lib.hid hb.size
  have fX00_14 := Lib.hid (fX00_13.out.below hb t13.out.size)
  have fX10_14 := Lib.hid (fX10_13.out.below hb t13.out.size)
  have fW0_14 := Lib.hid (fW0_13.out.below hb (Nat.le_trans s6.out (Nat.le_trans s7.out (Nat.le_trans s8.out (Nat.le_trans s9.out (Nat.le_trans s10.out (Nat.le_trans s11.out (Nat.le_trans s12.out s13.out))))))))
  have bWV_14 := Lib.hid (bWV_13.out.below hb (Nat.le_trans s7.out (Nat.le_trans s8.out (Nat.le_trans s9.out (Nat.le_trans s10.out (Nat.le_trans s11.out (Nat.le_trans s12.out s13.out)))))))
  have fY00_14 := Lib.hid (fY00_13.out.below hb (Nat.le_trans s8.out (Nat.le_trans s9.out (Nat.le_trans s10.out (Nat.le_trans s11.out (Nat.le_trans s12.out s13.out))))))
  have fY10_14 := Lib.hid (fY10_13.out.below hb (Nat.le_trans s9.out (Nat.le_trans s10.out (Nat.le_trans s11.out (Nat.le_trans s12.out s13.out)))))
  have fG0_14 := Lib.hid (fG0_13.out.below hb (Nat.le_trans s10.out (Nat.le_trans s11.out (Nat.le_trans s12.out s13.out))))
  have bGV_14 := Lib.hid (bGV_13.out.below hb (Nat.le_trans s11.out (Nat.le_trans s12.out s13.out)))
  have fZ00_14 := Lib.hid (fZ00_13.out.below hb (Nat.le_refl _))
  clear fX00_13 fX10_13 fW0_13 bWV_13 fY00_13 fY10_13 fG0_13 bGV_13 fZ00_13 hb
  clear fZ00_14
  have eWV0 := bWV_14.out.2 0 _ rfl
  have eWV1 := bWV_14.out.2 1 _ rfl
  have eWV2 := bWV_14.out.2 2 _ rfl
  have zWV := Nat.lt_of_lt_of_le bWV_14.out.1 (Nat.le_trans s7.out (Nat.le_trans s8.out (Nat.le_trans s9.out (Nat.le_trans s10.out (Nat.le_trans s11.out (Nat.le_trans s12.out (Nat.le_trans s13.out s14.out)))))))
  have eGV0 := bGV_14.out.2 0 _ rfl
  have eGV1 := bGV_14.out.2 1 _ rfl
  have eGV2 := bGV_14.out.2 2 _ rfl
  have zGV := Nat.lt_of_lt_of_le bGV_14.out.1 (Nat.le_trans s11.out (Nat.le_trans s12.out (Nat.le_trans s13.out s14.out)))
  go_wp2_with fail
  clear eWV0 eWV1 eWV2 zWV eGV0 eGV1 eGV2 zGV
  refine (toQ_abs fX10_14.out).mono ?_
  rintro e w15 ⟨AZ10, cZ10, rfl, oZ10, hb⟩
  have t15 := Lib.hid (after t14.out hb)
  have s15 := Lib.hid hb.size
  have fX00_15 := Lib.hid (fX00_14.out.below hb t14.out.size)
  have fX10_15 := Lib.hid (fX10_14.out.below hb t14.out.size)
  have fW0_15 := Lib.hid (fW0_14.out.below hb (Nat.le_trans s6.out (Nat.le_trans s7.out (Nat.le_trans s8.out (Nat.le_trans s9.out (Nat.le_trans s10.out (Nat.le_trans s11.out (Nat.le_trans s12.out (Nat.le_trans s13.out s14.out)))))))))
  have bWV_15 := Lib.hid (bWV_14.out.below hb (Nat.le_trans s7.out (Nat.le_trans s8.out (Nat.le_trans s9.out (Nat.le_trans s10.out (Nat.le_trans s11.out (Nat.le_trans s12.out (Nat.le_trans s13.out s14.out))))))))
  have fY00_15 := Lib.hid (fY00_14.out.below hb (Nat.le_trans s8.out (Nat.le_trans s9.out (Nat.le_trans s10.out (Nat.le_trans s11.out (Nat.le_trans s12.out (Nat.le_trans s13.out s14.out)))))))
  have fY10_15 := Lib.hid (fY10_14.out.below hb (Nat.le_trans s9.out (Nat.le_trans s10.out (Nat.le_trans s11.out (Nat.le_trans s12.out (Nat.le_trans s13.out s14.out))))))
  have fG0_15 := Lib.hid (fG0_14.out.below hb (Nat.le_trans s10.out (Nat.le_trans s11.out (Nat.le_trans s12.out (Nat.le_trans s13.out s14.out)))))
  have bGV_15 := Lib.hid (bGV_14.out.below hb (Nat.le_trans s11.out (Nat.le_trans s12.out (Nat.le_trans s13.out s14.out))))
  have fZ10_15 := Lib.hid oZ10
  clear fX00_14 fX10_14 fW0_14 bWV_14 fY00_14 fY10_14 fG0_14 bGV_14 oZ10 hb
  have eWV0 := bWV_15.out.2 0 _ rfl
  have eWV1 := bWV_15.out.2 1 _ rfl
  have eWV2 := bWV_15.out.2 2 _ rfl
  have zWV := Nat.lt_of_lt_of_le bWV_15.out.1 (Nat.le_trans s7.out (Nat.le_trans s8.out (Nat.le_trans s9.out (Nat.le_trans s10.out (Nat.le_trans s11.out (Nat.le_trans s12.out (Nat.le_trans s13.out (Nat.le_trans s14.out s15.out))))))))
  have eGV0 := bGV_15.out.2 0 _ rfl
  have eGV1 := bGV_15.out.2 1 _ rfl
  have eGV2 := bGV_15.out.2 2 _ rfl
  have zGV := Nat.lt_of_lt_of_le bGV_15.out.1 (Nat.le_trans s11.out (Nat.le_trans s12.out (Nat.le_trans s13.out (Nat.le_trans s14.out s15.out))))
  go_wp2_with fail
  clear eWV0 eWV1 eWV2 zWV eGV0 eGV1 eGV2 zGV
  refine (eqQ_abs fY10_15.out.rd fZ10_15.out.rd).mono ?_
  rintro e w16 ⟨rfl, hb⟩
  have t16 := Lib.hid (after t15.out hb)
  have s16 := Lib.hid hb.size
  have fX00_16 := Lib.hid (fX00_15.out.below hb t15.out.size)
  have fX10_16 := Lib.hid (fX10_15.out.below hb t15.out.size)
  have fW0_16 := Lib.hid (fW0_15.out.below hb (Nat.le_trans s6.out (Nat.le_trans s7.out (Nat.le_trans s8.out (Nat.le_trans s9.out (Nat.le_trans s10.out (Nat.le_trans s11.out (Nat.le_trans s12.out (Nat.le_trans s13.out (Nat.le_trans s14.out s15.out))))))))))
  have bWV_16 := Lib.hid (bWV_15.out.below hb (Nat.le_trans s7.out (Nat.le_trans s8.out (Nat.le_trans s9.out (Nat.le_trans s10.out (Nat.le_trans s11.out (Nat.le_trans s12.out (Nat.le_trans s13.out (Nat.le_trans s14.out s15.out)))))))))
  have fY00_16 := Lib.hid (fY00_15.out.below hb (Nat.le_trans s8.out (Nat.le_trans s9.out (Nat.le_trans s10.out (Nat.le_trans s11.out (Nat.le_trans s12.out (Nat.le_trans s13.out (Nat.le_trans s14.out s15.out))))))))
  have fY10_16 := Lib.hid (fY10_15.out.below hb (Nat.le_trans s9.out (Nat.le_trans s10.out (Nat.le_trans s11.out (Nat.le_trans s12.out (Nat.le_trans s13.out (Nat.le_trans s14.out s15.out)))))))
  have fG0_16 := Lib.hid (fG0_15.out.below hb (Nat.le_trans s10.out (Nat.le_trans s11.out (Nat.le_trans s12.out (Nat.le_trans s13.out (Nat.le_trans s14.out s15.out))))))
  have bGV_16 := Lib.hid (bGV_15.out.below hb (Nat.le_trans s11.out (Nat.le_trans s12.out (Nat.le_trans s13.out (Nat.le_trans s14.out s15.out)))))
  have fZ10_16 := Lib.hid (fZ10_15.out.below hb (Nat.le_refl _))
  clear fX00_15 fX10_15 fW0_15 bWV_15 fY00_15 fY10_15 fG0_15 bGV_15 fZ10_15 hb
  clear fZ10_16
  have eWV0 := bWV_16.out.2 0 _ rfl
  have eWV1 := bWV_16.out.2 1 _ rfl
  have eWV2 := bWV_16.out.2 2 _ rfl
  have zWV := Nat.lt_of_lt_of_le bWV_16.out.1 (Nat.le_trans s7.out (Nat.le_trans s8.out (Nat.le_trans s9.out (Nat.le_trans s10.out (Nat.le_trans s11.out (Nat.le_trans s12.out (Nat.le_trans s13.out (Nat.le_trans s14.out (Nat.le_trans s15.out s16.out)))))))))
  have eGV0 := bGV_16.out.2 0 _ rfl
  have eGV1 := bGV_16.out.2 1 _ rfl
  have eGV2 := bGV_16.out.2 2 _ rfl
  have zGV := Nat.lt_of_lt_of_le bGV_16.out.1 (Nat.le_trans s11.out (Nat.le_trans s12.out (Nat.le_trans s13.out (Nat.le_trans s14.out (Nat.le_trans s15.out s16.out)))))
  go_wp2_with fail
  clear eWV0 eWV1 eWV2 zWV eGV0 eGV1 eGV2 zGV
  have lnY00 := fY00_16.out.2.2.1
  refine (markR_abs' 1 1 (by simp) fY00_16.out (Nat.le_trans s8.out (Nat.le_trans s9.out (Nat.le_trans s10.out (Nat.le_trans s11.out (Nat.le_trans s12.out (Nat.le_trans s13.out (Nat.le_trans s14.out (Nat.le_trans s15.out s16.out)))))))) (by omega) (by omega)).mono ?_
  rintro e w17 ⟨rfl, oY00, ho⟩
  have t17 := Lib.hid (t16.out.trans (ho.below (Nat.le_trans s7.out (Nat.le_trans s8.out (Nat.le_trans s9.out (Nat.le_trans s10.out (Nat.le_trans s11.out (Nat.le_trans s12.out (Nat.le_trans s13.out (Nat.le_trans s14.out (Nat.le_trans s15.out s16.out))))))))) |>.mono t6.out.size))
  have s17 := Lib.hid ho.size
  have fX00_17 := Lib.hid (fX00_16.out.below (ho.below (Nat.le_trans s7.out (Nat.le_trans s8.out (Nat.le_trans s9.out (Nat.le_trans s10.out (Nat.le_trans s11.out (Nat.le_trans s12.out (Nat.le_trans s13.out (Nat.le_trans s14.out (Nat.le_trans s15.out s16.out)))))))))) t6.out.size)
  have fX10_17 := Lib.hid (fX10_16.out.below (ho.below (Nat.le_trans s7.out (Nat.le_trans s8.out (Nat.le_trans s9.out (Nat.le_trans s10.out (Nat.le_trans s11.out (Nat.le_trans s12.out (Nat.le_trans s13.out (Nat.le_trans s14.out (Nat.le_trans s15.out s16.out)))))))))) t6.out.size)
  have fW0_17 := Lib.hid (fW0_16.out.only ho (.inl s6.out))
  have bWV_17 := Lib.hid (bWV_16.out.below (ho.below (Nat.le_trans s7.out (Nat.le_trans s8.out (Nat.le_trans s9.out (Nat.le_trans s10.out (Nat.le_trans s11.out (Nat.le_trans s12.out (Nat.le_trans s13.out (Nat.le_trans s14.out (Nat.le_trans s15.out s16.out)))))))))) (Nat.le_refl _))
  have fY10_17 := Lib.hid (fY10_16.out.only ho (.inr (Nat.le_refl _)))
  have fG0_17 := Lib.hid (fG0_16.out.only ho (.inr s8.out))
  have bGV_17 := Lib.hid (bGV_16.out.only ho (Nat.le_trans s8.out s9.out) (Nat.lt_of_lt_of_le bGV_16.out.1 (Nat.le_trans s11.out (Nat.le_trans s12.out (Nat.le_trans s13.out (Nat.le_trans s14.out (Nat.le_trans s15.out s16.out)))))))
  have fY00_17 := Lib.hid oY00
  clear fX00_16 fX10_16 fW0_16 bWV_16 fY10_16 fG0_16 bGV_16 fY00_16 oY00 ho
  have eWV0 := bWV_17.out.2 0 _ rfl
  have eWV1 := bWV_17.out.2 1 _ rfl
  have eWV2 := bWV_17.out.2 2 _ rfl
  have zWV := Nat.lt_of_lt_of_le bWV_17.out.1 (Nat.le_trans s7.out (Nat.le_trans s8.out (Nat.le_trans s9.out (Nat.le_trans s10.out (Nat.le_trans s11.out (Nat.le_trans s12.out (Nat.le_trans s13.out (Nat.le_trans s14.out (Nat.le_trans s15.out (Nat.le_trans s16.out s17.out))))))))))
  have eGV0 := bGV_17.out.2 0 _ rfl
  have eGV1 := bGV_17.out.2 1 _ rfl
  have eGV2 := bGV_17.out.2 2 _ rfl
  have zGV := Nat.lt_of_lt_of_le bGV_17.out.1 (Nat.le_trans s11.out (Nat.le_trans s12.out (Nat.le_trans s13.out (Nat.le_trans s14.out (Nat.le_trans s15.out (Nat.le_trans s16.out s17.out))))))
  go_wp2_with fail
  clear eWV0 eWV1 eWV2 zWV eGV0 eGV1 eGV2 zGV
  have lnY10 := fY10_17.out.2.2.1
  refine (markQ_abs' (1 + (7 * (xs).length)) (1 + (7 * ((xs).length : Int))) (by simp) fY10_17.out (Nat.le_trans s9.out (Nat.le_trans s10.out (Nat.le_trans s11.out (Nat.le_trans s12.out (Nat.le_trans s13.out (Nat.le_trans s14.out (Nat.le_trans s15.out (Nat.le_trans s16.out s17.out)))))))) (by omega) (by omega)).mono ?_
  rintro e w18 ⟨rfl, oY10, ho⟩
  have t18 := Lib.hid (t17.out.trans (ho.below (Nat.le_trans s8.out (Nat.le_trans s9.out (Nat.le_trans s10.out (Nat.le_trans s11.out (Nat.le_trans s12.out (Nat.le_trans s13.out (Nat.le_trans s14.out (Nat.le_trans s15.out (Nat.le_trans s16.out s17.out))))))))) |>.mono t7.out.size))
  have s18 := Lib.hid ho.size
  have fX00_18 := Lib.hid (fX00_17.out.below (ho.below (Nat.le_trans s8.out (Nat.le_trans s9.out (Nat.le_trans s10.out (Nat.le_trans s11.out (Nat.le_trans s12.out (Nat.le_trans s13.out (Nat.le_trans s14.out (Nat.le_trans s15.out (Nat.le_trans s16.out s17.out)))))))))) t7.out.size)
  have fX10_18 := Lib.hid (fX10_17.out.below (ho.below (Nat.le_trans s8.out (Nat.le_trans s9.out (Nat.le_trans s10.out (Nat.le_trans s11.out (Nat.le_trans s12.out (Nat.le_trans s13.out (Nat.le_trans s14.out (Nat.le_trans s15.out (Nat.le_trans s16.out s17.out)))))))))) t7.out.size)
  have fW0_18 := Lib.hid (fW0_17.out.only ho (.inl (Nat.le_trans s6.out s7.out)))
  have bWV_18 := Lib.hid (bWV_17.out.below (ho.below (Nat.le_trans s8.out (Nat.le_trans s9.out (Nat.le_trans s10.out (Nat.le_trans s11.out (Nat.le_trans s12.out (Nat.le_trans s13.out (Nat.le_trans s14.out (Nat.le_trans s15.out (Nat.le_trans s16.out s17.out)))))))))) s7.out)
  have fY00_18 := Lib.hid (fY00_17.out.only ho (.inl (Nat.le_refl _)))
  have fG0_18 := Lib.hid (fG0_17.out.only ho (.inr (Nat.le_refl _)))
  have bGV_18 := Lib.hid (bGV_17.out.only ho s9.out (Nat.lt_of_lt_of_le bGV_17.out.1 (Nat.le_trans s11.out (Nat.le_trans s12.out (Nat.le_trans s13.out (Nat.le_trans s14.out (Nat.le_trans s15.out (Nat.le_trans s16.out s17.out))))))))
  have fY10_18 := Lib.hid oY10
  clear fX00_17 fX10_17 fW0_17 bWV_17 fY00_17 fG0_17 bGV_17 fY10_17 oY10 ho
  clear fY00_18 fY10_18
  have eWV0 := bWV_18.out.2 0 _ rfl
  have eWV1 := bWV_18.out.2 1 _ rfl
  have eWV2 := bWV_18.out.2 2 _ rfl
  have zWV := Nat.lt_of_lt_of_le bWV_18.out.1 (Nat.le_trans s7.out (Nat.le_trans s8.out (Nat.le_trans s9.out (Nat.le_trans s10.out (Nat.le_trans s11.out (Nat.le_trans s12.out (Nat.le_trans s13.out (Nat.le_trans s14.out (Nat.le_trans s15.out (Nat.le_trans s16.out (Nat.le_trans s17.out s18.out)))))))))))
  have eGV0 := bGV_18.out.2 0 _ rfl
  have eGV1 := bGV_18.out.2 1 _ rfl
  have eGV2 := bGV_18.out.2 2 _ rfl
  have zGV := Nat.lt_of_lt_of_le bGV_18.out.1 (Nat.le_trans s11.out (Nat.le_trans s12.out (Nat.le_trans s13.out (Nat.le_trans s14.out (Nat.le_trans s15.out (Nat.le_trans s16.out (Nat.le_trans s17.out s18.out)))))))
  go_wp2_with fail
  clear eWV0 eWV1 eWV2 zWV eGV0 eGV1 eGV2 zGV
  refine (eqQ_abs fG0_18.out.rd fW0_18.out.rd).mono ?_
  rintro e w19 ⟨rfl, hb⟩
  have t19 := Lib.hid (after t18.out hb)
  have s19 := Lib.hid hb.size
  have fX00_19 := Lib.hid (fX00_18.out.below hb t18.out.size)
  have fX10_19 := Lib.hid (fX10_18.out.below hb t18.out.size)
  have fW0_19 := Lib.hid (fW0_18.out.below hb (Nat.le_trans s6.out (Nat.le_trans s7.out (Nat.le_trans s8.out (Nat.le_trans s9.out (Nat.le_trans s10.out (Nat.le_trans s11.out (Nat.le_trans s12.out (Nat.le_trans s13.out (Nat.le_trans s14.out (Nat.le_trans s15.out (Nat.le_trans s16.out (Nat.le_trans s17.out s18.out)))))))))))))
  have bWV_19 := Lib.hid (bWV_18.out.below hb (Nat.le_trans s7.out (Nat.le_trans s8.out (Nat.le_trans s9.out (Nat.le_trans s10.out (Nat.le_trans s11.out (Nat.le_trans s12.out (Nat.le_trans s13.out (Nat.le_trans s14.out (Nat.le_trans s15.out (Nat.le_trans s16.out (Nat.le_trans s17.out s18.out))))))))))))
  have fG0_19 := Lib.hid (fG0_18.out.below hb (Nat.le_trans s10.out (Nat.le_trans s11.out (Nat.le_trans s12.out (Nat.le_trans s13.out (Nat.le_trans s14.out (Nat.le_trans s15.out (Nat.le_trans s16.out (Nat.le_trans s17.out s18.out)))))))))
  have bGV_19 := Lib.hid (bGV_18.out.below hb (Nat.le_trans s11.out (Nat.le_trans s12.out (Nat.le_trans s13.out (Nat.le_trans s14.out (Nat.le_trans s15.out (Nat.le_trans s16.out (Nat.le_trans s17.out s18.out))))))))
  clear fX00_18 fX10_18 fW0_18 bWV_18 fG0_18 bGV_18 hb
  have eWV0 := bWV_19.out.2 0 _ rfl
  have eWV1 := bWV_19.out.2 1 _ rfl
  have eWV2 := bWV_19.out.2 2 _ rfl
  have zWV := Nat.lt_of_lt_of_le bWV_19.out.1 (Nat.le_trans s7.out (Nat.le_trans s8.out (Nat.le_trans s9.out (Nat.le_trans s10.out (Nat.le_trans s11.out (Nat.le_trans s12.out (Nat.le_trans s13.out (Nat.le_trans s14.out (Nat.le_trans s15.out (Nat.le_trans s16.out (Nat.le_trans s17.out (Nat.le_trans s18.out s19.out))))))))))))
  have eGV0 := bGV_19.out.2 0 _ rfl
  have eGV1 := bGV_19.out.2 1 _ rfl
  have eGV2 := bGV_19.out.2 2 _ rfl
  have zGV := Nat.lt_of_lt_of_le bGV_19.out.1 (Nat.le_trans s11.out (Nat.le_trans s12.out (Nat.le_trans s13.out (Nat.le_trans s14.out (Nat.le_trans s15.out (Nat.le_trans s16.out (Nat.le_trans s17.out (Nat.le_trans s18.out s19.out))))))))
  go_wp2_with fail
  clear eWV0 eWV1 eWV2 zWV eGV0 eGV1 eGV2 zGV
  refine (eqQuestion_same _ _).mono ?_
  rintro e w20 ⟨rfl, hb⟩
  have t20 := Lib.hid (after t19.out hb)
  have s20 := Lib.hid hb.size
  have fX00_20 := Lib.hid (fX00_19.out.below hb t19.out.size)
  have fX10_20 := Lib.hid (fX10_19.out.below hb t19.out.size)
  have fW0_20 := Lib.hid (fW0_19.out.below hb (Nat.le_trans s6.out (Nat.le_trans s7.out (Nat.le_trans s8.out (Nat.le_trans s9.out (Nat.le_trans s10.out (Nat.le_trans s11.out (Nat.le_trans s12.out (Nat.le_trans s13.out (Nat.le_trans s14.out (Nat.le_trans s15.out (Nat.le_trans s16.out (Nat.le_trans s17.out (Nat.le_trans s18.out s19.out))))))))))))))
  have bWV_20 := Lib.hid (bWV_19.out.below hb (Nat.le_trans s7.out (Nat.le_trans s8.out (Nat.le_trans s9.out (Nat.le_trans s10.out (Nat.le_trans s11.out (Nat.le_trans s12.out (Nat.le_trans s13.out (Nat.le_trans s14.out (Nat.le_trans s15.out (Nat.le_trans s16.out (Nat.le_trans s17.out (Nat.le_trans s18.out s19.out)))))))))))))
  have fG0_20 := Lib.hid (fG0_19.out.below hb (Nat.le_trans s10.out (Nat.le_trans s11.out (Nat.le_trans s12.out (Nat.le_trans s13.out (Nat.le_trans s14.out (Nat.le_trans s15.out (Nat.le_trans s16.out (Nat.le_trans s17.out (Nat.le_trans s18.out s19.out))))))))))
  have bGV_20 := Lib.hid (bGV_19.out.below hb (Nat.le_trans s11.out (Nat.le_trans s12.out (Nat.le_trans s13.out (Nat.le_trans s14.out (Nat.le_trans s15.out (Nat.le_trans s16.out (Nat.le_trans s17.out (Nat.le_trans s18.out s19.out)))))))))
  clear fX00_19 fX10_19 fW0_19 bWV_19 fG0_19 bGV_19 hb
  have eWV0 := bWV_20.out.2 0 _ rfl
  have eWV1 := bWV_20.out.2 1 _ rfl
  have eWV2 := bWV_20.out.2 2 _ rfl
  have zWV := Nat.lt_of_lt_of_le bWV_20.out.1 (Nat.le_trans s7.out (Nat.le_trans s8.out (Nat.le_trans s9.out (Nat.le_trans s10.out (Nat.le_trans s11.out (Nat.le_trans s12.out (Nat.le_trans s13.out (Nat.le_trans s14.out (Nat.le_trans s15.out (Nat.le_trans s16.out (Nat.le_trans s17.out (Nat.le_trans s18.out (Nat.le_trans s19.out s20.out)))))))))))))
  have eGV0 := bGV_20.out.2 0 _ rfl
  have eGV1 := bGV_20.out.2 1 _ rfl
  have eGV2 := bGV_20.out.2 2 _ rfl
  have zGV := Nat.lt_of_lt_of_le bGV_20.out.1 (Nat.le_trans s11.out (Nat.le_trans s12.out (Nat.le_trans s13.out (Nat.le_trans s14.out (Nat.le_trans s15.out (Nat.le_trans s16.out (Nat.le_trans s17.out (Nat.le_trans s18.out (Nat.le_trans s19.out s20.out)))))))))
  go_wp2_with fail
  clear eWV0 eWV1 eWV2 zWV eGV0 eGV1 eGV2 zGV
  have lnG0 := fG0_20.out.2.2.1
  refine (markQ_abs' 1 1 (by simp) fG0_20.out (Nat.le_trans s10.out (Nat.le_trans s11.out (Nat.le_trans s12.out (Nat.le_trans s13.out (Nat.le_trans s14.out (Nat.le_trans s15.out (Nat.le_trans s16.out (Nat.le_trans s17.out (Nat.le_trans s18.out (Nat.le_trans s19.out s20.out)))))))))) (by omega) (by omega)).mono ?_
  rintro e w21 ⟨rfl, oG0, ho⟩
  have t21 := Lib.hid (t20.out.trans (ho.below (Nat.le_trans s9.out (Nat.le_trans s10.out (Nat.le_trans s11.out (Nat.le_trans s12.out (Nat.le_trans s13.out (Nat.le_trans s14.out (Nat.le_trans s15.out (Nat.le_trans s16.out (Nat.le_trans s17.out (Nat.le_trans s18.out (Nat.le_trans s19.out s20.out))))))))))) |>.mono t8.out.size))
  have s21 := Lib.hid ho.size
  have fX00_21 := Lib.hid (fX00_20.out.below (ho.below (Nat.le_trans s9.out (Nat.le_trans s10.out (Nat.le_trans s11.out (Nat.le_trans s12.out (Nat.le_trans s13.out (Nat.le_trans s14.out (Nat.le_trans s15.out (Nat.le_trans s16.out (Nat.le_trans s17.out (Nat.le_trans s18.out (Nat.le_trans s19.out s20.out)))))))))))) t8.out.size)
  have fX10_21 := Lib.hid (fX10_20.out.below (ho.below (Nat.le_trans s9.out (Nat.le_trans s10.out (Nat.le_trans s11.out (Nat.le_trans s12.out (Nat.le_trans s13.out (Nat.le_trans s14.out (Nat.le_trans s15.out (Nat.le_trans s16.out (Nat.le_trans s17.out (Nat.le_trans s18.out (Nat.le_trans s19.out s20.out)))))))))))) t8.out.size)
  have fW0_21 := Lib.hid (fW0_20.out.only ho (.inl (Nat.le_trans s6.out (Nat.le_trans s7.out s8.out))))
  have bWV_21 := Lib.hid (bWV_20.out.below (ho.below (Nat.le_trans s9.out (Nat.le_trans s10.out (Nat.le_trans s11.out (Nat.le_trans s12.out (Nat.le_trans s13.out (Nat.le_trans s14.out (Nat.le_trans s15.out (Nat.le_trans s16.out (Nat.le_trans s17.out (Nat.le_trans s18.out (Nat.le_trans s19.out s20.out)))))))))))) (Nat.le_trans s7.out s8.out))
  have bGV_21 := Lib.hid (bGV_20.out.only ho (Nat.le_refl _) (Nat.lt_of_lt_of_le bGV_20.out.1 (Nat.le_trans s11.out (Nat.le_trans s12.out (Nat.le_trans s13.out (Nat.le_trans s14.out (Nat.le_trans s15.out (Nat.le_trans s16.out (Nat.le_trans s17.out (Nat.le_trans s18.out (Nat.le_trans s19.out s20.out)))))))))))
  have fG0_21 := Lib.hid oG0
  clear fX00_20 fX10_20 fW0_20 bWV_20 bGV_20 fG0_20 oG0 ho
  have eWV0 := bWV_21.out.2 0 _ rfl
  have eWV1 := bWV_21.out.2 1 _ rfl
  have eWV2 := bWV_21.out.2 2 _ rfl
  have zWV := Nat.lt_of_lt_of_le bWV_21.out.1 (Nat.le_trans s7.out (Nat.le_trans s8.out (Nat.le_trans s9.out (Nat.le_trans s10.out (Nat.le_trans s11.out (Nat.le_trans s12.out (Nat.le_trans s13.out (Nat.le_trans s14.out (Nat.le_trans s15.out (Nat.le_trans s16.out (Nat.le_trans s17.out (Nat.le_trans s18.out (Nat.le_trans s19.out (Nat.le_trans s20.out s21.out))))))))))))))
  have eGV0 := bGV_21.out.2 0 _ rfl
  have eGV1 := bGV_21.out.2 1 _ rfl
  have eGV2 := bGV_21.out.2 2 _ rfl
  have zGV := Nat.lt_of_lt_of_le bGV_21.out.1 (Nat.le_trans s11.out (Nat.le_trans s12.out (Nat.le_trans s13.out (Nat.le_trans s14.out (Nat.le_trans s15.out (Nat.le_trans s16.out (Nat.le_trans s17.out (Nat.le_trans s18.out (Nat.le_trans s19.out (Nat.le_trans s20.out s21.out))))))))))
  go_wp2_with fail
  clear eWV0 eWV1 eWV2 zWV eGV0 eGV1 eGV2 zGV
  refine (heldQ_abs' 1 1 (by simp) fG0_21.out.rd (by omega) (by omega)).mono ?_
  rintro e w22 ⟨rfl, hb⟩
  have t22 := Lib.hid (after t21.out hb)
  have s22 := Lib.hid hb.size
  have fX00_22 := Lib.hid (fX00_21.out.below hb t21.out.size)
  have fX10_22 := Lib.hid (fX10_21.out.below hb t21.out.size)
  have fW0_22 := Lib.hid (fW0_21.out.below hb (Nat.le_trans s6.out (Nat.le_trans s7.out (Nat.le_trans s8.out (Nat.le_trans s9.out (Nat.le_trans s10.out (Nat.le_trans s11.out (Nat.le_trans s12.out (Nat.le_trans s13.out (Nat.le_trans s14.out (Nat.le_trans s15.out (Nat.le_trans s16.out (Nat.le_trans s17.out (Nat.le_trans s18.out (Nat.le_trans s19.out (Nat.le_trans s20.out s21.out))))))))))))))))
  have bWV_22 := Lib.hid (bWV_21.out.below hb (Nat.le_trans s7.out (Nat.le_trans s8.out (Nat.le_trans s9.out (Nat.le_trans s10.out (Nat.le_trans s11.out (Nat.le_trans s12.out (Nat.le_trans s13.out (Nat.le_trans s14.out (Nat.le_trans s15.out (Nat.le_trans s16.out (Nat.le_trans s17.out (Nat.le_trans s18.out (Nat.le_trans s19.out (Nat.le_trans s20.out s21.out)))))))))))))))
  have fG0_22 := Lib.hid (fG0_21.out.below hb (Nat.le_trans s10.out (Nat.le_trans s11.out (Nat.le_trans s12.out (Nat.le_trans s13.out (Nat.le_trans s14.out (Nat.le_trans s15.out (Nat.le_trans s16.out (Nat.le_trans s17.out (Nat.le_trans s18.out (Nat.le_trans s19.out (Nat.le_trans s20.out s21.out))))))))))))
  have bGV_22 := Lib.hid (bGV_21.out.below hb (Nat.le_trans s11.out (Nat.le_trans s12.out (Nat.le_trans s13.out (Nat.le_trans s14.out (Nat.le_trans s15.out (Nat.le_trans s16.out (Nat.le_trans s17.out (Nat.le_trans s18.out (Nat.le_trans s19.out (Nat.le_trans s20.out s21.out)))))))))))
  clear fX00_21 fX10_21 fW0_21 bWV_21 fG0_21 bGV_21 hb
  have eWV0 := bWV_22.out.2 0 _ rfl
  have eWV1 := bWV_22.out.2 1 _ rfl
  have eWV2 := bWV_22.out.2 2 _ rfl
  have zWV := Nat.lt_of_lt_of_le bWV_22.out.1 (Nat.le_trans s7.out (Nat.le_trans s8.out (Nat.le_trans s9.out (Nat.le_trans s10.out (Nat.le_trans s11.out (Nat.le_trans s12.out (Nat.le_trans s13.out (Nat.le_trans s14.out (Nat.le_trans s15.out (Nat.le_trans s16.out (Nat.le_trans s17.out (Nat.le_trans s18.out (Nat.le_trans s19.out (Nat.le_trans s20.out (Nat.le_trans s21.out s22.out)))))))))))))))
  have eGV0 := bGV_22.out.2 0 _ rfl
  have eGV1 := bGV_22.out.2 1 _ rfl
  have eGV2 := bGV_22.out.2 2 _ rfl
  have zGV := Nat.lt_of_lt_of_le bGV_22.out.1 (Nat.le_trans s11.out (Nat.le_trans s12.out (Nat.le_trans s13.out (Nat.le_trans s14.out (Nat.le_trans s15.out (Nat.le_trans s16.out (Nat.le_trans s17.out (Nat.le_trans s18.out (Nat.le_trans s19.out (Nat.le_trans s20.out (Nat.le_trans s21.out s22.out)))))))))))
  go_wp2_with fail
  clear eWV0 eWV1 eWV2 zWV eGV0 eGV1 eGV2 zGV
  refine (toR_abs fX00_22.out).mono ?_
  rintro e w23 ⟨AHa00, cHa00, rfl, oHa00, hb⟩
  have t23 := Lib.hid (after t22.out hb)
  have s23 := Lib.hid hb.size
  have fX00_23 := Lib.hid (fX00_22.out.below hb t22.out.size)
  have fX10_23 := Lib.hid (fX10_22.out.below hb t22.out.size)
  have fW0_23 := Lib.hid (fW0_22.out.below hb (Nat.le_trans s6.out (Nat.le_trans s7.out (Nat.le_trans s8.out (Nat.le_trans s9.out (Nat.le_trans s10.out (Nat.le_trans s11.out (Nat.le_trans s12.out (Nat.le_trans s13.out (Nat.le_trans s14.out (Nat.le_trans s15.out (Nat.le_trans s16.out (Nat.le_trans s17.out (Nat.le_trans s18.out (Nat.le_trans s19.out (Nat.le_trans s20.out (Nat.le_trans s21.out s22.out)))))))))))))))))
  have bWV_23 := Lib.hid (bWV_22.out.below hb (Nat.le_trans s7.out (Nat.le_trans s8.out (Nat.le_trans s9.out (Nat.le_trans s10.out (Nat.le_trans s11.out (Nat.le_trans s12.out (Nat.le_trans s13.out (Nat.le_trans s14.out (Nat.le_trans s15.out (Nat.le_trans s16.out (Nat.le_trans s17.out (Nat.le_trans s18.out (Nat.le_trans s19.out (Nat.le_trans s20.out (Nat.le_trans s21.out s22.out))))))))))))))))
  have fG0_23 := Lib.hid (fG0_22.out.below hb (Nat.le_trans s10.out (Nat.le_trans s11.out (Nat.le_trans s12.out (Nat.le_trans s13.out (Nat.le_trans s14.out (Nat.le_trans s15.out (Nat.le_trans s16.out (Nat.le_trans s17.out (Nat.le_trans s18.out (Nat.le_trans s19.out (Nat.le_trans s20.out (Nat.le_trans s21.out s22.out)))))))))))))
  have bGV_23 := Lib.hid (bGV_22.out.below hb (Nat.le_trans s11.out (Nat.le_trans s12.out (Nat.le_trans s13.out (Nat.le_trans s14.out (Nat.le_trans s15.out (Nat.le_trans s16.out (Nat.le_trans s17.out (Nat.le_trans s18.out (Nat.le_trans s19.out (Nat.le_trans s20.out (Nat.le_trans s21.out s22.out))))))))))))
  have fHa00_23 := Lib.hid oHa00
  clear fX00_22 fX10_22 fW0_22 bWV_22 fG0_22 bGV_22 oHa00 hb
  have eWV0 := bWV_23.out.2 0 _ rfl
  have eWV1 := bWV_23.out.2 1 _ rfl
  have eWV2 := bWV_23.out.2 2 _ rfl
  have zWV := Nat.lt_of_lt_of_le bWV_23.out.1 (Nat.le_trans s7.out (Nat.le_trans s8.out (Nat.le_trans s9.out (Nat.le_trans s10.out (Nat.le_trans s11.out (Nat.le_trans s12.out (Nat.le_trans s13.out (Nat.le_trans s14.out (Nat.le_trans s15.out (Nat.le_trans s16.out (Nat.le_trans s17.out (Nat.le_trans s18.out (Nat.le_trans s19.out (Nat.le_trans s20.out (Nat.le_trans s21.out (Nat.le_trans s22.out s23.out))))))))))))))))
  have eGV0 := bGV_23.out.2 0 _ rfl
  have eGV1 := bGV_23.out.2 1 _ rfl
  have eGV2 := bGV_23.out.2 2 _ rfl
  have zGV := Nat.lt_of_lt_of_le bGV_23.out.1 (Nat.le_trans s11.out (Nat.le_trans s12.out (Nat.le_trans s13.out (Nat.le_trans s14.out (Nat.le_trans s15.out (Nat.le_trans s16.out (Nat.le_trans s17.out (Nat.le_trans s18.out (Nat.le_trans s19.out (Nat.le_trans s20.out (Nat.le_trans s21.out (Nat.le_trans s22.out s23.out))))))))))))
  go_wp2_with fail
  clear eWV0 eWV1 eWV2 zWV eGV0 eGV1 eGV2 zGV
  refine (toQ_abs fX10_23.out).mono ?_
  rintro e w24 ⟨AHa10, cHa10, rfl, oHa10, hb⟩
  have t24 := Lib.hid (after t23.out hb)
  have s24 := Lib.hid hb.size
  have fX00_24 := Lib.hid (fX00_23.out.below hb t23.out.size)
  have fX10_24 := Lib.hid (fX10_23.out.below hb t23.out.size)
  have fW0_24 := Lib.hid (fW0_23.out.below hb (Nat.le_trans s6.out (Nat.le_trans s7.out (Nat.le_trans s8.out (Nat.le_trans s9.out (Nat.le_trans s10.out (Nat.le_trans s11.out (Nat.le_trans s12.out (Nat.le_trans s13.out (Nat.le_trans s14.out (Nat.le_trans s15.out (Nat.le_trans s16.out (Nat.le_trans s17.out (Nat.le_trans s18.out (Nat.le_trans s19.out (Nat.le_trans s20.out (Nat.le_trans s21.out (Nat.le_trans s22.out s23.out))))))))))))))))))
  have bWV_24 := Lib.hid (bWV_23.out.below hb (Nat.le_trans s7.out (Nat.le_trans s8.out (Nat.le_trans s9.out (Nat.le_trans s10.out (Nat.le_trans s11.out (Nat.le_trans s12.out (Nat.le_trans s13.out (Nat.le_trans s14.out (Nat.le_trans s15.out (Nat.le_trans s16.out (Nat.le_trans s17.out (Nat.le_trans s18.out (Nat.le_trans s19.out (Nat.le_trans s20.out (Nat.le_trans s21.out (Nat.le_trans s22.out s23.out)))))))))))))))))
  have fG0_24 := Lib.hid (fG0_23.out.below hb (Nat.le_trans s10.out (Nat.le_trans s11.out (Nat.le_trans s12.out (Nat.le_trans s13.out (Nat.le_trans s14.out (Nat.le_trans s15.out (Nat.le_trans s16.out (Nat.le_trans s17.out (Nat.le_trans s18.out (Nat.le_trans s19.out (Nat.le_trans s20.out (Nat.le_trans s21.out (Nat.le_trans s22.out s23.out))))))))))))))
  have bGV_24 := Lib.hid (bGV_23.out.below hb (Nat.le_trans s11.out (Nat.le_trans s12.out (Nat.le_trans s13.out (Nat.le_trans s14.out (Nat.le_trans s15.out (Nat.le_trans s16.out (Nat.le_trans s17.out (Nat.le_trans s18.out (Nat.le_trans s19.out (Nat.le_trans s20.out (Nat.le_trans s21.out (Nat.le_trans s22.out s23.out)))))))))))))
  have fHa00_24 := Lib.hid (fHa00_23.out.below hb (Nat.le_refl _))
  have fHa10_24 := Lib.hid oHa10
  clear fX00_23 fX10_23 fW0_23 bWV_23 fG0_23 bGV_23 fHa00_23 oHa10 hb
  have eWV0 := bWV_24.out.2 0 _ rfl
  have eWV1 := bWV_24.out.2 1 _ rfl
  have eWV2 := bWV_24.out.2 2 _ rfl
  have zWV := Nat.lt_of_lt_of_le bWV_24.out.1 (Nat.le_trans s7.out (Nat.le_trans s8.out (Nat.le_trans s9.out (Nat.le_trans s10.out (Nat.le_trans s11.out (Nat.le_trans s12.out (Nat.le_trans s13.out (Nat.le_trans s14.out (Nat.le_trans s15.out (Nat.le_trans s16.out (Nat.le_trans s17.out (Nat.le_trans s18.out (Nat.le_trans s19.out (Nat.le_trans s20.out (Nat.le_trans s21.out (Nat.le_trans s22.out (Nat.le_trans s23.out s24.out)))))))))))))))))
  have eGV0 := bGV_24.out.2 0 _ rfl
  have eGV1 := bGV_24.out.2 1 _ rfl
  have eGV2 := bGV_24.out.2 2 _ rfl
  have zGV := Nat.lt_of_lt_of_le bGV_24.out.1 (Nat.le_trans s11.out (Nat.le_trans s12.out (Nat.le_trans s13.out (Nat.le_trans s14.out (Nat.le_trans s15.out (Nat.le_trans s16.out (Nat.le_trans s17.out (Nat.le_trans s18.out (Nat.le_trans s19.out (Nat.le_trans s20.out (Nat.le_trans s21.out (Nat.le_trans s22.out (Nat.le_trans s23.out s24.out)))))))))))))
  go_wp2_with fail
  clear eWV0 eWV1 eWV2 zWV eGV0 eGV1 eGV2 zGV
  refine (DisposeQuestion_abs fHa00_24.out.rd fHa10_24.out.rd).mono ?_
  rintro e w25 ⟨AH0, cH0, rfl, oH0, hb⟩
  have t25 := Lib.hid (after t24.out hb)
  have s25 := Lib.hid hb.size
  have fX00_25 := Lib.hid (fX00_24.out.below hb t24.out.size)
  have fX10_25 := Lib.hid (fX10_24.out.below hb t24.out.size)
  have fW0_25 := Lib.hid (fW0_24.out.below hb (Nat.le_trans s6.out (Nat.le_trans s7.out (Nat.le_trans s8.out (Nat.le_trans s9.out (Nat.le_trans s10.out (Nat.le_trans s11.out (Nat.le_trans s12.out (Nat.le_trans s13.out (Nat.le_trans s14.out (Nat.le_trans s15.out (Nat.le_trans s16.out (Nat.le_trans s17.out (Nat.le_trans s18.out (Nat.le_trans s19.out (Nat.le_trans s20.out (Nat.le_trans s21.out (Nat.le_trans s22.out (Nat.le_trans s23.out s24.out)))))))))))))))))))
  have bWV_25 := Lib.hid (bWV_24.out.below hb (Nat.le_trans s7.out (Nat.le_trans s8.out (Nat.le_trans s9.out (Nat.le_trans s10.out (Nat.le_trans s11.out (Nat.le_trans s12.out (Nat.le_trans s13.out (Nat.le_trans s14.out (Nat.le_trans s15.out (Nat.le_trans s16.out (Nat.le_trans s17.out (Nat.le_trans s18.out (Nat.le_trans s19.out (Nat.le_trans s20.out (Nat.le_trans s21.out (Nat.le_trans s22.out (Nat.le_trans s23.out s24.out))))))))))))))))))
  have fG0_25 := Lib.hid (fG0_24.out.below hb (Nat.le_trans s10.out (Nat.le_trans s11.out (Nat.le_trans s12.out (Nat.le_trans s13.out (Nat.le_trans s14.out (Nat.le_trans s15.out (Nat.le_trans s16.out (Nat.le_trans s17.out (Nat.le_trans s18.out (Nat.le_trans s19.out (Nat.le_trans s20.out (Nat.le_trans s21.out (Nat.le_trans s22.out (Nat.le_trans s23.out s24.out)))))))))))))))
  have bGV_25 := Lib.hid (bGV_24.out.below hb (Nat.le_trans s11.out (Nat.le_trans s12.out (Nat.le_trans s13.out (Nat.le_trans s14.out (Nat.le_trans s15.out (Nat.le_trans s16.out (Nat.le_trans s17.out (Nat.le_trans s18.out (Nat.le_trans s19.out (Nat.le_trans s20.out (Nat.le_trans s21.out (Nat.le_trans s22.out (Nat.le_trans s23.out s24.out))))))))))))))
  have fHa00_25 := Lib.hid (fHa00_24.out.below hb s24.out)
  have fHa10_25 := Lib.hid (fHa10_24.out.below hb (Nat.le_refl _))
  have fH0_25 := Lib.hid oH0
  clear fX00_24 fX10_24 fW0_24 bWV_24 fG0_24 bGV_24 fHa00_24 fHa10_24 oH0 hb
  clear fHa00_25 fHa10_25
  have nb := (BoxL.new w25 #[.int .i64 ((disQ xs qs)).r, .int .i64 ((disQ xs qs)).m, .bool ((disQ xs qs)).s] 35).mono (show w25.heap.size + 1 ≤ (w25.alloc (.cells #[.int .i64 ((disQ xs qs)).r, .int .i64 ((disQ xs qs)).m, .bool ((disQ xs qs)).s] 35)).heap.size by simp)
  have hb : Below w25.heap.size w25 (w25.alloc (.cells #[.int .i64 ((disQ xs qs)).r, .int .i64 ((disQ xs qs)).m, .bool ((disQ xs qs)).s] 35)) := by go_grown
  have eWV0 := bWV_25.out.2 0 _ rfl
  have eWV1 := bWV_25.out.2 1 _ rfl
  have eWV2 := bWV_25.out.2 2 _ rfl
  have zWV := Nat.lt_of_lt_of_le bWV_25.out.1 (Nat.le_trans s7.out (Nat.le_trans s8.out (Nat.le_trans s9.out (Nat.le_trans s10.out (Nat.le_trans s11.out (Nat.le_trans s12.out (Nat.le_trans s13.out (Nat.le_trans s14.out (Nat.le_trans s15.out (Nat.le_trans s16.out (Nat.le_trans s17.out (Nat.le_trans s18.out (Nat.le_trans s19.out (Nat.le_trans s20.out (Nat.le_trans s21.out (Nat.le_trans s22.out (Nat.le_trans s23.out (Nat.le_trans s24.out s25.out))))))))))))))))))
  have eGV0 := bGV_25.out.2 0 _ rfl
  have eGV1 := bGV_25.out.2 1 _ rfl
  have eGV2 := bGV_25.out.2 2 _ rfl
  have zGV := Nat.lt_of_lt_of_le bGV_25.out.1 (Nat.le_trans s11.out (Nat.le_trans s12.out (Nat.le_trans s13.out (Nat.le_trans s14.out (Nat.le_trans s15.out (Nat.le_trans s16.out (Nat.le_trans s17.out (Nat.le_trans s18.out (Nat.le_trans s19.out (Nat.le_trans s20.out (Nat.le_trans s21.out (Nat.le_trans s22.out (Nat.le_trans s23.out (Nat.le_trans s24.out s25.out))))))))))))))
  go_wp2_with fail
  clear eWV0 eWV1 eWV2 zWV eGV0 eGV1 eGV2 zGV
  generalize w25.alloc (.cells #[.int .i64 ((disQ xs qs)).r, .int .i64 ((disQ xs qs)).m, .bool ((disQ xs qs)).s] 35) = w26 at *
  have t26 := Lib.hid (after t25.out hb)
  have s26 := Lib.hid hb.size
  have fX00_26 := Lib.hid (fX00_25.out.below hb t25.out.size)
  have fX10_26 := Lib.hid (fX10_25.out.below hb t25.out.size)
  have fW0_26 := Lib.hid (fW0_25.out.below hb (Nat.le_trans s6.out (Nat.le_trans s7.out (Nat.le_trans s8.out (Nat.le_trans s9.out (Nat.le_trans s10.out (Nat.le_trans s11.out (Nat.le_trans s12.out (Nat.le_trans s13.out (Nat.le_trans s14.out (Nat.le_trans s15.out (Nat.le_trans s16.out (Nat.le_trans s17.out (Nat.le_trans s18.out (Nat.le_trans s19.out (Nat.le_trans s20.out (Nat.le_trans s21.out (Nat.le_trans s22.out (Nat.le_trans s23.out (Nat.le_trans s24.out s25.out))))))))))))))))))))
  have bWV_26 := Lib.hid (bWV_25.out.below hb (Nat.le_trans s7.out (Nat.le_trans s8.out (Nat.le_trans s9.out (Nat.le_trans s10.out (Nat.le_trans s11.out (Nat.le_trans s12.out (Nat.le_trans s13.out (Nat.le_trans s14.out (Nat.le_trans s15.out (Nat.le_trans s16.out (Nat.le_trans s17.out (Nat.le_trans s18.out (Nat.le_trans s19.out (Nat.le_trans s20.out (Nat.le_trans s21.out (Nat.le_trans s22.out (Nat.le_trans s23.out (Nat.le_trans s24.out s25.out)))))))))))))))))))
  have fG0_26 := Lib.hid (fG0_25.out.below hb (Nat.le_trans s10.out (Nat.le_trans s11.out (Nat.le_trans s12.out (Nat.le_trans s13.out (Nat.le_trans s14.out (Nat.le_trans s15.out (Nat.le_trans s16.out (Nat.le_trans s17.out (Nat.le_trans s18.out (Nat.le_trans s19.out (Nat.le_trans s20.out (Nat.le_trans s21.out (Nat.le_trans s22.out (Nat.le_trans s23.out (Nat.le_trans s24.out s25.out))))))))))))))))
  have bGV_26 := Lib.hid (bGV_25.out.below hb (Nat.le_trans s11.out (Nat.le_trans s12.out (Nat.le_trans s13.out (Nat.le_trans s14.out (Nat.le_trans s15.out (Nat.le_trans s16.out (Nat.le_trans s17.out (Nat.le_trans s18.out (Nat.le_trans s19.out (Nat.le_trans s20.out (Nat.le_trans s21.out (Nat.le_trans s22.out (Nat.le_trans s23.out (Nat.le_trans s24.out s25.out)))))))))))))))
  have fH0_26 := Lib.hid (fH0_25.out.below hb (Nat.le_refl _))
  have bHV_26 := Lib.hid nb
  clear fX00_25 fX10_25 fW0_25 bWV_25 fG0_25 bGV_25 fH0_25 nb hb
  refine (eqQ_abs fH0_26.out.rd fW0_26.out.rd).mono ?_
  rintro e w27 ⟨rfl, hb⟩
  have t27 := Lib.hid (after t26.out hb)
  have s27 := Lib.hid hb.size
  have fX00_27 := Lib.hid (fX00_26.out.below hb t26.out.size)
  have fX10_27 := Lib.hid (fX10_26.out.below hb t26.out.size)
  have fW0_27 := Lib.hid (fW0_26.out.below hb (Nat.le_trans s6.out (Nat.le_trans s7.out (Nat.le_trans s8.out (Nat.le_trans s9.out (Nat.le_trans s10.out (Nat.le_trans s11.out (Nat.le_trans s12.out (Nat.le_trans s13.out (Nat.le_trans s14.out (Nat.le_trans s15.out (Nat.le_trans s16.out (Nat.le_trans s17.out (Nat.le_trans s18.out (Nat.le_trans s19.out (Nat.le_trans s20.out (Nat.le_trans s21.out (Nat.le_trans s22.out (Nat.le_trans s23.out (Nat.le_trans s24.out (Nat.le_trans s25.out s26.out)))))))))))))))))))))
  have bWV_27 := Lib.hid (bWV_26.out.below hb (Nat.le_trans s7.out (Nat.le_trans s8.out (Nat.le_trans s9.out (Nat.le_trans s10.out (Nat.le_trans s11.out (Nat.le_trans s12.out (Nat.le_trans s13.out (Nat.le_trans s14.out (Nat.le_trans s15.out (Nat.le_trans s16.out (Nat.le_trans s17.out (Nat.le_trans s18.out (Nat.le_trans s19.out (Nat.le_trans s20.out (Nat.le_trans s21.out (Nat.le_trans s22.out (Nat.le_trans s23.out (Nat.le_trans s24.out (Nat.le_trans s25.out s26.out))))))))))))))))))))
  have fG0_27 := Lib.hid (fG0_26.out.below hb (Nat.le_trans s10.out (Nat.le_trans s11.out (Nat.le_trans s12.out (Nat.le_trans s13.out (Nat.le_trans s14.out (Nat.le_trans s15.out (Nat.le_trans s16.out (Nat.le_trans s17.out (Nat.le_trans s18.out (Nat.le_trans s19.out (Nat.le_trans s20.out (Nat.le_trans s21.out (Nat.le_trans s22.out (Nat.le_trans s23.out (Nat.le_trans s24.out (Nat.le_trans s25.out s26.out)))))))))))))))))
  have bGV_27 := Lib.hid (bGV_26.out.below hb (Nat.le_trans s11.out (Nat.le_trans s12.out (Nat.le_trans s13.out (Nat.le_trans s14.out (Nat.le_trans s15.out (Nat.le_trans s16.out (Nat.le_trans s17.out (Nat.le_trans s18.out (Nat.le_trans s19.out (Nat.le_trans s20.out (Nat.le_trans s21.out (Nat.le_trans s22.out (Nat.le_trans s23.out (Nat.le_trans s24.out (Nat.le_trans s25.out s26.out))))))))))))))))
  have fH0_27 := Lib.hid (fH0_26.out.below hb s26.out)
  have bHV_27 := Lib.hid (bHV_26.out.below hb (Nat.le_refl _))
  clear fX00_26 fX10_26 fW0_26 bWV_26 fG0_26 bGV_26 fH0_26 bHV_26 hb
  have eWV0 := bWV_27.out.2 0 _ rfl
  have eWV1 := bWV_27.out.2 1 _ rfl
  have eWV2 := bWV_27.out.2 2 _ rfl
  have zWV := Nat.lt_of_lt_of_le bWV_27.out.1 (Nat.le_trans s7.out (Nat.le_trans s8.out (Nat.le_trans s9.out (Nat.le_trans s10.out (Nat.le_trans s11.out (Nat.le_trans s12.out (Nat.le_trans s13.out (Nat.le_trans s14.out (Nat.le_trans s15.out (Nat.le_trans s16.out (Nat.le_trans s17.out (Nat.le_trans s18.out (Nat.le_trans s19.out (Nat.le_trans s20.out (Nat.le_trans s21.out (Nat.le_trans s22.out (Nat.le_trans s23.out (Nat.le_trans s24.out (Nat.le_trans s25.out (Nat.le_trans s26.out s27.out))))))))))))))))))))
  have eGV0 := bGV_27.out.2 0 _ rfl
  have eGV1 := bGV_27.out.2 1 _ rfl
  have eGV2 := bGV_27.out.2 2 _ rfl
  have zGV := Nat.lt_of_lt_of_le bGV_27.out.1 (Nat.le_trans s11.out (Nat.le_trans s12.out (Nat.le_trans s13.out (Nat.le_trans s14.out (Nat.le_trans s15.out (Nat.le_trans s16.out (Nat.le_trans s17.out (Nat.le_trans s18.out (Nat.le_trans s19.out (Nat.le_trans s20.out (Nat.le_trans s21.out (Nat.le_trans s22.out (Nat.le_trans s23.out (Nat.le_trans s24.out (Nat.le_trans s25.out (Nat.le_trans s26.out s27.out))))))))))))))))
  have eHV0 := bHV_27.out.2 0 _ rfl
  have eHV1 := bHV_27.out.2 1 _ rfl
  have eHV2 := bHV_27.out.2 2 _ rfl
  have zHV := Nat.lt_of_lt_of_le bHV_27.out.1 s27.out
  go_wp2_with fail
  clear eWV0 eWV1 eWV2 zWV eGV0 eGV1 eGV2 zGV eHV0 eHV1 eHV2 zHV
  refine (eqQuestion_same _ _).mono ?_
  rintro e w28 ⟨rfl, hb⟩
  have t28 := Lib.hid (after t27.out hb)
  have s28 := Lib.hid hb.size
  have fX00_28 := Lib.hid (fX00_27.out.below hb t27.out.size)
  have fX10_28 := Lib.hid (fX10_27.out.below hb t27.out.size)
  have fW0_28 := Lib.hid (fW0_27.out.below hb (Nat.le_trans s6.out (Nat.le_trans s7.out (Nat.le_trans s8.out (Nat.le_trans s9.out (Nat.le_trans s10.out (Nat.le_trans s11.out (Nat.le_trans s12.out (Nat.le_trans s13.out (Nat.le_trans s14.out (Nat.le_trans s15.out (Nat.le_trans s16.out (Nat.le_trans s17.out (Nat.le_trans s18.out (Nat.le_trans s19.out (Nat.le_trans s20.out (Nat.le_trans s21.out (Nat.le_trans s22.out (Nat.le_trans s23.out (Nat.le_trans s24.out (Nat.le_trans s25.out (Nat.le_trans s26.out s27.out))))))))))))))))))))))
  have bWV_28 := Lib.hid (bWV_27.out.below hb (Nat.le_trans s7.out (Nat.le_trans s8.out (Nat.le_trans s9.out (Nat.le_trans s10.out (Nat.le_trans s11.out (Nat.le_trans s12.out (Nat.le_trans s13.out (Nat.le_trans s14.out (Nat.le_trans s15.out (Nat.le_trans s16.out (Nat.le_trans s17.out (Nat.le_trans s18.out (Nat.le_trans s19.out (Nat.le_trans s20.out (Nat.le_trans s21.out (Nat.le_trans s22.out (Nat.le_trans s23.out (Nat.le_trans s24.out (Nat.le_trans s25.out (Nat.le_trans s26.out s27.out)))))))))))))))))))))
  have fG0_28 := Lib.hid (fG0_27.out.below hb (Nat.le_trans s10.out (Nat.le_trans s11.out (Nat.le_trans s12.out (Nat.le_trans s13.out (Nat.le_trans s14.out (Nat.le_trans s15.out (Nat.le_trans s16.out (Nat.le_trans s17.out (Nat.le_trans s18.out (Nat.le_trans s19.out (Nat.le_trans s20.out (Nat.le_trans s21.out (Nat.le_trans s22.out (Nat.le_trans s23.out (Nat.le_trans s24.out (Nat.le_trans s25.out (Nat.le_trans s26.out s27.out))))))))))))))))))
  have bGV_28 := Lib.hid (bGV_27.out.below hb (Nat.le_trans s11.out (Nat.le_trans s12.out (Nat.le_trans s13.out (Nat.le_trans s14.out (Nat.le_trans s15.out (Nat.le_trans s16.out (Nat.le_trans s17.out (Nat.le_trans s18.out (Nat.le_trans s19.out (Nat.le_trans s20.out (Nat.le_trans s21.out (Nat.le_trans s22.out (Nat.le_trans s23.out (Nat.le_trans s24.out (Nat.le_trans s25.out (Nat.le_trans s26.out s27.out)))))))))))))))))
  have fH0_28 := Lib.hid (fH0_27.out.below hb (Nat.le_trans s26.out s27.out))
  have bHV_28 := Lib.hid (bHV_27.out.below hb s27.out)
  clear fX00_27 fX10_27 fW0_27 bWV_27 fG0_27 bGV_27 fH0_27 bHV_27 hb
  have eWV0 := bWV_28.out.2 0 _ rfl
  have eWV1 := bWV_28.out.2 1 _ rfl
  have eWV2 := bWV_28.out.2 2 _ rfl
  have zWV := Nat.lt_of_lt_of_le bWV_28.out.1 (Nat.le_trans s7.out (Nat.le_trans s8.out (Nat.le_trans s9.out (Nat.le_trans s10.out (Nat.le_trans s11.out (Nat.le_trans s12.out (Nat.le_trans s13.out (Nat.le_trans s14.out (Nat.le_trans s15.out (Nat.le_trans s16.out (Nat.le_trans s17.out (Nat.le_trans s18.out (Nat.le_trans s19.out (Nat.le_trans s20.out (Nat.le_trans s21.out (Nat.le_trans s22.out (Nat.le_trans s23.out (Nat.le_trans s24.out (Nat.le_trans s25.out (Nat.le_trans s26.out (Nat.le_trans s27.out s28.out)))))))))))))))))))))
  have eGV0 := bGV_28.out.2 0 _ rfl
  have eGV1 := bGV_28.out.2 1 _ rfl
  have eGV2 := bGV_28.out.2 2 _ rfl
  have zGV := Nat.lt_of_lt_of_le bGV_28.out.1 (Nat.le_trans s11.out (Nat.le_trans s12.out (Nat.le_trans s13.out (Nat.le_trans s14.out (Nat.le_trans s15.out (Nat.le_trans s16.out (Nat.le_trans s17.out (Nat.le_trans s18.out (Nat.le_trans s19.out (Nat.le_trans s20.out (Nat.le_trans s21.out (Nat.le_trans s22.out (Nat.le_trans s23.out (Nat.le_trans s24.out (Nat.le_trans s25.out (Nat.le_trans s26.out (Nat.le_trans s27.out s28.out)))))))))))))))))
  have eHV0 := bHV_28.out.2 0 _ rfl
  have eHV1 := bHV_28.out.2 1 _ rfl
  have eHV2 := bHV_28.out.2 2 _ rfl
  have zHV := Nat.lt_of_lt_of_le bHV_28.out.1 (Nat.le_trans s27.out s28.out)
  go_wp2_with fail
  clear eWV0 eWV1 eWV2 zWV eGV0 eGV1 eGV2 zGV eHV0 eHV1 eHV2 zHV
  refine (heldQ_abs' 1 1 (by simp) fG0_28.out.rd (by omega) (by omega)).mono ?_
  rintro e w29 ⟨rfl, hb⟩
  have t29 := Lib.hid (after t28.out hb)
  have s29 := Lib.hid hb.size
  have fX00_29 := Lib.hid (fX00_28.out.below hb t28.out.size)
  have fX10_29 := Lib.hid (fX10_28.out.below hb t28.out.size)
  have fW0_29 := Lib.hid (fW0_28.out.below hb (Nat.le_trans s6.out (Nat.le_trans s7.out (Nat.le_trans s8.out (Nat.le_trans s9.out (Nat.le_trans s10.out (Nat.le_trans s11.out (Nat.le_trans s12.out (Nat.le_trans s13.out (Nat.le_trans s14.out (Nat.le_trans s15.out (Nat.le_trans s16.out (Nat.le_trans s17.out (Nat.le_trans s18.out (Nat.le_trans s19.out (Nat.le_trans s20.out (Nat.le_trans s21.out (Nat.le_trans s22.out (Nat.le_trans s23.out (Nat.le_trans s24.out (Nat.le_trans s25.out (Nat.le_trans s26.out (Nat.le_trans s27.out s28.out)))))))))))))))))))))))
  have bWV_29 := Lib.hid (bWV_28.out.below hb (Nat.le_trans s7.out (Nat.le_trans s8.out (Nat.le_trans s9.out (Nat.le_trans s10.out (Nat.le_trans s11.out (Nat.le_trans s12.out (Nat.le_trans s13.out (Nat.le_trans s14.out (Nat.le_trans s15.out (Nat.le_trans s16.out (Nat.le_trans s17.out (Nat.le_trans s18.out (Nat.le_trans s19.out (Nat.le_trans s20.out (Nat.le_trans s21.out (Nat.le_trans s22.out (Nat.le_trans s23.out (Nat.le_trans s24.out (Nat.le_trans s25.out (Nat.le_trans s26.out (Nat.le_trans s27.out s28.out))))))))))))))))))))))
  have fG0_29 := Lib.hid (fG0_28.out.below hb (Nat.le_trans s10.out (Nat.le_trans s11.out (Nat.le_trans s12.out (Nat.le_trans s13.out (Nat.le_trans s14.out (Nat.le_trans s15.out (Nat.le_trans s16.out (Nat.le_trans s17.out (Nat.le_trans s18.out (Nat.le_trans s19.out (Nat.le_trans s20.out (Nat.le_trans s21.out (Nat.le_trans s22.out (Nat.le_trans s23.out (Nat.le_trans s24.out (Nat.le_trans s25.out (Nat.le_trans s26.out (Nat.le_trans s27.out s28.out)))))))))))))))))))
  have bGV_29 := Lib.hid (bGV_28.out.below hb (Nat.le_trans s11.out (Nat.le_trans s12.out (Nat.le_trans s13.out (Nat.le_trans s14.out (Nat.le_trans s15.out (Nat.le_trans s16.out (Nat.le_trans s17.out (Nat.le_trans s18.out (Nat.le_trans s19.out (Nat.le_trans s20.out (Nat.le_trans s21.out (Nat.le_trans s22.out (Nat.le_trans s23.out (Nat.le_trans s24.out (Nat.le_trans s25.out (Nat.le_trans s26.out (Nat.le_trans s27.out s28.out))))))))))))))))))
  have fH0_29 := Lib.hid (fH0_28.out.below hb (Nat.le_trans s26.out (Nat.le_trans s27.out s28.out)))
  have bHV_29 := Lib.hid (bHV_28.out.below hb (Nat.le_trans s27.out s28.out))
  clear fX00_28 fX10_28 fW0_28 bWV_28 fG0_28 bGV_28 fH0_28 bHV_28 hb
  go_wp2
  go_ret
  exact ⟨rfl, t29.out⟩
end fnExactDisposeQuestion
end Go.Proofs.Ytajbbinphnekiaa
