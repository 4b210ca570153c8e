/- The walk of the law on NewFloor: it returns true. Conditions: none. -/
import Derived.Test.YtcojohcnkafgdaaFlM
import Derived.Test.YtcojohcnkafgdaaFlN
namespace Go.Proofs.Ytcojohcnkafgdaa
open Go.RowKit
set_option linter.unusedVariables false
theorem NewFloor_abs {w : World} (t s : Int) : Calls Try.prog 23 #[.int .i64 t, .int .i64 s] w (ToFB w (nfF t s) (nfB t s)) := NewFloor_any t s w
theorem sNewFloor_abs {w : World} (t s : Int) : Calls Try.prog 22 #[.int .i64 t, .int .i64 s] w (ToFB w (nfF t s) (nfB t s)) := sNewFloor_any t s w
namespace fnExactNewFloor
set_option maxRecDepth 100000 in
set_option maxHeartbeats 4000000 in
theorem walk (t : Int) (s : Int) (w : World) (wi0 : (Lit.int .i64 t).wf = true) (wi1 : (Lit.int .i64 s).wf = true) :
    Calls Try.prog 5 #[.int .i64 t, .int .i64 s] w fun e w' => e = .returned (.bool true) ∧ Below w.heap.size w w' := by
  go_enter Try.func5, Try.ntmps5
  have t0 := Lib.hid (Below.refl w.heap.size w)
  go_wp2_with fail
  go_wp2_with fail
  refine (sNewFloor_abs t s).mono ?_
  rintro e w1 ⟨AW0, cW0, AW1, cW1, rfl, oW0, oW1, hb⟩
  have t1 := Lib.hid (after t0.out hb)
  have s1 := Lib.hid hb.size
  have fW0_1 := Lib.hid oW0
  have fW1_1 := Lib.hid oW1
  clear oW0 oW1 hb
  have nb := (BoxL.new w1 #[.int .i64 (nfF t s).t, .int .i64 (nfF t s).s, .int .i64 (nfF t s).sp, .slice AW0 ((nfF t s).wt).length cW0, .slice AW1 ((nfF t s).sh).length cW1] 30).mono (show w1.heap.size + 1 ≤ (w1.alloc (.cells #[.int .i64 (nfF t s).t, .int .i64 (nfF t s).s, .int .i64 (nfF t s).sp, .slice AW0 ((nfF t s).wt).length cW0, .slice AW1 ((nfF t s).sh).length cW1] 30)).heap.size by simp)
  have hb : Below w1.heap.size w1 (w1.alloc (.cells #[.int .i64 (nfF t s).t, .int .i64 (nfF t s).s, .int .i64 (nfF t s).sp, .slice AW0 ((nfF t s).wt).length cW0, .slice AW1 ((nfF t s).sh).length cW1] 30)) := by go_grown
  go_wp2_with fail
  generalize w1.alloc (.cells #[.int .i64 (nfF t s).t, .int .i64 (nfF t s).s, .int .i64 (nfF t s).sp, .slice AW0 ((nfF t s).wt).length cW0, .slice AW1 ((nfF t s).sh).length cW1] 30) = w2 at *
  have t2 := Lib.hid (after t1.out hb)
  have s2 := Lib.hid hb.size
  have fW0_2 := Lib.hid (fW0_1.out.below hb (Nat.le_refl _))
  have fW1_2 := Lib.hid (fW1_1.out.below hb (Nat.le_refl _))
  have bW_2 := Lib.hid nb
  clear fW0_1 fW1_1 nb hb
  have eW0 := bW_2.out.2 0 _ rfl
  have eW1 := bW_2.out.2 1 _ rfl
  have eW2 := bW_2.out.2 2 _ rfl
  have eW3 := bW_2.out.2 3 _ rfl
  have eW4 := bW_2.out.2 4 _ rfl
  have zW := Nat.lt_of_lt_of_le bW_2.out.1 (Nat.le_refl _)
  go_wp2_with fail
  clear eW0 eW1 eW2 eW3 eW4 zW
  refine (NewFloor_abs t s).mono ?_
  rintro e w3 ⟨AG0, cG0, AG1, cG1, rfl, oG0, oG1, hb⟩
  have t3 := Lib.hid (after t2.out hb)
  have s3 := Lib.hid hb.size
  have fW0_3 := Lib.hid (fW0_2.out.below hb s2.out)
  have fW1_3 := Lib.hid (fW1_2.out.below hb s2.out)
  have bW_3 := Lib.hid (bW_2.out.below hb (Nat.le_refl _))
  have fG0_3 := Lib.hid oG0
  have fG1_3 := Lib.hid oG1
  clear fW0_2 fW1_2 bW_2 oG0 oG1 hb
  have nb := (BoxL.new w3 #[.int .i64 (nfF t s).t, .int .i64 (nfF t s).s, .int .i64 (nfF t s).sp, .slice AG0 ((nfF t s).wt).length cG0, .slice AG1 ((nfF t s).sh).length cG1] 30).mono (show w3.heap.size + 1 ≤ (w3.alloc (.cells #[.int .i64 (nfF t s).t, .int .i64 (nfF t s).s, .int .i64 (nfF t s).sp, .slice AG0 ((nfF t s).wt).length cG0, .slice AG1 ((nfF t s).sh).length cG1] 30)).heap.size by simp)
  have hb : Below w3.heap.size w3 (w3.alloc (.cells #[.int .i64 (nfF t s).t, .int .i64 (nfF t s).s, .int .i64 (nfF t s).sp, .slice AG0 ((nfF t s).wt).length cG0, .slice AG1 ((nfF t s).sh).length cG1] 30)) := by go_grown
  have eW0 := bW_3.out.2 0 _ rfl
  have eW1 := bW_3.out.2 1 _ rfl
  have eW2 := bW_3.out.2 2 _ rfl
  have eW3 := bW_3.out.2 3 _ rfl
  have eW4 := bW_3.out.2 4 _ rfl
  have zW := Nat.lt_of_lt_of_le bW_3.out.1 s3.out
  go_wp2_with fail
  clear eW0 eW1 eW2 eW3 eW4 zW
  generalize w3.alloc (.cells #[.int .i64 (nfF t s).t, .int .i64 (nfF t s).s, .int .i64 (nfF t s).sp, .slice AG0 ((nfF t s).wt).length cG0, .slice AG1 ((nfF t s).sh).length cG1] 30) = w4 at *
  have t4 := Lib.hid (after t3.out hb)
  have s4 := Lib.hid hb.size
  have fW0_4 := Lib.hid (fW0_3.out.below hb (Nat.le_trans s2.out s3.out))
  have fW1_4 := Lib.hid (fW1_3.out.below hb (Nat.le_trans s2.out s3.out))
  have bW_4 := Lib.hid (bW_3.out.below hb s3.out)
  have fG0_4 := Lib.hid (fG0_3.out.below hb (Nat.le_refl _))
  have fG1_4 := Lib.hid (fG1_3.out.below hb (Nat.le_refl _))
  have bG_4 := Lib.hid nb
  clear fW0_3 fW1_3 bW_3 fG0_3 fG1_3 nb hb
  refine (eqFl_abs fG0_4.out.rd fG1_4.out.rd fW0_4.out.rd fW1_4.out.rd).mono ?_
  rintro e w5 ⟨rfl, hb⟩
  have t5 := Lib.hid (after t4.out hb)
  have s5 := Lib.hid hb.size
  have fW0_5 := Lib.hid (fW0_4.out.below hb (Nat.le_trans s2.out (Nat.le_trans s3.out s4.out)))
  have fW1_5 := Lib.hid (fW1_4.out.below hb (Nat.le_trans s2.out (Nat.le_trans s3.out s4.out)))
  have bW_5 := Lib.hid (bW_4.out.below hb (Nat.le_trans s3.out s4.out))
  have fG0_5 := Lib.hid (fG0_4.out.below hb s4.out)
  have fG1_5 := Lib.hid (fG1_4.out.below hb s4.out)
  have bG_5 := Lib.hid (bG_4.out.below hb (Nat.le_refl _))
  clear fW0_4 fW1_4 bW_4 fG0_4 fG1_4 bG_4 hb
  have eW0 := bW_5.out.2 0 _ rfl
  have eW1 := bW_5.out.2 1 _ rfl
  have eW2 := bW_5.out.2 2 _ rfl
  have eW3 := bW_5.out.2 3 _ rfl
  have eW4 := bW_5.out.2 4 _ rfl
  have zW := Nat.lt_of_lt_of_le bW_5.out.1 (Nat.le_trans s3.out (Nat.le_trans s4.out s5.out))
  have eG0 := bG_5.out.2 0 _ rfl
  have eG1 := bG_5.out.2 1 _ rfl
  have eG2 := bG_5.out.2 2 _ rfl
  have eG3 := bG_5.out.2 3 _ rfl
  have eG4 := bG_5.out.2 4 _ rfl
  have zG := Nat.lt_of_lt_of_le bG_5.out.1 s5.out
  go_wp2_with fail
  clear eW0 eW1 eW2 eW3 eW4 zW eG0 eG1 eG2 eG3 eG4 zG
  have lnG0 := fG0_5.out.2.2.1
  have lnG1 := fG1_5.out.2.2.1
  refine (markFl_abs' 1 1 (by simp) fG0_5.out fG1_5.out (Nat.le_trans s4.out s5.out) (by omega) (by omega)).mono ?_
  rintro e w6 ⟨rfl, oG0, oG1, ho⟩
  have t6 := Lib.hid (t5.out.trans (ho.below (Nat.le_trans s3.out (Nat.le_trans s4.out s5.out)) |>.mono t2.out.size))
  have s6 := Lib.hid ho.size
  have fW0_6 := Lib.hid (fW0_5.out.only ho (.inl s2.out))
  have fW1_6 := Lib.hid (fW1_5.out.only ho (.inl s2.out))
  have bW_6 := Lib.hid (bW_5.out.below (ho.below (Nat.le_trans s3.out (Nat.le_trans s4.out s5.out))) (Nat.le_refl _))
  have bG_6 := Lib.hid (bG_5.out.only ho (Nat.le_refl _) (Nat.lt_of_lt_of_le bG_5.out.1 s5.out))
  have fG0_6 := Lib.hid oG0
  have fG1_6 := Lib.hid oG1
  clear fW0_5 fW1_5 bW_5 bG_5 fG0_5 oG0 fG1_5 oG1 ho
  have eW0 := bW_6.out.2 0 _ rfl
  have eW1 := bW_6.out.2 1 _ rfl
  have eW2 := bW_6.out.2 2 _ rfl
  have eW3 := bW_6.out.2 3 _ rfl
  have eW4 := bW_6.out.2 4 _ rfl
  have zW := Nat.lt_of_lt_of_le bW_6.out.1 (Nat.le_trans s3.out (Nat.le_trans s4.out (Nat.le_trans s5.out s6.out)))
  have eG0 := bG_6.out.2 0 _ rfl
  have eG1 := bG_6.out.2 1 _ rfl
  have eG2 := bG_6.out.2 2 _ rfl
  have eG3 := bG_6.out.2 3 _ rfl
  have eG4 := bG_6.out.2 4 _ rfl
  have zG := Nat.lt_of_lt_of_le bG_6.out.1 (Nat.le_trans s5.out s6.out)
  go_wp2_with fail
  clear eW0 eW1 eW2 eW3 eW4 zW eG0 eG1 eG2 eG3 eG4 zG
  refine (heldFl_abs' 1 1 (by simp) fG0_6.out.rd fG1_6.out.rd (by omega) (by omega)).mono ?_
  rintro e w7 ⟨rfl, hb⟩
  have t7 := Lib.hid (after t6.out hb)
  have s7 := Lib.hid hb.size
  have fW0_7 := Lib.hid (fW0_6.out.below hb (Nat.le_trans s2.out (Nat.le_trans s3.out (Nat.le_trans s4.out (Nat.le_trans s5.out s6.out)))))
  have fW1_7 := Lib.hid (fW1_6.out.below hb (Nat.le_trans s2.out (Nat.le_trans s3.out (Nat.le_trans s4.out (Nat.le_trans s5.out s6.out)))))
  have bW_7 := Lib.hid (bW_6.out.below hb (Nat.le_trans s3.out (Nat.le_trans s4.out (Nat.le_trans s5.out s6.out))))
  have fG0_7 := Lib.hid (fG0_6.out.below hb (Nat.le_trans s4.out (Nat.le_trans s5.out s6.out)))
  have fG1_7 := Lib.hid (fG1_6.out.below hb (Nat.le_trans s4.out (Nat.le_trans s5.out s6.out)))
  have bG_7 := Lib.hid (bG_6.out.below hb (Nat.le_trans s5.out s6.out))
  clear fW0_6 fW1_6 bW_6 fG0_6 fG1_6 bG_6 hb
  have eW0 := bW_7.out.2 0 _ rfl
  have eW1 := bW_7.out.2 1 _ rfl
  have eW2 := bW_7.out.2 2 _ rfl
  have eW3 := bW_7.out.2 3 _ rfl
  have eW4 := bW_7.out.2 4 _ rfl
  have zW := Nat.lt_of_lt_of_le bW_7.out.1 (Nat.le_trans s3.out (Nat.le_trans s4.out (Nat.le_trans s5.out (Nat.le_trans s6.out s7.out))))
  have eG0 := bG_7.out.2 0 _ rfl
  have eG1 := bG_7.out.2 1 _ rfl
  have eG2 := bG_7.out.2 2 _ rfl
  have eG3 := bG_7.out.2 3 _ rfl
  have eG4 := bG_7.out.2 4 _ rfl
  have zG := Nat.lt_of_lt_of_le bG_7.out.1 (Nat.le_trans s5.out (Nat.le_trans s6.out s7.out))
  go_wp2_with fail
  clear eW0 eW1 eW2 eW3 eW4 zW eG0 eG1 eG2 eG3 eG4 zG
  refine (NewFloor_abs t s).mono ?_
  rintro e w8 ⟨AH0, cH0, AH1, cH1, rfl, oH0, oH1, hb⟩
  have t8 := Lib.hid (after t7.out hb)
  have s8 := Lib.hid hb.size
  have fW0_8 := Lib.hid (fW0_7.out.below hb (Nat.le_trans s2.out (Nat.le_trans s3.out (Nat.le_trans s4.out (Nat.le_trans s5.out (Nat.le_trans s6.out s7.out))))))
  have fW1_8 := Lib.hid (fW1_7.out.below hb (Nat.le_trans s2.out (Nat.le_trans s3.out (Nat.le_trans s4.out (Nat.le_trans s5.out (Nat.le_trans s6.out s7.out))))))
  have bW_8 := Lib.hid (bW_7.out.below hb (Nat.le_trans s3.out (Nat.le_trans s4.out (Nat.le_trans s5.out (Nat.le_trans s6.out s7.out)))))
  have fG0_8 := Lib.hid (fG0_7.out.below hb (Nat.le_trans s4.out (Nat.le_trans s5.out (Nat.le_trans s6.out s7.out))))
  have fG1_8 := Lib.hid (fG1_7.out.below hb (Nat.le_trans s4.out (Nat.le_trans s5.out (Nat.le_trans s6.out s7.out))))
  have bG_8 := Lib.hid (bG_7.out.below hb (Nat.le_trans s5.out (Nat.le_trans s6.out s7.out)))
  have fH0_8 := Lib.hid oH0
  have fH1_8 := Lib.hid oH1
  clear fW0_7 fW1_7 bW_7 fG0_7 fG1_7 bG_7 oH0 oH1 hb
  have nb := (BoxL.new w8 #[.int .i64 (nfF t s).t, .int .i64 (nfF t s).s, .int .i64 (nfF t s).sp, .slice AH0 ((nfF t s).wt).length cH0, .slice AH1 ((nfF t s).sh).length cH1] 30).mono (show w8.heap.size + 1 ≤ (w8.alloc (.cells #[.int .i64 (nfF t s).t, .int .i64 (nfF t s).s, .int .i64 (nfF t s).sp, .slice AH0 ((nfF t s).wt).length cH0, .slice AH1 ((nfF t s).sh).length cH1] 30)).heap.size by simp)
  have hb : Below w8.heap.size w8 (w8.alloc (.cells #[.int .i64 (nfF t s).t, .int .i64 (nfF t s).s, .int .i64 (nfF t s).sp, .slice AH0 ((nfF t s).wt).length cH0, .slice AH1 ((nfF t s).sh).length cH1] 30)) := by go_grown
  have eW0 := bW_8.out.2 0 _ rfl
  have eW1 := bW_8.out.2 1 _ rfl
  have eW2 := bW_8.out.2 2 _ rfl
  have eW3 := bW_8.out.2 3 _ rfl
  have eW4 := bW_8.out.2 4 _ rfl
  have zW := Nat.lt_of_lt_of_le bW_8.out.1 (Nat.le_trans s3.out (Nat.le_trans s4.out (Nat.le_trans s5.out (Nat.le_trans s6.out (Nat.le_trans s7.out s8.out)))))
  have eG0 := bG_8.out.2 0 _ rfl
  have eG1 := bG_8.out.2 1 _ rfl
  have eG2 := bG_8.out.2 2 _ rfl
  have eG3 := bG_8.out.2 3 _ rfl
  have eG4 := bG_8.out.2 4 _ rfl
  have zG := Nat.lt_of_lt_of_le bG_8.out.1 (Nat.le_trans s5.out (Nat.le_trans s6.out (Nat.le_trans s7.out s8.out)))
  go_wp2_with fail
  clear eW0 eW1 eW2 eW3 eW4 zW eG0 eG1 eG2 eG3 eG4 zG
  generalize w8.alloc (.cells #[.int .i64 (nfF t s).t, .int .i64 (nfF t s).s, .int .i64 (nfF t s).sp, .slice AH0 ((nfF t s).wt).length cH0, .slice AH1 ((nfF t s).sh).length cH1] 30) = w9 at *
  have t9 := Lib.hid (after t8.out hb)
  have s9 := Lib.hid hb.size
  have fW0_9 := Lib.hid (fW0_8.out.below hb (Nat.le_trans s2.out (Nat.le_trans s3.out (Nat.le_trans s4.out (Nat.le_trans s5.out (Nat.le_trans s6.out (Nat.le_trans s7.out s8.out)))))))
  have fW1_9 := Lib.hid (fW1_8.out.below hb (Nat.le_trans s2.out (Nat.le_trans s3.out (Nat.le_trans s4.out (Nat.le_trans s5.out (Nat.le_trans s6.out (Nat.le_trans s7.out s8.out)))))))
  have bW_9 := Lib.hid (bW_8.out.below hb (Nat.le_trans s3.out (Nat.le_trans s4.out (Nat.le_trans s5.out (Nat.le_trans s6.out (Nat.le_trans s7.out s8.out))))))
  have fG0_9 := Lib.hid (fG0_8.out.below hb (Nat.le_trans s4.out (Nat.le_trans s5.out (Nat.le_trans s6.out (Nat.le_trans s7.out s8.out)))))
  have fG1_9 := Lib.hid (fG1_8.out.below hb (Nat.le_trans s4.out (Nat.le_trans s5.out (Nat.le_trans s6.out (Nat.le_trans s7.out s8.out)))))
  have bG_9 := Lib.hid (bG_8.out.below hb (Nat.le_trans s5.out (Nat.le_trans s6.out (Nat.le_trans s7.out s8.out))))
  have fH0_9 := Lib.hid (fH0_8.out.below hb (Nat.le_refl _))
  have fH1_9 := Lib.hid (fH1_8.out.below hb (Nat.le_refl _))
  have bH_9 := Lib.hid nb
  clear fW0_8 fW1_8 bW_8 fG0_8 fG1_8 bG_8 fH0_8 fH1_8 nb hb
  have eW0 := bW_9.out.2 0 _ rfl
  have eW1 := bW_9.out.2 1 _ rfl
  have eW2 := bW_9.out.2 2 _ rfl
  have eW3 := bW_9.out.2 3 _ rfl
  have eW4 := bW_9.out.2 4 _ rfl
  have zW := Nat.lt_of_lt_of_le bW_9.out.1 (Nat.le_trans s3.out (Nat.le_trans s4.out (Nat.le_trans s5.out (Nat.le_trans s6.out (Nat.le_trans s7.out (Nat.le_trans s8.out s9.out))))))
  have eG0 := bG_9.out.2 0 _ rfl
  have eG1 := bG_9.out.2 1 _ rfl
  have eG2 := bG_9.out.2 2 _ rfl
  have eG3 := bG_9.out.2 3 _ rfl
  have eG4 := bG_9.out.2 4 _ rfl
  have zG := Nat.lt_of_lt_of_le bG_9.out.1 (Nat.le_trans s5.out (Nat.le_trans s6.out (Nat.le_trans s7.out (Nat.le_trans s8.out s9.out))))
  have eH0 := bH_9.out.2 0 _ rfl
  have eH1 := bH_9.out.2 1 _ rfl
  have eH2 := bH_9.out.2 2 _ rfl
  have eH3 := bH_9.out.2 3 _ rfl
  have eH4 := bH_9.out.2 4 _ rfl
  have zH := Nat.lt_of_lt_of_le bH_9.out.1 (Nat.le_refl _)
  go_wp2_with fail
  clear eW0 eW1 eW2 eW3 eW4 zW eG0 eG1 eG2 eG3 eG4 zG eH0 eH1 eH2 eH3 eH4 zH
  refine (eqFl_abs fH0_9.out.rd fH1_9.out.rd fW0_9.out.rd fW1_9.out.rd).mono ?_
  rintro e w10 ⟨rfl, hb⟩
  have t10 := Lib.hid (after t9.out hb)
  have s10 := Lib.hid hb.size
  have fW0_10 := Lib.hid (fW0_9.out.below hb (Nat.le_trans s2.out (Nat.le_trans s3.out (Nat.le_trans s4.out (Nat.le_trans s5.out (Nat.le_trans s6.out (Nat.le_trans s7.out (Nat.le_trans s8.out s9.out))))))))
  have fW1_10 := Lib.hid (fW1_9.out.below hb (Nat.le_trans s2.out (Nat.le_trans s3.out (Nat.le_trans s4.out (Nat.le_trans s5.out (Nat.le_trans s6.out (Nat.le_trans s7.out (Nat.le_trans s8.out s9.out))))))))
  have bW_10 := Lib.hid (bW_9.out.below hb (Nat.le_trans s3.out (Nat.le_trans s4.out (Nat.le_trans s5.out (Nat.le_trans s6.out (Nat.le_trans s7.out (Nat.le_trans s8.out s9.out)))))))
  have fG0_10 := Lib.hid (fG0_9.out.below hb (Nat.le_trans s4.out (Nat.le_trans s5.out (Nat.le_trans s6.out (Nat.le_trans s7.out (Nat.le_trans s8.out s9.out))))))
  have fG1_10 := Lib.hid (fG1_9.out.below hb (Nat.le_trans s4.out (Nat.le_trans s5.out (Nat.le_trans s6.out (Nat.le_trans s7.out (Nat.le_trans s8.out s9.out))))))
  have bG_10 := Lib.hid (bG_9.out.below hb (Nat.le_trans s5.out (Nat.le_trans s6.out (Nat.le_trans s7.out (Nat.le_trans s8.out s9.out)))))
  have fH0_10 := Lib.hid (fH0_9.out.below hb s9.out)
  have fH1_10 := Lib.hid (fH1_9.out.below hb s9.out)
  have bH_10 := Lib.hid (bH_9.out.below hb (Nat.le_refl _))
  clear fW0_9 fW1_9 bW_9 fG0_9 fG1_9 bG_9 fH0_9 fH1_9 bH_9 hb
  have eW0 := bW_10.out.2 0 _ rfl
  have eW1 := bW_10.out.2 1 _ rfl
  have eW2 := bW_10.out.2 2 _ rfl
  have eW3 := bW_10.out.2 3 _ rfl
  have eW4 := bW_10.out.2 4 _ rfl
  have zW := Nat.lt_of_lt_of_le bW_10.out.1 (Nat.le_trans s3.out (Nat.le_trans s4.out (Nat.le_trans s5.out (Nat.le_trans s6.out (Nat.le_trans s7.out (Nat.le_trans s8.out (Nat.le_trans s9.out s10.out)))))))
  have eG0 := bG_10.out.2 0 _ rfl
  have eG1 := bG_10.out.2 1 _ rfl
  have eG2 := bG_10.out.2 2 _ rfl
  have eG3 := bG_10.out.2 3 _ rfl
  have eG4 := bG_10.out.2 4 _ rfl
  have zG := Nat.lt_of_lt_of_le bG_10.out.1 (Nat.le_trans s5.out (Nat.le_trans s6.out (Nat.le_trans s7.out (Nat.le_trans s8.out (Nat.le_trans s9.out s10.out)))))
  have eH0 := bH_10.out.2 0 _ rfl
  have eH1 := bH_10.out.2 1 _ rfl
  have eH2 := bH_10.out.2 2 _ rfl
  have eH3 := bH_10.out.2 3 _ rfl
  have eH4 := bH_10.out.2 4 _ rfl
  have zH := Nat.lt_of_lt_of_le bH_10.out.1 s10.out
  go_wp2_with fail
  clear eW0 eW1 eW2 eW3 eW4 zW eG0 eG1 eG2 eG3 eG4 zG eH0 eH1 eH2 eH3 eH4 zH
  refine (heldFl_abs' 1 1 (by simp) fG0_10.out.rd fG1_10.out.rd (by omega) (by omega)).mono ?_
  rintro e w11 ⟨rfl, hb⟩
  have t11 := Lib.hid (after t10.out hb)
  have s11 := Lib.hid hb.size
  have fW0_11 := Lib.hid (fW0_10.out.below hb (Nat.le_trans s2.out (Nat.le_trans s3.out (Nat.le_trans s4.out (Nat.le_trans s5.out (Nat.le_trans s6.out (Nat.le_trans s7.out (Nat.le_trans s8.out (Nat.le_trans s9.out s10.out)))))))))
  have fW1_11 := Lib.hid (fW1_10.out.below hb (Nat.le_trans s2.out (Nat.le_trans s3.out (Nat.le_trans s4.out (Nat.le_trans s5.out (Nat.le_trans s6.out (Nat.le_trans s7.out (Nat.le_trans s8.out (Nat.le_trans s9.out s10.out)))))))))
  have bW_11 := Lib.hid (bW_10.out.below hb (Nat.le_trans s3.out (Nat.le_trans s4.out (Nat.le_trans s5.out (Nat.le_trans s6.out (Nat.le_trans s7.out (Nat.le_trans s8.out (Nat.le_trans s9.out s10.out))))))))
  have fG0_11 := Lib.hid (fG0_10.out.below hb (Nat.le_trans s4.out (Nat.le_trans s5.out (Nat.le_trans s6.out (Nat.le_trans s7.out (Nat.le_trans s8.out (Nat.le_trans s9.out s10.out)))))))
  have fG1_11 := Lib.hid (fG1_10.out.below hb (Nat.le_trans s4.out (Nat.le_trans s5.out (Nat.le_trans s6.out (Nat.le_trans s7.out (Nat.le_trans s8.out (Nat.le_trans s9.out s10.out)))))))
  have bG_11 := Lib.hid (bG_10.out.below hb (Nat.le_trans s5.out (Nat.le_trans s6.out (Nat.le_trans s7.out (Nat.le_trans s8.out (Nat.le_trans s9.out s10.out))))))
  have fH0_11 := Lib.hid (fH0_10.out.below hb (Nat.le_trans s9.out s10.out))
  have fH1_11 := Lib.hid (fH1_10.out.below hb (Nat.le_trans s9.out s10.out))
  have bH_11 := Lib.hid (bH_10.out.below hb s10.out)
  clear fW0_10 fW1_10 bW_10 fG0_10 fG1_10 bG_10 fH0_10 fH1_10 bH_10 hb
  go_wp2
  go_ret
  exact ⟨rfl, t11.out⟩
end fnExactNewFloor
end Go.Proofs.Ytcojohcnkafgdaa
