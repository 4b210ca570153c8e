/- The walk of the law on UndoAmendments: it returns true. Conditions: none. -/
import Derived.Test.YtgchbimjgdoifaaDa5
import Derived.Test.YtgchbimjgdoifaaDa6
import Derived.Test.YtgchbimjgdoifaaRb7
namespace Go.Proofs.Ytgchbimjgdoifaa
open Go.RowKit
set_option linter.unusedVariables false
section
variable {B B' : Nat} {w : World} {A A' : Option Addr} {c c' : Nat} {ss : List ByteArray} {ps : List Amd}
theorem UndoAmendments_abs (h : RdS B w A c ss) (h' : RdQ B' w A' c' ps) : Calls Try.prog 20 #[.slice A ss.length c, .slice A' ps.length c'] w (ToQB w (undoL ss ps) (undoB ss ps)) :=
  UndoAmendments_any A A' c c' ss ps w h.2.1.cells h.1 h.2.2 h'.1.dl h'.2
theorem sUndoAmendments_abs (h : RdS B w A c ss) (h' : RdQ B' w A' c' ps) : Calls Try.prog 19 #[.slice A ss.length c, .slice A' ps.length c'] w (ToQB w (undoL ss ps) (undoB ss ps)) :=
  sUndoAmendments_any A A' c c' ss ps w h.2.1.cells h.1 h.2.2 h'.1.dl h'.2
end
attribute [local go_sem ↓] Go.wp_at_zero Go.wp_at_succ
namespace fnExactUndoAmendments
set_option maxRecDepth 100000 in
set_option maxHeartbeats 4000000 in
theorem walk (AX00 : Option Addr) (cX00 : Nat) (ss : List ByteArray) (AX10 : Option Addr) (cX10 : Nat) (ps : List Amd) (w : World) (hc00 : (ss).length ≤ cX00) (hr00 : Cells w AX00 (strs ss)) (hn00 : (ss).length ≤ maxLen) (hs00 : ∀ s ∈ ss, s.size ≤ maxLen) (hx10 : DLQ w AX10 cX10 ps ∧ FitQ0 ps) :
    Calls Try.prog 4 #[.slice AX00 (ss).length cX00, .slice AX10 (ps).length cX10] w fun e w' => e = .returned (.bool true) ∧ Below w.heap.size w w' := by
  have fX00_i := Lib.hid (show RdS0 w.heap.size w AX00 cX00 ss from ⟨hc00, CellsB.of_cells hr00, hn00, hs00⟩)
  have fX10_i := Lib.hid (show RdQ0 w.heap.size w AX10 cX10 ps from ⟨DLQQB.of_dl hx10.1, hx10.2⟩)
  clear hc00 hr00 hn00 hs00 hx10
  go_enter Try.func4, Try.ntmps4
  have t0 := Lib.hid (Below.refl w.heap.size w)
  have fX00_0 := Lib.hid (fX00_i.out.below t0.out (Nat.le_refl _))
  have fX10_0 := Lib.hid (fX10_i.out.below t0.out (Nat.le_refl _))
  clear fX00_i fX10_i
  go_wp2_with fail
  refine (szS_abs (1048576) fX00_0.out.2.1.cells fX00_0.out.2.2 (by omega) (by omega)).mono ?_
  rintro e w' ⟨rfl, rfl⟩
  rcases Int.lt_or_le (szF ss (1048576)) 0 with hz | hz
  · go_wp2_with fail
    go_ret
    exact ⟨rfl, t0.out⟩
  have hz0 : ¬ szF ss (1048576) < 0 := by omega
  obtain ⟨fit0, lo0, hi0⟩ := fitS_of hz0 (by omega) fX00_0.out.2.2
  have FT0 := Lib.hid fit0
  clear fit0 hz
  go_wp2_with fail
  refine (szQ_abs (szF ss (1048576)) fX10_0.out lo0 hi0).mono ?_
  rintro e w1 ⟨rfl, hb⟩
  have t1 := Lib.hid (after t0.out hb)
  have s1 := Lib.hid hb.size
  have fX00_1 := Lib.hid (fX00_0.out.below hb t0.out.size)
  have fX10_1 := Lib.hid (fX10_0.out.below hb t0.out.size)
  clear fX00_0 fX10_0 hb
  rcases Int.lt_or_le (szQ ps (szF ss (1048576))) 0 with hz | hz
  · go_wp2_with fail
    go_ret
    exact ⟨rfl, t1.out⟩
  have hz1 : ¬ szQ ps (szF ss (1048576)) < 0 := by omega
  obtain ⟨fit1, lo1, hi1⟩ := szQ_of hz1 (by omega) fX10_1.out.2
  have FT1 := Lib.hid fit1
  clear fit1 hz
  have fX00_1r := Lib.hid (fX00_1.out.up FT0.out)
  have fX10_1r := Lib.hid (fX10_1.out.up FT1.out)
  clear fX00_1 fX10_1
  go_wp2_with fail
  refine (toS_abs fX00_1r.out).mono ?_
  rintro e w2 ⟨AWa00, cWa00, rfl, oWa00, hb⟩
  have t2 := Lib.hid (after t1.out hb)
  have s2 := Lib.hid hb.size
  have fX00_2 := Lib.hid (fX00_1r.out.below hb t1.out.size)
  have fX10_2 := Lib.hid (fX10_1r.out.below hb t1.out.size)
  have fWa00_2 := Lib.hid oWa00
  clear fX00_1r fX10_1r oWa00 hb
  go_wp2_with fail
  refine (toQ_abs fX10_2.out).mono ?_
  rintro e w3 ⟨AWa10, cWa10, rfl, oWa10, hb⟩
  have t3 := Lib.hid (after t2.out hb)
  have s3 := Lib.hid hb.size
  have fX00_3 := Lib.hid (fX00_2.out.below hb t2.out.size)
  have fX10_3 := Lib.hid (fX10_2.out.below hb t2.out.size)
  have fWa00_3 := Lib.hid (fWa00_2.out.below hb (Nat.le_refl _))
  have fWa10_3 := Lib.hid oWa10
  clear fX00_2 fX10_2 fWa00_2 oWa10 hb
  go_wp2_with fail
  refine (sUndoAmendments_abs fWa00_3.out.rd fWa10_3.out.rd).mono ?_
  rintro e w4 ⟨AW0, cW0, rfl, oW0, hb⟩
  have t4 := Lib.hid (after t3.out hb)
  have s4 := Lib.hid hb.size
  have fX00_4 := Lib.hid (fX00_3.out.below hb t3.out.size)
  have fX10_4 := Lib.hid (fX10_3.out.below hb t3.out.size)
  have fWa00_4 := Lib.hid (fWa00_3.out.below hb s3.out)
  have fWa10_4 := Lib.hid (fWa10_3.out.below hb (Nat.le_refl _))
  have fW0_4 := Lib.hid oW0
  clear fX00_3 fX10_3 fWa00_3 fWa10_3 oW0 hb
  clear fWa00_4 fWa10_4
  go_wp2_with fail
  refine (toS_abs fX00_4.out).mono ?_
  rintro e w5 ⟨AY00, cY00, rfl, oY00, hb⟩
  have t5 := Lib.hid (after t4.out hb)
  have s5 := Lib.hid hb.size
  have fX00_5 := Lib.hid (fX00_4.out.below hb t4.out.size)
  have fX10_5 := Lib.hid (fX10_4.out.below hb t4.out.size)
  have fW0_5 := Lib.hid (fW0_4.out.below hb (Nat.le_refl _))
  have fY00_5 := Lib.hid oY00
  clear fX00_4 fX10_4 fW0_4 oY00 hb
  go_wp2_with fail
  refine (toQ_abs fX10_5.out).mono ?_
  rintro e w6 ⟨AY10, cY10, rfl, oY10, hb⟩
  have t6 := Lib.hid (after t5.out hb)
  have s6 := Lib.hid hb.size
  have fX00_6 := Lib.hid (fX00_5.out.below hb t5.out.size)
  have fX10_6 := Lib.hid (fX10_5.out.below hb t5.out.size)
  have fW0_6 := Lib.hid (fW0_5.out.below hb s5.out)
  have fY00_6 := Lib.hid (fY00_5.out.below hb (Nat.le_refl _))
  have fY10_6 := Lib.hid oY10
  clear fX00_5 fX10_5 fW0_5 fY00_5 oY10 hb
  go_wp2_with fail
  refine (UndoAmendments_abs fY00_6.out.rd fY10_6.out.rd).mono ?_
  rintro e w7 ⟨AG0, cG0, rfl, oG0, hb⟩
  have t7 := Lib.hid (after t6.out hb)
  have s7 := Lib.hid hb.size
  have fX00_7 := Lib.hid (fX00_6.out.below hb t6.out.size)
  have fX10_7 := Lib.hid (fX10_6.out.below hb t6.out.size)
  have fW0_7 := Lib.hid (fW0_6.out.below hb (Nat.le_trans s5.out s6.out))
  have fY00_7 := Lib.hid (fY00_6.out.below hb s6.out)
  have fY10_7 := Lib.hid (fY10_6.out.below hb (Nat.le_refl _))
  have fG0_7 := Lib.hid oG0
  clear fX00_6 fX10_6 fW0_6 fY00_6 fY10_6 oG0 hb
  go_wp2_with fail
  refine (eqQ_abs fG0_7.out.rd fW0_7.out.rd).mono ?_
  rintro e w8 ⟨rfl, hb⟩
  have t8 := Lib.hid (after t7.out hb)
  have s8 := Lib.hid hb.size
  have fX00_8 := Lib.hid (fX00_7.out.below hb t7.out.size)
  have fX10_8 := Lib.hid (fX10_7.out.below hb t7.out.size)
  have fW0_8 := Lib.hid (fW0_7.out.below hb (Nat.le_trans s5.out (Nat.le_trans s6.out s7.out)))
  have fY00_8 := Lib.hid (fY00_7.out.below hb (Nat.le_trans s6.out s7.out))
  have fY10_8 := Lib.hid (fY10_7.out.below hb s7.out)
  have fG0_8 := Lib.hid (fG0_7.out.below hb (Nat.le_refl _))
  clear fX00_7 fX10_7 fW0_7 fY00_7 fY10_7 fG0_7 hb
  go_wp2_with fail
  refine (toS_abs fX00_8.out).mono ?_
  rintro e w9 ⟨AZ00, cZ00, rfl, oZ00, hb⟩
  have t9 := Lib.hid (after t8.out hb)
  have s9 := Lib.hid hb.size
  have fX00_9 := Lib.hid (fX00_8.out.below hb t8.out.size)
  have fX10_9 := Lib.hid (fX10_8.out.below hb t8.out.size)
  have fW0_9 := Lib.hid (fW0_8.out.below hb (Nat.le_trans s5.out (Nat.le_trans s6.out (Nat.le_trans s7.out s8.out))))
  have fY00_9 := Lib.hid (fY00_8.out.below hb (Nat.le_trans s6.out (Nat.le_trans s7.out s8.out)))
  have fY10_9 := Lib.hid (fY10_8.out.below hb (Nat.le_trans s7.out s8.out))
  have fG0_9 := Lib.hid (fG0_8.out.below hb s8.out)
  have fZ00_9 := Lib.hid oZ00
  clear fX00_8 fX10_8 fW0_8 fY00_8 fY10_8 fG0_8 oZ00 hb
  go_wp2_with fail
  refine (eqS_abs fY00_9.out.rd fZ00_9.out.rd).mono ?_
  rintro e w10 ⟨rfl, hb⟩
  have t10 := Lib.hid (after t9.out hb)
  have s10 := Lib.hid hb.size
  have fX00_10 := Lib.hid (fX00_9.out.below hb t9.out.size)
  have fX10_10 := Lib.hid (fX10_9.out.below hb t9.out.size)
  have fW0_10 := Lib.hid (fW0_9.out.below hb (Nat.le_trans s5.out (Nat.le_trans s6.out (Nat.le_trans s7.out (Nat.le_trans s8.out s9.out)))))
  have fY00_10 := Lib.hid (fY00_9.out.below hb (Nat.le_trans s6.out (Nat.le_trans s7.out (Nat.le_trans s8.out s9.out))))
  have fY10_10 := Lib.hid (fY10_9.out.below hb (Nat.le_trans s7.out (Nat.le_trans s8.out s9.out)))
  have fG0_10 := Lib.hid (fG0_9.out.below hb (Nat.le_trans s8.out s9.out))
  have fZ00_10 := Lib.hid (fZ00_9.out.below hb (Nat.le_refl _))
  clear fX00_9 fX10_9 fW0_9 fY00_9 fY10_9 fG0_9 fZ00_9 hb
  clear fZ00_10
  go_wp2_with fail
  refine (toQ_abs fX10_10.out).mono ?_
  rintro e w11 ⟨AZ10, cZ10, rfl, oZ10, hb⟩
  have t11 := Lib.hid (after t10.out hb)
  have s11 := Lib.hid hb.size
  have fX00_11 := Lib.hid (fX00_10.out.below hb t10.out.size)
  have fX10_11 := Lib.hid (fX10_10.out.below hb t10.out.size)
  have fW0_11 := Lib.hid (fW0_10.out.below hb (Nat.le_trans s5.out (Nat.le_trans s6.out (Nat.le_trans s7.out (Nat.le_trans s8.out (Nat.le_trans s9.out s10.out))))))
  have fY00_11 := Lib.hid (fY00_10.out.below hb (Nat.le_trans s6.out (Nat.le_trans s7.out (Nat.le_trans s8.out (Nat.le_trans s9.out s10.out)))))
  have fY10_11 := Lib.hid (fY10_10.out.below hb (Nat.le_trans s7.out (Nat.le_trans s8.out (Nat.le_trans s9.out s10.out))))
  have fG0_11 := Lib.hid (fG0_10.out.below hb (Nat.le_trans s8.out (Nat.le_trans s9.out s10.out)))
  have fZ10_11 := Lib.hid oZ10
  clear fX00_10 fX10_10 fW0_10 fY00_10 fY10_10 fG0_10 oZ10 hb
  go_wp2_with fail
  refine (eqQ_abs fY10_11.out.rd fZ10_11.out.rd).mono ?_
  rintro e w12 ⟨rfl, hb⟩
  have t12 := Lib.hid (after t11.out hb)
  have s12 := Lib.hid hb.size
  have fX00_12 := Lib.hid (fX00_11.out.below hb t11.out.size)
  have fX10_12 := Lib.hid (fX10_11.out.below hb t11.out.size)
  have fW0_12 := Lib.hid (fW0_11.out.below hb (Nat.le_trans s5.out (Nat.le_trans s6.out (Nat.le_trans s7.out (Nat.le_trans s8.out (Nat.le_trans s9.out (Nat.le_trans s10.out s11.out)))))))
  have fY00_12 := Lib.hid (fY00_11.out.below hb (Nat.le_trans s6.out (Nat.le_trans s7.out (Nat.le_trans s8.out (Nat.le_trans s9.out (Nat.le_trans s10.out s11.out))))))
  have fY10_12 := Lib.hid (fY10_11.out.below hb (Nat.le_trans s7.out (Nat.le_trans s8.out (Nat.le_trans s9.out (Nat.le_trans s10.out s11.out)))))
  have fG0_12 := Lib.hid (fG0_11.out.below hb (Nat.le_trans s8.out (Nat.le_trans s9.out (Nat.le_trans s10.out s11.out))))
  have fZ10_12 := Lib.hid (fZ10_11.out.below hb (Nat.le_refl _))
  clear fX00_11 fX10_11 fW0_11 fY00_11 fY10_11 fG0_11 fZ10_11 hb
  clear fZ10_12
  go_wp2_with fail
  have lnY00 := fY00_12.out.2.2.1
  refine (markS_abs' 1 1 (by simp) fY00_12.out (by omega) (by omega)).mono ?_
  rintro e w13 ⟨rfl, oY00, ho⟩
  have t13 := Lib.hid (t12.out.trans (ho.below (Nat.le_trans s5.out (Nat.le_trans s6.out (Nat.le_trans s7.out (Nat.le_trans s8.out (Nat.le_trans s9.out (Nat.le_trans s10.out (Nat.le_trans s11.out s12.out))))))) |>.mono t4.out.size))
  have s13 := Lib.hid ho.size
  have fX00_13 := Lib.hid (fX00_12.out.below (ho.below (Nat.le_trans s5.out (Nat.le_trans s6.out (Nat.le_trans s7.out (Nat.le_trans s8.out (Nat.le_trans s9.out (Nat.le_trans s10.out (Nat.le_trans s11.out s12.out)))))))) t4.out.size)
  have fX10_13 := Lib.hid (fX10_12.out.below (ho.below (Nat.le_trans s5.out (Nat.le_trans s6.out (Nat.le_trans s7.out (Nat.le_trans s8.out (Nat.le_trans s9.out (Nat.le_trans s10.out (Nat.le_trans s11.out s12.out)))))))) t4.out.size)
  have fW0_13 := Lib.hid (fW0_12.out.only ho (.inl (Nat.le_refl _)))
  have fY10_13 := Lib.hid (fY10_12.out.only ho (.inr (Nat.le_refl _)))
  have fG0_13 := Lib.hid (fG0_12.out.only ho (.inr s6.out))
  have fY00_13 := Lib.hid oY00
  clear fX00_12 fX10_12 fW0_12 fY10_12 fG0_12 fY00_12 oY00 ho
  go_wp2_with fail
  have lnY10 := OwQ.cnt fY10_13.out
  refine (markQ_abs' (1 + (ss).length) (1 + ((ss).length : Int)) (by simp) fY10_13.out (by omega) (by omega)).mono ?_
  rintro e w14 ⟨rfl, oY10, ho⟩
  have t14 := Lib.hid (t13.out.trans (ho.below (Nat.le_trans s6.out (Nat.le_trans s7.out (Nat.le_trans s8.out (Nat.le_trans s9.out (Nat.le_trans s10.out (Nat.le_trans s11.out (Nat.le_trans s12.out s13.out))))))) |>.mono t5.out.size))
  have s14 := Lib.hid ho.size
  have fX00_14 := Lib.hid (fX00_13.out.below (ho.below (Nat.le_trans s6.out (Nat.le_trans s7.out (Nat.le_trans s8.out (Nat.le_trans s9.out (Nat.le_trans s10.out (Nat.le_trans s11.out (Nat.le_trans s12.out s13.out)))))))) t5.out.size)
  have fX10_14 := Lib.hid (fX10_13.out.below (ho.below (Nat.le_trans s6.out (Nat.le_trans s7.out (Nat.le_trans s8.out (Nat.le_trans s9.out (Nat.le_trans s10.out (Nat.le_trans s11.out (Nat.le_trans s12.out s13.out)))))))) t5.out.size)
  have fW0_14 := Lib.hid (fW0_13.out.only ho (.inl s5.out))
  have fY00_14 := Lib.hid (fY00_13.out.only ho (.inl (Nat.le_refl _)))
  have fG0_14 := Lib.hid (fG0_13.out.only ho (.inr (Nat.le_refl _)))
  have fY10_14 := Lib.hid oY10
  clear fX00_13 fX10_13 fW0_13 fY00_13 fG0_13 fY10_13 oY10 ho
  clear fY00_14 fY10_14
  go_wp2_with fail
  refine (eqQ_abs fG0_14.out.rd fW0_14.out.rd).mono ?_
  rintro e w15 ⟨rfl, hb⟩
  have t15 := Lib.hid (after t14.out hb)
  have s15 := Lib.hid hb.size
  have fX00_15 := Lib.hid (fX00_14.out.below hb t14.out.size)
  have fX10_15 := Lib.hid (fX10_14.out.below hb t14.out.size)
  have fW0_15 := Lib.hid (fW0_14.out.below hb (Nat.le_trans s5.out (Nat.le_trans s6.out (Nat.le_trans s7.out (Nat.le_trans s8.out (Nat.le_trans s9.out (Nat.le_trans s10.out (Nat.le_trans s11.out (Nat.le_trans s12.out (Nat.le_trans s13.out s14.out))))))))))
  have fG0_15 := Lib.hid (fG0_14.out.below hb (Nat.le_trans s8.out (Nat.le_trans s9.out (Nat.le_trans s10.out (Nat.le_trans s11.out (Nat.le_trans s12.out (Nat.le_trans s13.out s14.out)))))))
  clear fX00_14 fX10_14 fW0_14 fG0_14 hb
  go_wp2_with fail
  have lnG0 := OwQ.cnt fG0_15.out
  refine (markQ_abs' 1 1 (by simp) fG0_15.out (by omega) (by omega)).mono ?_
  rintro e w16 ⟨rfl, oG0, ho⟩
  have t16 := Lib.hid (t15.out.trans (ho.below (Nat.le_trans s7.out (Nat.le_trans s8.out (Nat.le_trans s9.out (Nat.le_trans s10.out (Nat.le_trans s11.out (Nat.le_trans s12.out (Nat.le_trans s13.out (Nat.le_trans s14.out s15.out)))))))) |>.mono t6.out.size))
  have s16 := Lib.hid ho.size
  have fX00_16 := Lib.hid (fX00_15.out.below (ho.below (Nat.le_trans s7.out (Nat.le_trans s8.out (Nat.le_trans s9.out (Nat.le_trans s10.out (Nat.le_trans s11.out (Nat.le_trans s12.out (Nat.le_trans s13.out (Nat.le_trans s14.out s15.out))))))))) t6.out.size)
  have fX10_16 := Lib.hid (fX10_15.out.below (ho.below (Nat.le_trans s7.out (Nat.le_trans s8.out (Nat.le_trans s9.out (Nat.le_trans s10.out (Nat.le_trans s11.out (Nat.le_trans s12.out (Nat.le_trans s13.out (Nat.le_trans s14.out s15.out))))))))) t6.out.size)
  have fW0_16 := Lib.hid (fW0_15.out.only ho (.inl (Nat.le_trans s5.out s6.out)))
  have fG0_16 := Lib.hid oG0
  clear fX00_15 fX10_15 fW0_15 fG0_15 oG0 ho
  go_wp2_with fail
  refine (heldQ_abs' 1 1 (by simp) fG0_16.out.rd (by omega) (by omega)).mono ?_
  rintro e w17 ⟨rfl, hb⟩
  have t17 := Lib.hid (after t16.out hb)
  have s17 := Lib.hid hb.size
  have fX00_17 := Lib.hid (fX00_16.out.below hb t16.out.size)
  have fX10_17 := Lib.hid (fX10_16.out.below hb t16.out.size)
  have fW0_17 := Lib.hid (fW0_16.out.below hb (Nat.le_trans s5.out (Nat.le_trans s6.out (Nat.le_trans s7.out (Nat.le_trans s8.out (Nat.le_trans s9.out (Nat.le_trans s10.out (Nat.le_trans s11.out (Nat.le_trans s12.out (Nat.le_trans s13.out (Nat.le_trans s14.out (Nat.le_trans s15.out s16.out))))))))))))
  have fG0_17 := Lib.hid (fG0_16.out.below hb (Nat.le_trans s8.out (Nat.le_trans s9.out (Nat.le_trans s10.out (Nat.le_trans s11.out (Nat.le_trans s12.out (Nat.le_trans s13.out (Nat.le_trans s14.out (Nat.le_trans s15.out s16.out)))))))))
  clear fX00_16 fX10_16 fW0_16 fG0_16 hb
  go_wp2_with fail
  refine (toS_abs fX00_17.out).mono ?_
  rintro e w18 ⟨AHa00, cHa00, rfl, oHa00, hb⟩
  have t18 := Lib.hid (after t17.out hb)
  have s18 := Lib.hid hb.size
  have fX00_18 := Lib.hid (fX00_17.out.below hb t17.out.size)
  have fX10_18 := Lib.hid (fX10_17.out.below hb t17.out.size)
  have fW0_18 := Lib.hid (fW0_17.out.below hb (Nat.le_trans s5.out (Nat.le_trans s6.out (Nat.le_trans s7.out (Nat.le_trans s8.out (Nat.le_trans s9.out (Nat.le_trans s10.out (Nat.le_trans s11.out (Nat.le_trans s12.out (Nat.le_trans s13.out (Nat.le_trans s14.out (Nat.le_trans s15.out (Nat.le_trans s16.out s17.out)))))))))))))
  have fG0_18 := Lib.hid (fG0_17.out.below hb (Nat.le_trans s8.out (Nat.le_trans s9.out (Nat.le_trans s10.out (Nat.le_trans s11.out (Nat.le_trans s12.out (Nat.le_trans s13.out (Nat.le_trans s14.out (Nat.le_trans s15.out (Nat.le_trans s16.out s17.out))))))))))
  have fHa00_18 := Lib.hid oHa00
  clear fX00_17 fX10_17 fW0_17 fG0_17 oHa00 hb
  go_wp2_with fail
  refine (toQ_abs fX10_18.out).mono ?_
  rintro e w19 ⟨AHa10, cHa10, rfl, oHa10, hb⟩
  have t19 := Lib.hid (after t18.out hb)
  have s19 := Lib.hid hb.size
  have fX00_19 := Lib.hid (fX00_18.out.below hb t18.out.size)
  have fX10_19 := Lib.hid (fX10_18.out.below hb t18.out.size)
  have fW0_19 := Lib.hid (fW0_18.out.below hb (Nat.le_trans s5.out (Nat.le_trans s6.out (Nat.le_trans s7.out (Nat.le_trans s8.out (Nat.le_trans s9.out (Nat.le_trans s10.out (Nat.le_trans s11.out (Nat.le_trans s12.out (Nat.le_trans s13.out (Nat.le_trans s14.out (Nat.le_trans s15.out (Nat.le_trans s16.out (Nat.le_trans s17.out s18.out))))))))))))))
  have fG0_19 := Lib.hid (fG0_18.out.below hb (Nat.le_trans s8.out (Nat.le_trans s9.out (Nat.le_trans s10.out (Nat.le_trans s11.out (Nat.le_trans s12.out (Nat.le_trans s13.out (Nat.le_trans s14.out (Nat.le_trans s15.out (Nat.le_trans s16.out (Nat.le_trans s17.out s18.out)))))))))))
  have fHa00_19 := Lib.hid (fHa00_18.out.below hb (Nat.le_refl _))
  have fHa10_19 := Lib.hid oHa10
  clear fX00_18 fX10_18 fW0_18 fG0_18 fHa00_18 oHa10 hb
  go_wp2_with fail
  refine (UndoAmendments_abs fHa00_19.out.rd fHa10_19.out.rd).mono ?_
  rintro e w20 ⟨AH0, cH0, rfl, oH0, hb⟩
  have t20 := Lib.hid (after t19.out hb)
  have s20 := Lib.hid hb.size
  have fX00_20 := Lib.hid (fX00_19.out.below hb t19.out.size)
  have fX10_20 := Lib.hid (fX10_19.out.below hb t19.out.size)
  have fW0_20 := Lib.hid (fW0_19.out.below hb (Nat.le_trans s5.out (Nat.le_trans s6.out (Nat.le_trans s7.out (Nat.le_trans s8.out (Nat.le_trans s9.out (Nat.le_trans s10.out (Nat.le_trans s11.out (Nat.le_trans s12.out (Nat.le_trans s13.out (Nat.le_trans s14.out (Nat.le_trans s15.out (Nat.le_trans s16.out (Nat.le_trans s17.out (Nat.le_trans s18.out s19.out)))))))))))))))
  have fG0_20 := Lib.hid (fG0_19.out.below hb (Nat.le_trans s8.out (Nat.le_trans s9.out (Nat.le_trans s10.out (Nat.le_trans s11.out (Nat.le_trans s12.out (Nat.le_trans s13.out (Nat.le_trans s14.out (Nat.le_trans s15.out (Nat.le_trans s16.out (Nat.le_trans s17.out (Nat.le_trans s18.out s19.out))))))))))))
  have fHa00_20 := Lib.hid (fHa00_19.out.below hb s19.out)
  have fHa10_20 := Lib.hid (fHa10_19.out.below hb (Nat.le_refl _))
  have fH0_20 := Lib.hid oH0
  clear fX00_19 fX10_19 fW0_19 fG0_19 fHa00_19 fHa10_19 oH0 hb
  clear fHa00_20 fHa10_20
  go_wp2_with fail
  refine (eqQ_abs fH0_20.out.rd fW0_20.out.rd).mono ?_
  rintro e w21 ⟨rfl, hb⟩
  have t21 := Lib.hid (after t20.out hb)
  have s21 := Lib.hid hb.size
  have fX00_21 := Lib.hid (fX00_20.out.below hb t20.out.size)
  have fX10_21 := Lib.hid (fX10_20.out.below hb t20.out.size)
  have fW0_21 := Lib.hid (fW0_20.out.below hb (Nat.le_trans s5.out (Nat.le_trans s6.out (Nat.le_trans s7.out (Nat.le_trans s8.out (Nat.le_trans s9.out (Nat.le_trans s10.out (Nat.le_trans s11.out (Nat.le_trans s12.out (Nat.le_trans s13.out (Nat.le_trans s14.out (Nat.le_trans s15.out (Nat.le_trans s16.out (Nat.le_trans s17.out (Nat.le_trans s18.out (Nat.le_trans s19.out s20.out))))))))))))))))
  have fG0_21 := Lib.hid (fG0_20.out.below hb (Nat.le_trans s8.out (Nat.le_trans s9.out (Nat.le_trans s10.out (Nat.le_trans s11.out (Nat.le_trans s12.out (Nat.le_trans s13.out (Nat.le_trans s14.out (Nat.le_trans s15.out (Nat.le_trans s16.out (Nat.le_trans s17.out (Nat.le_trans s18.out (Nat.le_trans s19.out s20.out)))))))))))))
  have fH0_21 := Lib.hid (fH0_20.out.below hb (Nat.le_refl _))
  clear fX00_20 fX10_20 fW0_20 fG0_20 fH0_20 hb
  go_wp2_with fail
  refine (heldQ_abs' 1 1 (by simp) fG0_21.out.rd (by omega) (by omega)).mono ?_
  rintro e w22 ⟨rfl, hb⟩
  have t22 := Lib.hid (after t21.out hb)
  have s22 := Lib.hid hb.size
  have fX00_22 := Lib.hid (fX00_21.out.below hb t21.out.size)
  have fX10_22 := Lib.hid (fX10_21.out.below hb t21.out.size)
  have fW0_22 := Lib.hid (fW0_21.out.below hb (Nat.le_trans s5.out (Nat.le_trans s6.out (Nat.le_trans s7.out (Nat.le_trans s8.out (Nat.le_trans s9.out (Nat.le_trans s10.out (Nat.le_trans s11.out (Nat.le_trans s12.out (Nat.le_trans s13.out (Nat.le_trans s14.out (Nat.le_trans s15.out (Nat.le_trans s16.out (Nat.le_trans s17.out (Nat.le_trans s18.out (Nat.le_trans s19.out (Nat.le_trans s20.out s21.out)))))))))))))))))
  have fG0_22 := Lib.hid (fG0_21.out.below hb (Nat.le_trans s8.out (Nat.le_trans s9.out (Nat.le_trans s10.out (Nat.le_trans s11.out (Nat.le_trans s12.out (Nat.le_trans s13.out (Nat.le_trans s14.out (Nat.le_trans s15.out (Nat.le_trans s16.out (Nat.le_trans s17.out (Nat.le_trans s18.out (Nat.le_trans s19.out (Nat.le_trans s20.out s21.out))))))))))))))
  have fH0_22 := Lib.hid (fH0_21.out.below hb s21.out)
  clear fX00_21 fX10_21 fW0_21 fG0_21 fH0_21 hb
  go_wp2
  go_ret
  exact ⟨rfl, t22.out⟩
end fnExactUndoAmendments
end Go.Proofs.Ytgchbimjgdoifaa
