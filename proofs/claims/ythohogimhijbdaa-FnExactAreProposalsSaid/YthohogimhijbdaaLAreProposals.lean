/- The walk of the law on AreProposals: it returns true. Conditions: none. -/
import Derived.Test.YthohogimhijbdaaDk4
import Derived.Test.YthohogimhijbdaaDk5
import Derived.Deep.DrawnRows
namespace Go.Proofs.Ythohogimhijbdaa
open Go.RowKit
set_option linter.unusedVariables false
section
variable {B B' : Nat} {w : World} {A A' : Option Addr} {c c' : Nat} {ss : List ByteArray} {ps : List Prp}
theorem AreProposals_abs (h : RdS B w A c ss) (h' : RdP B' w A' c' ps) : Calls Try.prog 13 #[.slice A ss.length c, .slice A' ps.length c'] w fun e w' => e = .returned (.bool (propB ss ps)) ∧ Below w.heap.size w w' :=
  AreProposals_any A A' c c' ss ps w h.2.1.cells h.1 h.2.2 h'.1.dl h'.2
theorem sAreProposals_abs (h : RdS B w A c ss) (h' : RdP B' w A' c' ps) : Calls Try.prog 10 #[.slice A ss.length c, .slice A' ps.length c'] w fun e w' => e = .returned (.bool (propB ss ps)) ∧ Below w.heap.size w w' := by
  have HV := Lib.hid (fun W h1 h2 => l10Good_any A A' c c' ss ps W h1 h.1 h.2.2 h2 h'.2)
  have HA := Lib.hid h.2.1.cells
  have HD := Lib.hid h'.1.dl
  clear h h'
  go_enter Try.func10, Try.ntmps10
  go_wp2_with (go_at_call 34; refine (HV.out _ HA.out HD.out).mono ?_; rintro e w1 ⟨rfl, hb⟩; have HB0 := Lib.hid hb; clear hb)
  go_ret
  exact ⟨rfl, HB0.out⟩
end
attribute [local go_sem ↓] Go.wp_at_zero Go.wp_at_succ
namespace fnExactAreProposals
set_option maxRecDepth 100000 in
set_option maxHeartbeats 4000000 in
theorem walk (AX00 : Option Addr) (cX00 : Nat) (ss : List ByteArray) (AX10 : Option Addr) (cX10 : Nat) (ps : List Prp) (w : World) (hc00 : (ss).length ≤ cX00) (hr00 : Cells w AX00 (strs ss)) (hn00 : (ss).length ≤ maxLen) (hs00 : ∀ s ∈ ss, s.size ≤ maxLen) (hx10 : DL w AX10 cX10 ps ∧ FitP0 ps) :
    Calls Try.prog 3 #[.slice AX00 (ss).length cX00, .slice AX10 (ps).length cX10] w fun e w' => e = .returned (.bool true) ∧ Below w.heap.size w w' := by
  have fX00_i := Lib.hid (show RdS0 w.heap.size w AX00 cX00 ss from ⟨hc00, CellsB.of_cells hr00, hn00, hs00⟩)
  have fX10_i := Lib.hid (show RdP0 w.heap.size w AX10 cX10 ps from ⟨DLB.of_dl hx10.1, hx10.2⟩)
  clear hc00 hr00 hn00 hs00 hx10
  go_enter Try.func3, Try.ntmps3
  have t0 := Lib.hid (Below.refl w.heap.size w)
  have fX00_0 := Lib.hid (fX00_i.out.below t0.out (Nat.le_refl _))
  have fX10_0 := Lib.hid (fX10_i.out.below t0.out (Nat.le_refl _))
  clear fX00_i fX10_i
  go_wp2_with fail
  refine (szS_abs (1048576) fX00_0.out.2.1.cells fX00_0.out.2.2 (by omega) (by omega)).mono ?_
  rintro e w' ⟨rfl, rfl⟩
  rcases Int.lt_or_le (szF ss (1048576)) 0 with hz | hz
  · go_wp2_with fail
    go_ret
    exact ⟨rfl, t0.out⟩
  have hz0 : ¬ szF ss (1048576) < 0 := by omega
  obtain ⟨fit0, lo0, hi0⟩ := fitS_of hz0 (by omega) fX00_0.out.2.2
  have FT0 := Lib.hid fit0
  clear fit0 hz
  go_wp2_with fail
  refine (szP_abs (szF ss (1048576)) fX10_0.out lo0 hi0).mono ?_
  rintro e w1 ⟨rfl, hb⟩
  have t1 := Lib.hid (after t0.out hb)
  have s1 := Lib.hid hb.size
  have fX00_1 := Lib.hid (fX00_0.out.below hb t0.out.size)
  have fX10_1 := Lib.hid (fX10_0.out.below hb t0.out.size)
  clear fX00_0 fX10_0 hb
  rcases Int.lt_or_le (szP ps (szF ss (1048576))) 0 with hz | hz
  · go_wp2_with fail
    go_ret
    exact ⟨rfl, t1.out⟩
  have hz1 : ¬ szP ps (szF ss (1048576)) < 0 := by omega
  obtain ⟨fit1, lo1, hi1⟩ := szP_of hz1 (by omega) fX10_1.out.2
  have FT1 := Lib.hid fit1
  clear fit1 hz
  have fX00_1r := Lib.hid (fX00_1.out.up FT0.out)
  have fX10_1r := Lib.hid (fX10_1.out.up FT1.out)
  clear fX00_1 fX10_1
  go_wp2_with fail
  refine (toS_abs fX00_1r.out).mono ?_
  rintro e w2 ⟨AWa00, cWa00, rfl, oWa00, hb⟩
  have t2 := Lib.hid (after t1.out hb)
  have s2 := Lib.hid hb.size
  have fX00_2 := Lib.hid (fX00_1r.out.below hb t1.out.size)
  have fX10_2 := Lib.hid (fX10_1r.out.below hb t1.out.size)
  have fWa00_2 := Lib.hid oWa00
  clear fX00_1r fX10_1r oWa00 hb
  go_wp2_with fail
  refine (toP_abs fX10_2.out).mono ?_
  rintro e w3 ⟨AWa10, cWa10, rfl, oWa10, hb⟩
  have t3 := Lib.hid (after t2.out hb)
  have s3 := Lib.hid hb.size
  have fX00_3 := Lib.hid (fX00_2.out.below hb t2.out.size)
  have fX10_3 := Lib.hid (fX10_2.out.below hb t2.out.size)
  have fWa00_3 := Lib.hid (fWa00_2.out.below hb (Nat.le_refl _))
  have fWa10_3 := Lib.hid oWa10
  clear fX00_2 fX10_2 fWa00_2 oWa10 hb
  go_wp2_with fail
  refine (sAreProposals_abs fWa00_3.out.rd fWa10_3.out.rd).mono ?_
  rintro e w4 ⟨rfl, hb⟩
  have t4 := Lib.hid (after t3.out hb)
  have s4 := Lib.hid hb.size
  have fX00_4 := Lib.hid (fX00_3.out.below hb t3.out.size)
  have fX10_4 := Lib.hid (fX10_3.out.below hb t3.out.size)
  have fWa00_4 := Lib.hid (fWa00_3.out.below hb s3.out)
  have fWa10_4 := Lib.hid (fWa10_3.out.below hb (Nat.le_refl _))
  clear fX00_3 fX10_3 fWa00_3 fWa10_3 hb
  clear fWa00_4 fWa10_4
  go_wp2_with fail
  refine (toS_abs fX00_4.out).mono ?_
  rintro e w5 ⟨AY00, cY00, rfl, oY00, hb⟩
  have t5 := Lib.hid (after t4.out hb)
  have s5 := Lib.hid hb.size
  have fX00_5 := Lib.hid (fX00_4.out.below hb t4.out.size)
  have fX10_5 := Lib.hid (fX10_4.out.below hb t4.out.size)
  have fY00_5 := Lib.hid oY00
  clear fX00_4 fX10_4 oY00 hb
  go_wp2_with fail
  refine (toP_abs fX10_5.out).mono ?_
  rintro e w6 ⟨AY10, cY10, rfl, oY10, hb⟩
  have t6 := Lib.hid (after t5.out hb)
  have s6 := Lib.hid hb.size
  have fX00_6 := Lib.hid (fX00_5.out.below hb t5.out.size)
  have fX10_6 := Lib.hid (fX10_5.out.below hb t5.out.size)
  have fY00_6 := Lib.hid (fY00_5.out.below hb (Nat.le_refl _))
  have fY10_6 := Lib.hid oY10
  clear fX00_5 fX10_5 fY00_5 oY10 hb
  go_wp2_with fail
  refine (AreProposals_abs fY00_6.out.rd fY10_6.out.rd).mono ?_
  rintro e w7 ⟨rfl, hb⟩
  have t7 := Lib.hid (after t6.out hb)
  have s7 := Lib.hid hb.size
  have fX00_7 := Lib.hid (fX00_6.out.below hb t6.out.size)
  have fX10_7 := Lib.hid (fX10_6.out.below hb t6.out.size)
  have fY00_7 := Lib.hid (fY00_6.out.below hb s6.out)
  have fY10_7 := Lib.hid (fY10_6.out.below hb (Nat.le_refl _))
  clear fX00_6 fX10_6 fY00_6 fY10_6 hb
  go_wp2_with fail
  refine (toS_abs fX00_7.out).mono ?_
  rintro e w8 ⟨AZ00, cZ00, rfl, oZ00, hb⟩
  have t8 := Lib.hid (after t7.out hb)
  have s8 := Lib.hid hb.size
  have fX00_8 := Lib.hid (fX00_7.out.below hb t7.out.size)
  have fX10_8 := Lib.hid (fX10_7.out.below hb t7.out.size)
  have fY00_8 := Lib.hid (fY00_7.out.below hb (Nat.le_trans s6.out s7.out))
  have fY10_8 := Lib.hid (fY10_7.out.below hb s7.out)
  have fZ00_8 := Lib.hid oZ00
  clear fX00_7 fX10_7 fY00_7 fY10_7 oZ00 hb
  go_wp2_with fail
  refine (eqS_abs fY00_8.out.rd fZ00_8.out.rd).mono ?_
  rintro e w9 ⟨rfl, hb⟩
  have t9 := Lib.hid (after t8.out hb)
  have s9 := Lib.hid hb.size
  have fX00_9 := Lib.hid (fX00_8.out.below hb t8.out.size)
  have fX10_9 := Lib.hid (fX10_8.out.below hb t8.out.size)
  have fY00_9 := Lib.hid (fY00_8.out.below hb (Nat.le_trans s6.out (Nat.le_trans s7.out s8.out)))
  have fY10_9 := Lib.hid (fY10_8.out.below hb (Nat.le_trans s7.out s8.out))
  have fZ00_9 := Lib.hid (fZ00_8.out.below hb (Nat.le_refl _))
  clear fX00_8 fX10_8 fY00_8 fY10_8 fZ00_8 hb
  clear fZ00_9
  go_wp2_with fail
  refine (toP_abs fX10_9.out).mono ?_
  rintro e w10 ⟨AZ10, cZ10, rfl, oZ10, hb⟩
  have t10 := Lib.hid (after t9.out hb)
  have s10 := Lib.hid hb.size
  have fX00_10 := Lib.hid (fX00_9.out.below hb t9.out.size)
  have fX10_10 := Lib.hid (fX10_9.out.below hb t9.out.size)
  have fY00_10 := Lib.hid (fY00_9.out.below hb (Nat.le_trans s6.out (Nat.le_trans s7.out (Nat.le_trans s8.out s9.out))))
  have fY10_10 := Lib.hid (fY10_9.out.below hb (Nat.le_trans s7.out (Nat.le_trans s8.out s9.out)))
  have fZ10_10 := Lib.hid oZ10
  clear fX00_9 fX10_9 fY00_9 fY10_9 oZ10 hb
  go_wp2_with fail
  refine (eqP_abs fY10_10.out.rd fZ10_10.out.rd).mono ?_
  rintro e w11 ⟨rfl, hb⟩
  have t11 := Lib.hid (after t10.out hb)
  have s11 := Lib.hid hb.size
  have fX00_11 := Lib.hid (fX00_10.out.below hb t10.out.size)
  have fX10_11 := Lib.hid (fX10_10.out.below hb t10.out.size)
  have fY00_11 := Lib.hid (fY00_10.out.below hb (Nat.le_trans s6.out (Nat.le_trans s7.out (Nat.le_trans s8.out (Nat.le_trans s9.out s10.out)))))
  have fY10_11 := Lib.hid (fY10_10.out.below hb (Nat.le_trans s7.out (Nat.le_trans s8.out (Nat.le_trans s9.out s10.out))))
  have fZ10_11 := Lib.hid (fZ10_10.out.below hb (Nat.le_refl _))
  clear fX00_10 fX10_10 fY00_10 fY10_10 fZ10_10 hb
  clear fZ10_11
  go_wp2
  go_ret
  exact ⟨rfl, t11.out⟩
end fnExactAreProposals
end Go.Proofs.Ythohogimhijbdaa
