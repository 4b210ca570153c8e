/- The walk of the law on ArePending: it returns true. Conditions: none. -/
import Derived.Test.YtajbbinphnekiaaQR
import Derived.Test.YtajbbinphnekiaaPe
import Derived.Test.YtajbbinphnekiaaPf
namespace Go.Proofs.Ytajbbinphnekiaa
open Go.RowKit
set_option linter.unusedVariables false
section
variable {B B' : Nat} {w : World} {A D : Option Addr} {c d : Nat} {xs : List Rul} {qs : List Qst}
theorem ArePending_abs (h : Rd RuleK B w A c xs) (h' : Rd QuestionK B' w D d qs) : Calls Try.prog 20 #[.slice A xs.length c, .slice D qs.length d] w fun e w' => e = .returned (.bool (pendB xs qs)) ∧ Below w.heap.size w w' :=
  ArePending_any A c xs D d qs w h.cells h.2.2.1 h.1 h.2.2.2 h'.cells h'.2.2.1
theorem sArePending_abs (h : Rd RuleK B w A c xs) (h' : Rd QuestionK B' w D d qs) : Calls Try.prog 17 #[.slice A xs.length c, .slice D qs.length d] w fun e w' => e = .returned (.bool (pendB xs qs)) ∧ Below w.heap.size w w' :=
  sArePending_any A c xs D d qs w h.cells h.2.2.1 h.1 h.2.2.2 h'.cells h'.2.2.1
end
namespace fnExactArePending
set_option maxRecDepth 100000 in
set_option maxHeartbeats 4000000 in
theorem walk (AX00 : Option Addr) (cX00 : Nat) (xs : List Rul) (AX10 : Option Addr) (cX10 : Nat) (qs : List Qst) (w : World) (hx00 : (xs).length ≤ cX00 ∧ Cells w AX00 (RuleK.row xs) ∧ (xs).length ≤ maxLen ∧ ∀ x ∈ xs, RuleK.fit x) (hx10 : (qs).length ≤ cX10 ∧ Cells w AX10 (QuestionK.row qs) ∧ (qs).length ≤ maxLen ∧ ∀ x ∈ qs, QuestionK.fit x) :
    Calls Try.prog 3 #[.slice AX00 (xs).length cX00, .slice AX10 (qs).length cX10] w fun e w' => e = .returned (.bool true) ∧ Below w.heap.size w w' := by
  have fX00_i := Lib.hid (show Rd0 RuleK w.heap.size w AX00 cX00 xs from ⟨hx00.1, CellsB.of_cells hx00.2.1, hx00.2.2⟩)
  have fX10_i := Lib.hid (show Rd0 QuestionK w.heap.size w AX10 cX10 qs from ⟨hx10.1, CellsB.of_cells hx10.2.1, hx10.2.2⟩)
  clear hx00 hx10
  go_enter Try.func3, Try.ntmps3
  have t0 := Lib.hid (Below.refl w.heap.size w)
  have fX00_0 := Lib.hid (fX00_i.out.below t0.out (Nat.le_refl _))
  have fX10_0 := Lib.hid (fX10_i.out.below t0.out (Nat.le_refl _))
  go_wp2_with fail
  clear fX00_i fX10_i
  refine (szR_abs (1048576) fX00_0.out (by omega) (by omega)).mono ?_
  rintro e w1 ⟨rfl, hb⟩
  have t1 := Lib.hid (after t0.out hb)
  have s1 := Lib.hid hb.size
  have fX00_1 := Lib.hid (fX00_0.out.below hb t0.out.size)
  have fX10_1 := Lib.hid (fX10_0.out.below hb t0.out.size)
  clear fX00_0 fX10_0 hb
  rcases Int.lt_or_le ((szR_of xs) (1048576)) 0 with hz | hz
  · go_wp2_with fail
    go_ret
    exact ⟨rfl, t1.out⟩
  have hz0 : ¬ (szR_of xs) (1048576) < 0 := by omega
  obtain ⟨fit0, lo0, hi0⟩ := szR_fit hz0 (by omega)
  have FT0 := Lib.hid fit0
  clear fit0 hz
  go_wp2_with fail
  refine (szQ_abs ((szR_of xs) (1048576)) fX10_1.out lo0 hi0).mono ?_
  rintro e w2 ⟨rfl, hb⟩
  have t2 := Lib.hid (after t1.out hb)
  have s2 := Lib.hid hb.size
  have fX00_2 := Lib.hid (fX00_1.out.below hb t1.out.size)
  have fX10_2 := Lib.hid (fX10_1.out.below hb t1.out.size)
  clear fX00_1 fX10_1 hb
  rcases Int.lt_or_le ((szQ_of qs) ((szR_of xs) (1048576))) 0 with hz | hz
  · go_wp2_with fail
    go_ret
    exact ⟨rfl, t2.out⟩
  have hz1 : ¬ (szQ_of qs) ((szR_of xs) (1048576)) < 0 := by omega
  obtain ⟨fit1, lo1, hi1⟩ := szQ_fit hz1 (by omega)
  have FT1 := Lib.hid fit1
  clear fit1 hz
  have fX00_2r := Lib.hid (fX00_2.out.rd (FT0.out))
  have fX10_2r := Lib.hid (fX10_2.out.rd (FT1.out))
  clear fX00_2 fX10_2
  go_wp2_with fail
  refine (toR_abs fX00_2r.out).mono ?_
  rintro e w3 ⟨AWa00, cWa00, rfl, oWa00, hb⟩
  have t3 := Lib.hid (after t2.out hb)
  have s3 := Lib.hid hb.size
  have fX00_3 := Lib.hid (fX00_2r.out.below hb t2.out.size)
  have fX10_3 := Lib.hid (fX10_2r.out.below hb t2.out.size)
  have fWa00_3 := Lib.hid oWa00
  clear fX00_2r fX10_2r oWa00 hb
  go_wp2_with fail
  refine (toQ_abs fX10_3.out).mono ?_
  rintro e w4 ⟨AWa10, cWa10, rfl, oWa10, hb⟩
  have t4 := Lib.hid (after t3.out hb)
  have s4 := Lib.hid hb.size
  have fX00_4 := Lib.hid (fX00_3.out.below hb t3.out.size)
  have fX10_4 := Lib.hid (fX10_3.out.below hb t3.out.size)
  have fWa00_4 := Lib.hid (fWa00_3.out.below hb (Nat.le_refl _))
  have fWa10_4 := Lib.hid oWa10
  clear fX00_3 fX10_3 fWa00_3 oWa10 hb
  go_wp2_with fail
  refine (sArePending_abs fWa00_4.out.rd fWa10_4.out.rd).mono ?_
  rintro e w5 ⟨rfl, hb⟩
  have t5 := Lib.hid (after t4.out hb)
  have s5 := Lib.hid hb.size
  have fX00_5 := Lib.hid (fX00_4.out.below hb t4.out.size)
  have fX10_5 := Lib.hid (fX10_4.out.below hb t4.out.size)
  have fWa00_5 := Lib.hid (fWa00_4.out.below hb s4.out)
  have fWa10_5 := Lib.hid (fWa10_4.out.below hb (Nat.le_refl _))
  clear fX00_4 fX10_4 fWa00_4 fWa10_4 hb
  clear fWa00_5 fWa10_5
  go_wp2_with fail
  refine (toR_abs fX00_5.out).mono ?_
  rintro e w6 ⟨AY00, cY00, rfl, oY00, hb⟩
  have t6 := Lib.hid (after t5.out hb)
  have s6 := Lib.hid hb.size
  have fX00_6 := Lib.hid (fX00_5.out.below hb t5.out.size)
  have fX10_6 := Lib.hid (fX10_5.out.below hb t5.out.size)
  have fY00_6 := Lib.hid oY00
  clear fX00_5 fX10_5 oY00 hb
  go_wp2_with fail
  refine (toQ_abs fX10_6.out).mono ?_
  rintro e w7 ⟨AY10, cY10, rfl, oY10, hb⟩
  have t7 := Lib.hid (after t6.out hb)
  have s7 := Lib.hid hb.size
  have fX00_7 := Lib.hid (fX00_6.out.below hb t6.out.size)
  have fX10_7 := Lib.hid (fX10_6.out.below hb t6.out.size)
  have fY00_7 := Lib.hid (fY00_6.out.below hb (Nat.le_refl _))
  have fY10_7 := Lib.hid oY10
  clear fX00_6 fX10_6 fY00_6 oY10 hb
  go_wp2_with fail
  refine (ArePending_abs fY00_7.out.rd fY10_7.out.rd).mono ?_
  rintro e w8 ⟨rfl, hb⟩
  have t8 := Lib.hid (after t7.out hb)
  have s8 := Lib.hid hb.size
  have fX00_8 := Lib.hid (fX00_7.out.below hb t7.out.size)
  have fX10_8 := Lib.hid (fX10_7.out.below hb t7.out.size)
  have fY00_8 := Lib.hid (fY00_7.out.below hb s7.out)
  have fY10_8 := Lib.hid (fY10_7.out.below hb (Nat.le_refl _))
  clear fX00_7 fX10_7 fY00_7 fY10_7 hb
  go_wp2_with fail
  refine (toR_abs fX00_8.out).mono ?_
  rintro e w9 ⟨AZ00, cZ00, rfl, oZ00, hb⟩
  have t9 := Lib.hid (after t8.out hb)
  have s9 := Lib.hid hb.size
  have fX00_9 := Lib.hid (fX00_8.out.below hb t8.out.size)
  have fX10_9 := Lib.hid (fX10_8.out.below hb t8.out.size)
  have fY00_9 := Lib.hid (fY00_8.out.below hb (Nat.le_trans s7.out s8.out))
  have fY10_9 := Lib.hid (fY10_8.out.below hb s8.out)
  have fZ00_9 := Lib.hid oZ00
  clear fX00_8 fX10_8 fY00_8 fY10_8 oZ00 hb
  go_wp2_with fail
  refine (eqR_abs fY00_9.out.rd fZ00_9.out.rd).mono ?_
  rintro e w10 ⟨rfl, hb⟩
  have t10 := Lib.hid (after t9.out hb)
  have s10 := Lib.hid hb.size
  have fX00_10 := Lib.hid (fX00_9.out.below hb t9.out.size)
  have fX10_10 := Lib.hid (fX10_9.out.below hb t9.out.size)
  have fY00_10 := Lib.hid (fY00_9.out.below hb (Nat.le_trans s7.out (Nat.le_trans s8.out s9.out)))
  have fY10_10 := Lib.hid (fY10_9.out.below hb (Nat.le_trans s8.out s9.out))
  have fZ00_10 := Lib.hid (fZ00_9.out.below hb (Nat.le_refl _))
  clear fX00_9 fX10_9 fY00_9 fY10_9 fZ00_9 hb
  clear fZ00_10
  go_wp2_with fail
  refine (toQ_abs fX10_10.out).mono ?_
  rintro e w11 ⟨AZ10, cZ10, rfl, oZ10, hb⟩
  have t11 := Lib.hid (after t10.out hb)
  have s11 := Lib.hid hb.size
  have fX00_11 := Lib.hid (fX00_10.out.below hb t10.out.size)
  have fX10_11 := Lib.hid (fX10_10.out.below hb t10.out.size)
  have fY00_11 := Lib.hid (fY00_10.out.below hb (Nat.le_trans s7.out (Nat.le_trans s8.out (Nat.le_trans s9.out s10.out))))
  have fY10_11 := Lib.hid (fY10_10.out.below hb (Nat.le_trans s8.out (Nat.le_trans s9.out s10.out)))
  have fZ10_11 := Lib.hid oZ10
  clear fX00_10 fX10_10 fY00_10 fY10_10 oZ10 hb
  go_wp2_with fail
  refine (eqQ_abs fY10_11.out.rd fZ10_11.out.rd).mono ?_
  rintro e w12 ⟨rfl, hb⟩
  have t12 := Lib.hid (after t11.out hb)
  have s12 := Lib.hid hb.size
  have fX00_12 := Lib.hid (fX00_11.out.below hb t11.out.size)
  have fX10_12 := Lib.hid (fX10_11.out.below hb t11.out.size)
  have fY00_12 := Lib.hid (fY00_11.out.below hb (Nat.le_trans s7.out (Nat.le_trans s8.out (Nat.le_trans s9.out (Nat.le_trans s10.out s11.out)))))
  have fY10_12 := Lib.hid (fY10_11.out.below hb (Nat.le_trans s8.out (Nat.le_trans s9.out (Nat.le_trans s10.out s11.out))))
  have fZ10_12 := Lib.hid (fZ10_11.out.below hb (Nat.le_refl _))
  clear fX00_11 fX10_11 fY00_11 fY10_11 fZ10_11 hb
  clear fZ10_12
  go_wp2
  go_ret
  exact ⟨rfl, t12.out⟩
end fnExactArePending
end Go.Proofs.Ytajbbinphnekiaa
