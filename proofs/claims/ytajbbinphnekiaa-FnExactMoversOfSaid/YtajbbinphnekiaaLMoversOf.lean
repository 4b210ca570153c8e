/- The walk of the law on MoversOf: it returns true. Conditions: none. -/
import Derived.Test.YtajbbinphnekiaaQR
import Derived.Test.YtajbbinphnekiaaMv4
namespace Go.Proofs.Ytajbbinphnekiaa
open Go.RowKit
set_option linter.unusedVariables false
section
variable {B B' : Nat} {w : World} {A D : Option Addr} {c d : Nat} {xs : List Rul} {qs : List Qst}
theorem MoversOf_abs (h : Rd RuleK B w A c xs) (h' : Rd QuestionK B' w D d qs) : Calls Try.prog 48 #[.slice A xs.length c, .slice D qs.length d] w (ToLB IntK 3 w (mvO xs qs) (pendB xs qs)) := MoversOf_any A c xs D d qs w (PA.of h h')
theorem sMoversOf_abs (h : Rd RuleK B w A c xs) (h' : Rd QuestionK B' w D d qs) : Calls Try.prog 47 #[.slice A xs.length c, .slice D qs.length d] w (ToLB IntK 3 w (mvO xs qs) (pendB xs qs)) := sMoversOf_any A c xs D d qs w (PA.of h h')
end
namespace fnExactMoversOf
set_option maxRecDepth 100000 in
set_option maxHeartbeats 4000000 in
theorem walk (AX00 : Option Addr) (cX00 : Nat) (xs : List Rul) (AX10 : Option Addr) (cX10 : Nat) (qs : List Qst) (w : World) (hx00 : (xs).length ≤ cX00 ∧ Cells w AX00 (RuleK.row xs) ∧ (xs).length ≤ maxLen ∧ ∀ x ∈ xs, RuleK.fit x) (hx10 : (qs).length ≤ cX10 ∧ Cells w AX10 (QuestionK.row qs) ∧ (qs).length ≤ maxLen ∧ ∀ x ∈ qs, QuestionK.fit x) :
    Calls Try.prog 11 #[.slice AX00 (xs).length cX00, .slice AX10 (qs).length cX10] w fun e w' => e = .returned (.bool true) ∧ Below w.heap.size w w' := by
  have fX00_i := Lib.hid (show Rd0 RuleK w.heap.size w AX00 cX00 xs from ⟨hx00.1, CellsB.of_cells hx00.2.1, hx00.2.2⟩)
  have fX10_i := Lib.hid (show Rd0 QuestionK w.heap.size w AX10 cX10 qs from ⟨hx10.1, CellsB.of_cells hx10.2.1, hx10.2.2⟩)
  clear hx00 hx10
  go_enter Try.func11, Try.ntmps11
  have t0 := Lib.hid (Below.refl w.heap.size w)
  have fX00_0 := Lib.hid (fX00_i.out.below t0.out (Nat.le_refl _))
  have fX10_0 := Lib.hid (fX10_i.out.below t0.out (Nat.le_refl _))
  go_wp2_with fail
  clear fX00_i fX10_i
  refine (szR_abs (1048576) fX00_0.out (by omega) (by omega)).mono ?_
  rintro e w1 ⟨rfl, hb⟩
  have t1 := Lib.hid (after t0.out hb)
  have s1 := Lib.hid hb.size
  have fX00_1 := Lib.hid (fX00_0.out.below hb t0.out.size)
  have fX10_1 := Lib.hid (fX10_0.out.below hb t0.out.size)
  clear fX00_0 fX10_0 hb
  rcases Int.lt_or_le ((szR_of xs) (1048576)) 0 with hz | hz
  · go_wp2_with fail
    go_ret
    exact ⟨rfl, t1.out⟩
  have hz0 : ¬ (szR_of xs) (1048576) < 0 := by omega
  obtain ⟨fit0, lo0, hi0⟩ := szR_fit hz0 (by omega)
  have FT0 := Lib.hid fit0
  clear fit0 hz
  go_wp2_with fail
  refine (szQ_abs ((szR_of xs) (1048576)) fX10_1.out lo0 hi0).mono ?_
  rintro e w2 ⟨rfl, hb⟩
  have t2 := Lib.hid (after t1.out hb)
  have s2 := Lib.hid hb.size
  have fX00_2 := Lib.hid (fX00_1.out.below hb t1.out.size)
  have fX10_2 := Lib.hid (fX10_1.out.below hb t1.out.size)
  clear fX00_1 fX10_1 hb
  rcases Int.lt_or_le ((szQ_of qs) ((szR_of xs) (1048576))) 0 with hz | hz
  · go_wp2_with fail
    go_ret
    exact ⟨rfl, t2.out⟩
  have hz1 : ¬ (szQ_of qs) ((szR_of xs) (1048576)) < 0 := by omega
  obtain ⟨fit1, lo1, hi1⟩ := szQ_fit hz1 (by omega)
  have FT1 := Lib.hid fit1
  clear fit1 hz
  have fX00_2r := Lib.hid (fX00_2.out.rd (FT0.out))
  have fX10_2r := Lib.hid (fX10_2.out.rd (FT1.out))
  clear fX00_2 fX10_2
  go_wp2_with fail
  refine (toR_abs fX00_2r.out).mono ?_
  rintro e w3 ⟨AWa00, cWa00, rfl, oWa00, hb⟩
  have t3 := Lib.hid (after t2.out hb)
  have s3 := Lib.hid hb.size
  have fX00_3 := Lib.hid (fX00_2r.out.below hb t2.out.size)
  have fX10_3 := Lib.hid (fX10_2r.out.below hb t2.out.size)
  have fWa00_3 := Lib.hid oWa00
  clear fX00_2r fX10_2r oWa00 hb
  go_wp2_with fail
  refine (toQ_abs fX10_3.out).mono ?_
  rintro e w4 ⟨AWa10, cWa10, rfl, oWa10, hb⟩
  have t4 := Lib.hid (after t3.out hb)
  have s4 := Lib.hid hb.size
  have fX00_4 := Lib.hid (fX00_3.out.below hb t3.out.size)
  have fX10_4 := Lib.hid (fX10_3.out.below hb t3.out.size)
  have fWa00_4 := Lib.hid (fWa00_3.out.below hb (Nat.le_refl _))
  have fWa10_4 := Lib.hid oWa10
  clear fX00_3 fX10_3 fWa00_3 oWa10 hb
  go_wp2_with fail
  refine (sMoversOf_abs fWa00_4.out.rd fWa10_4.out.rd).mono ?_
  rintro e w5 ⟨AW0, cW0, rfl, oW0, hb⟩
  have t5 := Lib.hid (after t4.out hb)
  have s5 := Lib.hid hb.size
  have fX00_5 := Lib.hid (fX00_4.out.below hb t4.out.size)
  have fX10_5 := Lib.hid (fX10_4.out.below hb t4.out.size)
  have fWa00_5 := Lib.hid (fWa00_4.out.below hb s4.out)
  have fWa10_5 := Lib.hid (fWa10_4.out.below hb (Nat.le_refl _))
  have fW0_5 := Lib.hid oW0
  clear fX00_4 fX10_4 fWa00_4 fWa10_4 oW0 hb
  clear fWa00_5 fWa10_5
  go_wp2_with fail
  refine (toR_abs fX00_5.out).mono ?_
  rintro e w6 ⟨AY00, cY00, rfl, oY00, hb⟩
  have t6 := Lib.hid (after t5.out hb)
  have s6 := Lib.hid hb.size
  have fX00_6 := Lib.hid (fX00_5.out.below hb t5.out.size)
  have fX10_6 := Lib.hid (fX10_5.out.below hb t5.out.size)
  have fW0_6 := Lib.hid (fW0_5.out.below hb (Nat.le_refl _))
  have fY00_6 := Lib.hid oY00
  clear fX00_5 fX10_5 fW0_5 oY00 hb
  go_wp2_with fail
  refine (toQ_abs fX10_6.out).mono ?_
  rintro e w7 ⟨AY10, cY10, rfl, oY10, hb⟩
  have t7 := Lib.hid (after t6.out hb)
  have s7 := Lib.hid hb.size
  have fX00_7 := Lib.hid (fX00_6.out.below hb t6.out.size)
  have fX10_7 := Lib.hid (fX10_6.out.below hb t6.out.size)
  have fW0_7 := Lib.hid (fW0_6.out.below hb s6.out)
  have fY00_7 := Lib.hid (fY00_6.out.below hb (Nat.le_refl _))
  have fY10_7 := Lib.hid oY10
  clear fX00_6 fX10_6 fW0_6 fY00_6 oY10 hb
  go_wp2_with fail
  refine (MoversOf_abs fY00_7.out.rd fY10_7.out.rd).mono ?_
  rintro e w8 ⟨AG0, cG0, rfl, oG0, hb⟩
  have t8 := Lib.hid (after t7.out hb)
  have s8 := Lib.hid hb.size
  have fX00_8 := Lib.hid (fX00_7.out.below hb t7.out.size)
  have fX10_8 := Lib.hid (fX10_7.out.below hb t7.out.size)
  have fW0_8 := Lib.hid (fW0_7.out.below hb (Nat.le_trans s6.out s7.out))
  have fY00_8 := Lib.hid (fY00_7.out.below hb s7.out)
  have fY10_8 := Lib.hid (fY10_7.out.below hb (Nat.le_refl _))
  have fG0_8 := Lib.hid oG0
  clear fX00_7 fX10_7 fW0_7 fY00_7 fY10_7 oG0 hb
  go_wp2_with fail
  refine (eqI_abs fG0_8.out.rd fW0_8.out.rd).mono ?_
  rintro e w9 ⟨rfl, hb⟩
  have t9 := Lib.hid (after t8.out hb)
  have s9 := Lib.hid hb.size
  have fX00_9 := Lib.hid (fX00_8.out.below hb t8.out.size)
  have fX10_9 := Lib.hid (fX10_8.out.below hb t8.out.size)
  have fW0_9 := Lib.hid (fW0_8.out.below hb (Nat.le_trans s6.out (Nat.le_trans s7.out s8.out)))
  have fY00_9 := Lib.hid (fY00_8.out.below hb (Nat.le_trans s7.out s8.out))
  have fY10_9 := Lib.hid (fY10_8.out.below hb s8.out)
  have fG0_9 := Lib.hid (fG0_8.out.below hb (Nat.le_refl _))
  clear fX00_8 fX10_8 fW0_8 fY00_8 fY10_8 fG0_8 hb
  go_wp2_with fail
  refine (toR_abs fX00_9.out).mono ?_
  rintro e w10 ⟨AZ00, cZ00, rfl, oZ00, hb⟩
  have t10 := Lib.hid (after t9.out hb)
  have s10 := Lib.hid hb.size
  have fX00_10 := Lib.hid (fX00_9.out.below hb t9.out.size)
  have fX10_10 := Lib.hid (fX10_9.out.below hb t9.out.size)
  have fW0_10 := Lib.hid (fW0_9.out.below hb (Nat.le_trans s6.out (Nat.le_trans s7.out (Nat.le_trans s8.out s9.out))))
  have fY00_10 := Lib.hid (fY00_9.out.below hb (Nat.le_trans s7.out (Nat.le_trans s8.out s9.out)))
  have fY10_10 := Lib.hid (fY10_9.out.below hb (Nat.le_trans s8.out s9.out))
  have fG0_10 := Lib.hid (fG0_9.out.below hb s9.out)
  have fZ00_10 := Lib.hid oZ00
  clear fX00_9 fX10_9 fW0_9 fY00_9 fY10_9 fG0_9 oZ00 hb
  go_wp2_with fail
  refine (eqR_abs fY00_10.out.rd fZ00_10.out.rd).mono ?_
  rintro e w11 ⟨rfl, hb⟩
  have t11 := Lib.hid (after t10.out hb)
  have s11 := Lib.hid hb.size
  have fX00_11 := Lib.hid (fX00_10.out.below hb t10.out.size)
  have fX10_11 := Lib.hid (fX10_10.out.below hb t10.out.size)
  have fW0_11 := Lib.hid (fW0_10.out.below hb (Nat.le_trans s6.out (Nat.le_trans s7.out (Nat.le_trans s8.out (Nat.le_trans s9.out s10.out)))))
  have fY00_11 := Lib.hid (fY00_10.out.below hb (Nat.le_trans s7.out (Nat.le_trans s8.out (Nat.le_trans s9.out s10.out))))
  have fY10_11 := Lib.hid (fY10_10.out.below hb (Nat.le_trans s8.out (Nat.le_trans s9.out s10.out)))
  have fG0_11 := Lib.hid (fG0_10.out.below hb (Nat.le_trans s9.out s10.out))
  have fZ00_11 := Lib.hid (fZ00_10.out.below hb (Nat.le_refl _))
  clear fX00_10 fX10_10 fW0_10 fY00_10 fY10_10 fG0_10 fZ00_10 hb
  clear fZ00_11
  go_wp2_with fail
  refine (toQ_abs fX10_11.out).mono ?_
  rintro e w12 ⟨AZ10, cZ10, rfl, oZ10, hb⟩
  have t12 := Lib.hid (after t11.out hb)
  have s12 := Lib.hid hb.size
  have fX00_12 := Lib.hid (fX00_11.out.below hb t11.out.size)
  have fX10_12 := Lib.hid (fX10_11.out.below hb t11.out.size)
  have fW0_12 := Lib.hid (fW0_11.out.below hb (Nat.le_trans s6.out (Nat.le_trans s7.out (Nat.le_trans s8.out (Nat.le_trans s9.out (Nat.le_trans s10.out s11.out))))))
  have fY00_12 := Lib.hid (fY00_11.out.below hb (Nat.le_trans s7.out (Nat.le_trans s8.out (Nat.le_trans s9.out (Nat.le_trans s10.out s11.out)))))
  have fY10_12 := Lib.hid (fY10_11.out.below hb (Nat.le_trans s8.out (Nat.le_trans s9.out (Nat.le_trans s10.out s11.out))))
  have fG0_12 := Lib.hid (fG0_11.out.below hb (Nat.le_trans s9.out (Nat.le_trans s10.out s11.out)))
  have fZ10_12 := Lib.hid oZ10
  clear fX00_11 fX10_11 fW0_11 fY00_11 fY10_11 fG0_11 oZ10 hb
  go_wp2_with fail
  refine (eqQ_abs fY10_12.out.rd fZ10_12.out.rd).mono ?_
  rintro e w13 ⟨rfl, hb⟩
  have t13 := Lib.hid (after t12.out hb)
  have s13 := Lib.hid hb.size
  have fX00_13 := Lib.hid (fX00_12.out.below hb t12.out.size)
  have fX10_13 := Lib.hid (fX10_12.out.below hb t12.out.size)
  have fW0_13 := Lib.hid (fW0_12.out.below hb (Nat.le_trans s6.out (Nat.le_trans s7.out (Nat.le_trans s8.out (Nat.le_trans s9.out (Nat.le_trans s10.out (Nat.le_trans s11.out s12.out)))))))
  have fY00_13 := Lib.hid (fY00_12.out.below hb (Nat.le_trans s7.out (Nat.le_trans s8.out (Nat.le_trans s9.out (Nat.le_trans s10.out (Nat.le_trans s11.out s12.out))))))
  have fY10_13 := Lib.hid (fY10_12.out.below hb (Nat.le_trans s8.out (Nat.le_trans s9.out (Nat.le_trans s10.out (Nat.le_trans s11.out s12.out)))))
  have fG0_13 := Lib.hid (fG0_12.out.below hb (Nat.le_trans s9.out (Nat.le_trans s10.out (Nat.le_trans s11.out s12.out))))
  have fZ10_13 := Lib.hid (fZ10_12.out.below hb (Nat.le_refl _))
  clear fX00_12 fX10_12 fW0_12 fY00_12 fY10_12 fG0_12 fZ10_12 hb
  clear fZ10_13
  go_wp2_with fail
  have lnY00 := fY00_13.out.2.2.1
  refine (markR_abs' 1 1 (by simp) fY00_13.out (Nat.le_trans s7.out (Nat.le_trans s8.out (Nat.le_trans s9.out (Nat.le_trans s10.out (Nat.le_trans s11.out (Nat.le_trans s12.out s13.out)))))) (by omega) (by omega)).mono ?_
  rintro e w14 ⟨rfl, oY00, ho⟩
  have t14 := Lib.hid (t13.out.trans (ho.below (Nat.le_trans s6.out (Nat.le_trans s7.out (Nat.le_trans s8.out (Nat.le_trans s9.out (Nat.le_trans s10.out (Nat.le_trans s11.out (Nat.le_trans s12.out s13.out))))))) |>.mono t5.out.size))
  have s14 := Lib.hid ho.size
  have fX00_14 := Lib.hid (fX00_13.out.below (ho.below (Nat.le_trans s6.out (Nat.le_trans s7.out (Nat.le_trans s8.out (Nat.le_trans s9.out (Nat.le_trans s10.out (Nat.le_trans s11.out (Nat.le_trans s12.out s13.out)))))))) t5.out.size)
  have fX10_14 := Lib.hid (fX10_13.out.below (ho.below (Nat.le_trans s6.out (Nat.le_trans s7.out (Nat.le_trans s8.out (Nat.le_trans s9.out (Nat.le_trans s10.out (Nat.le_trans s11.out (Nat.le_trans s12.out s13.out)))))))) t5.out.size)
  have fW0_14 := Lib.hid (fW0_13.out.only ho (.inl (Nat.le_refl _)))
  have fY10_14 := Lib.hid (fY10_13.out.only ho (.inr (Nat.le_refl _)))
  have fG0_14 := Lib.hid (fG0_13.out.only ho (.inr s7.out))
  have fY00_14 := Lib.hid oY00
  clear fX00_13 fX10_13 fW0_13 fY10_13 fG0_13 fY00_13 oY00 ho
  go_wp2_with fail
  have lnY10 := fY10_14.out.2.2.1
  refine (markQ_abs' (1 + (7 * (xs).length)) (1 + (7 * ((xs).length : Int))) (by simp) fY10_14.out (Nat.le_trans s8.out (Nat.le_trans s9.out (Nat.le_trans s10.out (Nat.le_trans s11.out (Nat.le_trans s12.out (Nat.le_trans s13.out s14.out)))))) (by omega) (by omega)).mono ?_
  rintro e w15 ⟨rfl, oY10, ho⟩
  have t15 := Lib.hid (t14.out.trans (ho.below (Nat.le_trans s7.out (Nat.le_trans s8.out (Nat.le_trans s9.out (Nat.le_trans s10.out (Nat.le_trans s11.out (Nat.le_trans s12.out (Nat.le_trans s13.out s14.out))))))) |>.mono t6.out.size))
  have s15 := Lib.hid ho.size
  have fX00_15 := Lib.hid (fX00_14.out.below (ho.below (Nat.le_trans s7.out (Nat.le_trans s8.out (Nat.le_trans s9.out (Nat.le_trans s10.out (Nat.le_trans s11.out (Nat.le_trans s12.out (Nat.le_trans s13.out s14.out)))))))) t6.out.size)
  have fX10_15 := Lib.hid (fX10_14.out.below (ho.below (Nat.le_trans s7.out (Nat.le_trans s8.out (Nat.le_trans s9.out (Nat.le_trans s10.out (Nat.le_trans s11.out (Nat.le_trans s12.out (Nat.le_trans s13.out s14.out)))))))) t6.out.size)
  have fW0_15 := Lib.hid (fW0_14.out.only ho (.inl s6.out))
  have fY00_15 := Lib.hid (fY00_14.out.only ho (.inl (Nat.le_refl _)))
  have fG0_15 := Lib.hid (fG0_14.out.only ho (.inr (Nat.le_refl _)))
  have fY10_15 := Lib.hid oY10
  clear fX00_14 fX10_14 fW0_14 fY00_14 fG0_14 fY10_14 oY10 ho
  clear fY00_15 fY10_15
  go_wp2_with fail
  refine (eqI_abs fG0_15.out.rd fW0_15.out.rd).mono ?_
  rintro e w16 ⟨rfl, hb⟩
  have t16 := Lib.hid (after t15.out hb)
  have s16 := Lib.hid hb.size
  have fX00_16 := Lib.hid (fX00_15.out.below hb t15.out.size)
  have fX10_16 := Lib.hid (fX10_15.out.below hb t15.out.size)
  have fW0_16 := Lib.hid (fW0_15.out.below hb (Nat.le_trans s6.out (Nat.le_trans s7.out (Nat.le_trans s8.out (Nat.le_trans s9.out (Nat.le_trans s10.out (Nat.le_trans s11.out (Nat.le_trans s12.out (Nat.le_trans s13.out (Nat.le_trans s14.out s15.out))))))))))
  have fG0_16 := Lib.hid (fG0_15.out.below hb (Nat.le_trans s9.out (Nat.le_trans s10.out (Nat.le_trans s11.out (Nat.le_trans s12.out (Nat.le_trans s13.out (Nat.le_trans s14.out s15.out)))))))
  clear fX00_15 fX10_15 fW0_15 fG0_15 hb
  go_wp2_with fail
  have lnG0 := fG0_16.out.2.2.1
  refine (markI_abs' 1 1 (by simp) fG0_16.out (Nat.le_trans s9.out (Nat.le_trans s10.out (Nat.le_trans s11.out (Nat.le_trans s12.out (Nat.le_trans s13.out (Nat.le_trans s14.out (Nat.le_trans s15.out s16.out))))))) (by omega) (by omega)).mono ?_
  rintro e w17 ⟨rfl, oG0, ho⟩
  have t17 := Lib.hid (t16.out.trans (ho.below (Nat.le_trans s8.out (Nat.le_trans s9.out (Nat.le_trans s10.out (Nat.le_trans s11.out (Nat.le_trans s12.out (Nat.le_trans s13.out (Nat.le_trans s14.out (Nat.le_trans s15.out s16.out)))))))) |>.mono t7.out.size))
  have s17 := Lib.hid ho.size
  have fX00_17 := Lib.hid (fX00_16.out.below (ho.below (Nat.le_trans s8.out (Nat.le_trans s9.out (Nat.le_trans s10.out (Nat.le_trans s11.out (Nat.le_trans s12.out (Nat.le_trans s13.out (Nat.le_trans s14.out (Nat.le_trans s15.out s16.out))))))))) t7.out.size)
  have fX10_17 := Lib.hid (fX10_16.out.below (ho.below (Nat.le_trans s8.out (Nat.le_trans s9.out (Nat.le_trans s10.out (Nat.le_trans s11.out (Nat.le_trans s12.out (Nat.le_trans s13.out (Nat.le_trans s14.out (Nat.le_trans s15.out s16.out))))))))) t7.out.size)
  have fW0_17 := Lib.hid (fW0_16.out.only ho (.inl (Nat.le_trans s6.out s7.out)))
  have fG0_17 := Lib.hid oG0
  clear fX00_16 fX10_16 fW0_16 fG0_16 oG0 ho
  go_wp2_with fail
  refine (heldI_abs' 1 1 (by simp) fG0_17.out.rd (by omega) (by omega)).mono ?_
  rintro e w18 ⟨rfl, hb⟩
  have t18 := Lib.hid (after t17.out hb)
  have s18 := Lib.hid hb.size
  have fX00_18 := Lib.hid (fX00_17.out.below hb t17.out.size)
  have fX10_18 := Lib.hid (fX10_17.out.below hb t17.out.size)
  have fW0_18 := Lib.hid (fW0_17.out.below hb (Nat.le_trans s6.out (Nat.le_trans s7.out (Nat.le_trans s8.out (Nat.le_trans s9.out (Nat.le_trans s10.out (Nat.le_trans s11.out (Nat.le_trans s12.out (Nat.le_trans s13.out (Nat.le_trans s14.out (Nat.le_trans s15.out (Nat.le_trans s16.out s17.out))))))))))))
  have fG0_18 := Lib.hid (fG0_17.out.below hb (Nat.le_trans s9.out (Nat.le_trans s10.out (Nat.le_trans s11.out (Nat.le_trans s12.out (Nat.le_trans s13.out (Nat.le_trans s14.out (Nat.le_trans s15.out (Nat.le_trans s16.out s17.out)))))))))
  clear fX00_17 fX10_17 fW0_17 fG0_17 hb
  go_wp2_with fail
  refine (toR_abs fX00_18.out).mono ?_
  rintro e w19 ⟨AHa00, cHa00, rfl, oHa00, hb⟩
  have t19 := Lib.hid (after t18.out hb)
  have s19 := Lib.hid hb.size
  have fX00_19 := Lib.hid (fX00_18.out.below hb t18.out.size)
  have fX10_19 := Lib.hid (fX10_18.out.below hb t18.out.size)
  have fW0_19 := Lib.hid (fW0_18.out.below hb (Nat.le_trans s6.out (Nat.le_trans s7.out (Nat.le_trans s8.out (Nat.le_trans s9.out (Nat.le_trans s10.out (Nat.le_trans s11.out (Nat.le_trans s12.out (Nat.le_trans s13.out (Nat.le_trans s14.out (Nat.le_trans s15.out (Nat.le_trans s16.out (Nat.le_trans s17.out s18.out)))))))))))))
  have fG0_19 := Lib.hid (fG0_18.out.below hb (Nat.le_trans s9.out (Nat.le_trans s10.out (Nat.le_trans s11.out (Nat.le_trans s12.out (Nat.le_trans s13.out (Nat.le_trans s14.out (Nat.le_trans s15.out (Nat.le_trans s16.out (Nat.le_trans s17.out s18.out))))))))))
  have fHa00_19 := Lib.hid oHa00
  clear fX00_18 fX10_18 fW0_18 fG0_18 oHa00 hb
  go_wp2_with fail
  refine (toQ_abs fX10_19.out).mono ?_
  rintro e w20 ⟨AHa10, cHa10, rfl, oHa10, hb⟩
  have t20 := Lib.hid (after t19.out hb)
  have s20 := Lib.hid hb.size
  have fX00_20 := Lib.hid (fX00_19.out.below hb t19.out.size)
  have fX10_20 := Lib.hid (fX10_19.out.below hb t19.out.size)
  have fW0_20 := Lib.hid (fW0_19.out.below hb (Nat.le_trans s6.out (Nat.le_trans s7.out (Nat.le_trans s8.out (Nat.le_trans s9.out (Nat.le_trans s10.out (Nat.le_trans s11.out (Nat.le_trans s12.out (Nat.le_trans s13.out (Nat.le_trans s14.out (Nat.le_trans s15.out (Nat.le_trans s16.out (Nat.le_trans s17.out (Nat.le_trans s18.out s19.out))))))))))))))
  have fG0_20 := Lib.hid (fG0_19.out.below hb (Nat.le_trans s9.out (Nat.le_trans s10.out (Nat.le_trans s11.out (Nat.le_trans s12.out (Nat.le_trans s13.out (Nat.le_trans s14.out (Nat.le_trans s15.out (Nat.le_trans s16.out (Nat.le_trans s17.out (Nat.le_trans s18.out s19.out)))))))))))
  have fHa00_20 := Lib.hid (fHa00_19.out.below hb (Nat.le_refl _))
  have fHa10_20 := Lib.hid oHa10
  clear fX00_19 fX10_19 fW0_19 fG0_19 fHa00_19 oHa10 hb
  go_wp2_with fail
  refine (MoversOf_abs fHa00_20.out.rd fHa10_20.out.rd).mono ?_
  rintro e w21 ⟨AH0, cH0, rfl, oH0, hb⟩
  have t21 := Lib.hid (after t20.out hb)
  have s21 := Lib.hid hb.size
  have fX00_21 := Lib.hid (fX00_20.out.below hb t20.out.size)
  have fX10_21 := Lib.hid (fX10_20.out.below hb t20.out.size)
  have fW0_21 := Lib.hid (fW0_20.out.below hb (Nat.le_trans s6.out (Nat.le_trans s7.out (Nat.le_trans s8.out (Nat.le_trans s9.out (Nat.le_trans s10.out (Nat.le_trans s11.out (Nat.le_trans s12.out (Nat.le_trans s13.out (Nat.le_trans s14.out (Nat.le_trans s15.out (Nat.le_trans s16.out (Nat.le_trans s17.out (Nat.le_trans s18.out (Nat.le_trans s19.out s20.out)))))))))))))))
  have fG0_21 := Lib.hid (fG0_20.out.below hb (Nat.le_trans s9.out (Nat.le_trans s10.out (Nat.le_trans s11.out (Nat.le_trans s12.out (Nat.le_trans s13.out (Nat.le_trans s14.out (Nat.le_trans s15.out (Nat.le_trans s16.out (Nat.le_trans s17.out (Nat.le_trans s18.out (Nat.le_trans s19.out s20.out))))))))))))
  have fHa00_21 := Lib.hid (fHa00_20.out.below hb s20.out)
  have fHa10_21 := Lib.hid (fHa10_20.out.below hb (Nat.le_refl _))
  have fH0_21 := Lib.hid oH0
  clear fX00_20 fX10_20 fW0_20 fG0_20 fHa00_20 fHa10_20 oH0 hb
  clear fHa00_21 fHa10_21
  go_wp2_with fail
  refine (eqI_abs fH0_21.out.rd fW0_21.out.rd).mono ?_
  rintro e w22 ⟨rfl, hb⟩
  have t22 := Lib.hid (after t21.out hb)
  have s22 := Lib.hid hb.size
  have fX00_22 := Lib.hid (fX00_21.out.below hb t21.out.size)
  have fX10_22 := Lib.hid (fX10_21.out.below hb t21.out.size)
  have fW0_22 := Lib.hid (fW0_21.out.below hb (Nat.le_trans s6.out (Nat.le_trans s7.out (Nat.le_trans s8.out (Nat.le_trans s9.out (Nat.le_trans s10.out (Nat.le_trans s11.out (Nat.le_trans s12.out (Nat.le_trans s13.out (Nat.le_trans s14.out (Nat.le_trans s15.out (Nat.le_trans s16.out (Nat.le_trans s17.out (Nat.le_trans s18.out (Nat.le_trans s19.out (Nat.le_trans s20.out s21.out))))))))))))))))
  have fG0_22 := Lib.hid (fG0_21.out.below hb (Nat.le_trans s9.out (Nat.le_trans s10.out (Nat.le_trans s11.out (Nat.le_trans s12.out (Nat.le_trans s13.out (Nat.le_trans s14.out (Nat.le_trans s15.out (Nat.le_trans s16.out (Nat.le_trans s17.out (Nat.le_trans s18.out (Nat.le_trans s19.out (Nat.le_trans s20.out s21.out)))))))))))))
  have fH0_22 := Lib.hid (fH0_21.out.below hb (Nat.le_refl _))
  clear fX00_21 fX10_21 fW0_21 fG0_21 fH0_21 hb
  go_wp2_with fail
  refine (heldI_abs' 1 1 (by simp) fG0_22.out.rd (by omega) (by omega)).mono ?_
  rintro e w23 ⟨rfl, hb⟩
  have t23 := Lib.hid (after t22.out hb)
  have s23 := Lib.hid hb.size
  have fX00_23 := Lib.hid (fX00_22.out.below hb t22.out.size)
  have fX10_23 := Lib.hid (fX10_22.out.below hb t22.out.size)
  have fW0_23 := Lib.hid (fW0_22.out.below hb (Nat.le_trans s6.out (Nat.le_trans s7.out (Nat.le_trans s8.out (Nat.le_trans s9.out (Nat.le_trans s10.out (Nat.le_trans s11.out (Nat.le_trans s12.out (Nat.le_trans s13.out (Nat.le_trans s14.out (Nat.le_trans s15.out (Nat.le_trans s16.out (Nat.le_trans s17.out (Nat.le_trans s18.out (Nat.le_trans s19.out (Nat.le_trans s20.out (Nat.le_trans s21.out s22.out)))))))))))))))))
  have fG0_23 := Lib.hid (fG0_22.out.below hb (Nat.le_trans s9.out (Nat.le_trans s10.out (Nat.le_trans s11.out (Nat.le_trans s12.out (Nat.le_trans s13.out (Nat.le_trans s14.out (Nat.le_trans s15.out (Nat.le_trans s16.out (Nat.le_trans s17.out (Nat.le_trans s18.out (Nat.le_trans s19.out (Nat.le_trans s20.out (Nat.le_trans s21.out s22.out))))))))))))))
  have fH0_23 := Lib.hid (fH0_22.out.below hb s22.out)
  clear fX00_22 fX10_22 fW0_22 fG0_22 fH0_22 hb
  go_wp2
  go_ret
  exact ⟨rfl, t23.out⟩
end fnExactMoversOf
end Go.Proofs.Ytajbbinphnekiaa
