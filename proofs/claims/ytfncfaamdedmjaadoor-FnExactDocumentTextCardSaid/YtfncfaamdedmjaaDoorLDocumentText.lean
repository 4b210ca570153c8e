/- The walk of the law on DocumentText: it returns true. Conditions: none. -/
import Derived.Test.YtfncfaamdedmjaaDoorDs5
namespace Go.Proofs.YtfncfaamdedmjaaDoor
open Go.RowKit
set_option linter.unusedVariables false
namespace fnExactDocumentText
set_option maxRecDepth 100000 in
set_option maxHeartbeats 4000000 in
theorem walk (AX00 : Option Addr) (cX00 : Nat) (xs : List Sec) (w : World) (hx00 : (xs).length ≤ cX00 ∧ Cells w AX00 (SectionK.row xs) ∧ (xs).length ≤ maxLen ∧ ∀ x ∈ xs, SectionK.fit x) :
    Calls Tryd.prog 5 #[.slice AX00 (xs).length cX00] w fun e w' => e = .returned (.bool true) ∧ Below w.heap.size w w' := by
  have fX00_i := Lib.hid (show Rd0 SectionK w.heap.size w AX00 cX00 xs from ⟨hx00.1, CellsB.of_cells hx00.2.1, hx00.2.2⟩)
  clear hx00
  go_enter Tryd.func5, Tryd.ntmps5
  have t0 := Lib.hid (Below.refl w.heap.size w)
  have fX00_0 := Lib.hid (fX00_i.out.below t0.out (Nat.le_refl _))
  go_wp2_with fail
  clear fX00_i
  refine (szSc_abs (1048576) fX00_0.out (by omega) (by omega)).mono ?_
  rintro e w1 ⟨rfl, hb⟩
  have t1 := Lib.hid (after t0.out hb)
  have s1 := Lib.hid hb.size
  have fX00_1 := Lib.hid (fX00_0.out.below hb t0.out.size)
  clear fX00_0 hb
  rcases Int.lt_or_le ((szSc_of xs) (1048576)) 0 with hz | hz
  · go_wp2_with fail
    go_ret
    exact ⟨rfl, t1.out⟩
  have hz0 : ¬ (szSc_of xs) (1048576) < 0 := by omega
  obtain ⟨fit0, lo0, hi0⟩ := szSc_fit hz0 (by omega)
  have FT0 := Lib.hid fit0
  clear fit0 hz
  have fX00_1r := Lib.hid (fX00_1.out.rd (FT0.out))
  clear fX00_1
  go_wp2_with fail
  refine (toSc_abs fX00_1r.out).mono ?_
  rintro e w2 ⟨AWa00, cWa00, rfl, oWa00, hb⟩
  have t2 := Lib.hid (after t1.out hb)
  have s2 := Lib.hid hb.size
  have fX00_2 := Lib.hid (fX00_1r.out.below hb t1.out.size)
  have fWa00_2 := Lib.hid oWa00
  clear fX00_1r oWa00 hb
  go_wp2_with fail
  refine (sDocumentText_abs fWa00_2.out.rd).mono ?_
  rintro e w3 ⟨rfl, hb⟩
  have t3 := Lib.hid (after t2.out hb)
  have s3 := Lib.hid hb.size
  have fX00_3 := Lib.hid (fX00_2.out.below hb t2.out.size)
  have fWa00_3 := Lib.hid (fWa00_2.out.below hb (Nat.le_refl _))
  clear fX00_2 fWa00_2 hb
  clear fWa00_3
  go_wp2_with fail
  refine (toSc_abs fX00_3.out).mono ?_
  rintro e w4 ⟨AY00, cY00, rfl, oY00, hb⟩
  have t4 := Lib.hid (after t3.out hb)
  have s4 := Lib.hid hb.size
  have fX00_4 := Lib.hid (fX00_3.out.below hb t3.out.size)
  have fY00_4 := Lib.hid oY00
  clear fX00_3 oY00 hb
  go_wp2_with fail
  refine (DocumentText_abs fY00_4.out.rd).mono ?_
  rintro e w5 ⟨rfl, hb⟩
  have t5 := Lib.hid (after t4.out hb)
  have s5 := Lib.hid hb.size
  have fX00_5 := Lib.hid (fX00_4.out.below hb t4.out.size)
  have fY00_5 := Lib.hid (fY00_4.out.below hb (Nat.le_refl _))
  clear fX00_4 fY00_4 hb
  go_wp2_with fail
  refine (toSc_abs fX00_5.out).mono ?_
  rintro e w6 ⟨AZ00, cZ00, rfl, oZ00, hb⟩
  have t6 := Lib.hid (after t5.out hb)
  have s6 := Lib.hid hb.size
  have fX00_6 := Lib.hid (fX00_5.out.below hb t5.out.size)
  have fY00_6 := Lib.hid (fY00_5.out.below hb s5.out)
  have fZ00_6 := Lib.hid oZ00
  clear fX00_5 fY00_5 oZ00 hb
  go_wp2_with fail
  refine (eqSc_abs fY00_6.out.rd fZ00_6.out.rd).mono ?_
  rintro e w7 ⟨rfl, hb⟩
  have t7 := Lib.hid (after t6.out hb)
  have s7 := Lib.hid hb.size
  have fX00_7 := Lib.hid (fX00_6.out.below hb t6.out.size)
  have fY00_7 := Lib.hid (fY00_6.out.below hb (Nat.le_trans s5.out s6.out))
  have fZ00_7 := Lib.hid (fZ00_6.out.below hb (Nat.le_refl _))
  clear fX00_6 fY00_6 fZ00_6 hb
  clear fZ00_7
  go_wp2
  go_ret
  exact ⟨rfl, t7.out⟩
end fnExactDocumentText
end Go.Proofs.YtfncfaamdedmjaaDoor
