/- The walk of the law on SpeakFor: it returns true. Conditions: none. -/
import Derived.Test.YtbpikbcnpmplfaaFlM
import Derived.Test.YtbpikbcnpmplfaaSs9
namespace Go.Proofs.Ytbpikbcnpmplfaa
open Go.RowKit
set_option linter.unusedVariables false

section
variable {B B' : Nat} {w : World} {A D : Option Addr} {c d : Nat} {f : Flr}
theorem SpeakFor_abs (h : Rd IntK B w A c f.wt) (h' : Rd ShareK B' w D d f.sh) (m : Int) : Calls Try.prog 15 #[.agg #[.int .i64 f.t, .int .i64 f.s, .int .i64 f.sp, .slice A f.wt.length c, .slice D f.sh.length d], .int .i64 m] w (ToFNB w (sfF f m) (sfN f m) (sfB f m)) :=
  SpeakFor_any A D c d f m w h.cells h.2.2.1 h.1 h'.cells h'.2.2.1
theorem sSpeakFor_abs (h : Rd IntK B w A c f.wt) (h' : Rd ShareK B' w D d f.sh) (m : Int) : Calls Try.prog 14 #[.agg #[.int .i64 f.t, .int .i64 f.s, .int .i64 f.sp, .slice A f.wt.length c, .slice D f.sh.length d], .int .i64 m] w (ToFNB w (sfF f m) (sfN f m) (sfB f m)) :=
  sSpeakFor_any A D c d f m w h.cells h.2.2.1 h.1 h'.cells h'.1 h'.2.2.1
end
namespace fnExactSpeakFor
set_option maxRecDepth 100000 in
set_option maxHeartbeats 4000000 in
theorem walk (AX00 : Option Addr) (cX00 : Nat) (AX01 : Option Addr) (cX01 : Nat) (f : Flr) (m : Int) (w : World) (hx00 : ((f).wt).length ≤ cX00 ∧ Cells w AX00 (IntK.row (f).wt) ∧ ((f).wt).length ≤ maxLen ∧ ∀ x ∈ (f).wt, IntK.fit x) (hx01 : ((f).sh).length ≤ cX01 ∧ Cells w AX01 (ShareK.row (f).sh) ∧ ((f).sh).length ≤ maxLen ∧ ∀ x ∈ (f).sh, ShareK.fit x) (wi1 : (Lit.int .i64 m).wf = true) :
    Calls Try.prog 4 #[.agg #[.int .i64 (f).t, .int .i64 (f).s, .int .i64 (f).sp, .slice AX00 ((f).wt).length cX00, .slice AX01 ((f).sh).length cX01], .int .i64 m] w fun e w' => e = .returned (.bool true) ∧ Below w.heap.size w w' := by
  have fX00_i := Lib.hid (show Rd0 IntK w.heap.size w AX00 cX00 (f).wt from ⟨hx00.1, CellsB.of_cells hx00.2.1, hx00.2.2⟩)
  have fX01_i := Lib.hid (show Rd0 ShareK w.heap.size w AX01 cX01 (f).sh from ⟨hx01.1, CellsB.of_cells hx01.2.1, hx01.2.2⟩)
  clear hx00 hx01
  go_enter Try.func4, Try.ntmps4
  have t0 : Below w.heap.size w (w.alloc (.cells #[.int .i64 (f).t, .int .i64 (f).s, .int .i64 (f).sp, .slice AX00 ((f).wt).length cX00, .slice AX01 ((f).sh).length cX01] 25)) := by go_grown
  have nb0 : BoxL (w.alloc (.cells #[.int .i64 (f).t, .int .i64 (f).s, .int .i64 (f).sp, .slice AX00 ((f).wt).length cX00, .slice AX01 ((f).sh).length cX01] 25)).heap.size (w.alloc (.cells #[.int .i64 (f).t, .int .i64 (f).s, .int .i64 (f).sp, .slice AX00 ((f).wt).length cX00, .slice AX01 ((f).sh).length cX01] 25)) (w.heap.size) (#[.int .i64 (f).t, .int .i64 (f).s, .int .i64 (f).sp, .slice AX00 ((f).wt).length cX00, .slice AX01 ((f).sh).length cX01] : Array Value).toList := by
    refine ⟨by simp only [World.size_alloc]; omega, fun i v hi => ?_⟩
    have h1 := (BoxL.new w #[.int .i64 (f).t, .int .i64 (f).s, .int .i64 (f).sp, .slice AX00 ((f).wt).length cX00, .slice AX01 ((f).sh).length cX01] 25).2 i v hi
    simpa using h1
  go_wp2_with fail
  generalize (w.alloc (.cells #[.int .i64 (f).t, .int .i64 (f).s, .int .i64 (f).sp, .slice AX00 ((f).wt).length cX00, .slice AX01 ((f).sh).length cX01] 25)) = w0 at *
  have bX0_0 := Lib.hid nb0
  have T0 := Lib.hid t0
  clear t0
  have t0 := T0
  have fX00_0 := Lib.hid (fX00_i.out.below t0.out (Nat.le_refl _))
  have fX01_0 := Lib.hid (fX01_i.out.below t0.out (Nat.le_refl _))
  clear nb0 T0 fX00_i fX01_i
  refine (szFl_abs (1048576) fX00_0.out fX01_0.out (by omega) (by omega)).mono ?_
  rintro e w1 ⟨rfl, hb⟩
  have t1 := Lib.hid (after t0.out hb)
  have s1 := Lib.hid hb.size
  have fX00_1 := Lib.hid (fX00_0.out.below hb t0.out.size)
  have fX01_1 := Lib.hid (fX01_0.out.below hb t0.out.size)
  have bX0_1 := Lib.hid (bX0_0.out.below hb (Nat.le_refl _))
  clear fX00_0 fX01_0 bX0_0 hb
  rcases Int.lt_or_le ((szF (f)) (1048576)) 0 with hz | hz
  · go_wp2_with fail
    go_ret
    exact ⟨rfl, t1.out⟩
  have hz0 : ¬ (szF (f)) (1048576) < 0 := by omega
  obtain ⟨fit0, lo0, hi0⟩ := szF_fit hz0 (by omega)
  have FT0 := Lib.hid fit0
  clear fit0 hz
  have fX00_1r := Lib.hid (fX00_1.out.rd (FT0.out.1))
  have fX01_1r := Lib.hid (fX01_1.out.rd (FT0.out.2))
  clear fX00_1 fX01_1
  have eX00 := bX0_1.out.2 0 _ rfl
  have eX01 := bX0_1.out.2 1 _ rfl
  have eX02 := bX0_1.out.2 2 _ rfl
  have eX03 := bX0_1.out.2 3 _ rfl
  have eX04 := bX0_1.out.2 4 _ rfl
  have zX0 := Nat.lt_of_lt_of_le bX0_1.out.1 s1.out
  go_wp2_with fail
  clear eX00 eX01 eX02 eX03 eX04 zX0
  refine (toFl_abs fX00_1r.out fX01_1r.out).mono ?_
  rintro e w2 ⟨AWa00, cWa00, AWa01, cWa01, rfl, oWa00, oWa01, hb⟩
  have t2 := Lib.hid (after t1.out hb)
  have s2 := Lib.hid hb.size
  have fX00_2 := Lib.hid (fX00_1r.out.below hb t1.out.size)
  have fX01_2 := Lib.hid (fX01_1r.out.below hb t1.out.size)
  have bX0_2 := Lib.hid (bX0_1.out.below hb s1.out)
  have fWa00_2 := Lib.hid oWa00
  have fWa01_2 := Lib.hid oWa01
  clear fX00_1r fX01_1r bX0_1 oWa00 oWa01 hb
  have eX00 := bX0_2.out.2 0 _ rfl
  have eX01 := bX0_2.out.2 1 _ rfl
  have eX02 := bX0_2.out.2 2 _ rfl
  have eX03 := bX0_2.out.2 3 _ rfl
  have eX04 := bX0_2.out.2 4 _ rfl
  have zX0 := Nat.lt_of_lt_of_le bX0_2.out.1 (Nat.le_trans s1.out s2.out)
  go_wp2_with fail
  clear eX00 eX01 eX02 eX03 eX04 zX0
  refine (sSpeakFor_abs fWa00_2.out.rd fWa01_2.out.rd m).mono ?_
  rintro e w3 ⟨AW0, cW0, AW1, cW1, rfl, oW0, oW1, hb⟩
  have t3 := Lib.hid (after t2.out hb)
  have s3 := Lib.hid hb.size
  have fX00_3 := Lib.hid (fX00_2.out.below hb t2.out.size)
  have fX01_3 := Lib.hid (fX01_2.out.below hb t2.out.size)
  have bX0_3 := Lib.hid (bX0_2.out.below hb (Nat.le_trans s1.out s2.out))
  have fWa00_3 := Lib.hid (fWa00_2.out.below hb (Nat.le_refl _))
  have fWa01_3 := Lib.hid (fWa01_2.out.below hb (Nat.le_refl _))
  have fW0_3 := Lib.hid oW0
  have fW1_3 := Lib.hid oW1
  clear fX00_2 fX01_2 bX0_2 fWa00_2 fWa01_2 oW0 oW1 hb
  clear fWa00_3 fWa01_3
  have nb := (BoxL.new w3 #[.int .i64 (sfF f m).t, .int .i64 (sfF f m).s, .int .i64 (sfF f m).sp, .slice AW0 ((sfF f m).wt).length cW0, .slice AW1 ((sfF f m).sh).length cW1] 29).mono (show w3.heap.size + 1 ≤ (w3.alloc (.cells #[.int .i64 (sfF f m).t, .int .i64 (sfF f m).s, .int .i64 (sfF f m).sp, .slice AW0 ((sfF f m).wt).length cW0, .slice AW1 ((sfF f m).sh).length cW1] 29)).heap.size by simp)
  have hb : Below w3.heap.size w3 (w3.alloc (.cells #[.int .i64 (sfF f m).t, .int .i64 (sfF f m).s, .int .i64 (sfF f m).sp, .slice AW0 ((sfF f m).wt).length cW0, .slice AW1 ((sfF f m).sh).length cW1] 29)) := by go_grown
  have eX00 := bX0_3.out.2 0 _ rfl
  have eX01 := bX0_3.out.2 1 _ rfl
  have eX02 := bX0_3.out.2 2 _ rfl
  have eX03 := bX0_3.out.2 3 _ rfl
  have eX04 := bX0_3.out.2 4 _ rfl
  have zX0 := Nat.lt_of_lt_of_le bX0_3.out.1 (Nat.le_trans s1.out (Nat.le_trans s2.out s3.out))
  go_wp2_with fail
  clear eX00 eX01 eX02 eX03 eX04 zX0
  generalize w3.alloc (.cells #[.int .i64 (sfF f m).t, .int .i64 (sfF f m).s, .int .i64 (sfF f m).sp, .slice AW0 ((sfF f m).wt).length cW0, .slice AW1 ((sfF f m).sh).length cW1] 29) = w4 at *
  have t4 := Lib.hid (after t3.out hb)
  have s4 := Lib.hid hb.size
  have fX00_4 := Lib.hid (fX00_3.out.below hb t3.out.size)
  have fX01_4 := Lib.hid (fX01_3.out.below hb t3.out.size)
  have bX0_4 := Lib.hid (bX0_3.out.below hb (Nat.le_trans s1.out (Nat.le_trans s2.out s3.out)))
  have fW0_4 := Lib.hid (fW0_3.out.below hb (Nat.le_refl _))
  have fW1_4 := Lib.hid (fW1_3.out.below hb (Nat.le_refl _))
  have bW_4 := Lib.hid nb
  clear fX00_3 fX01_3 bX0_3 fW0_3 fW1_3 nb hb
  have eX00 := bX0_4.out.2 0 _ rfl
  have eX01 := bX0_4.out.2 1 _ rfl
  have eX02 := bX0_4.out.2 2 _ rfl
  have eX03 := bX0_4.out.2 3 _ rfl
  have eX04 := bX0_4.out.2 4 _ rfl
  have zX0 := Nat.lt_of_lt_of_le bX0_4.out.1 (Nat.le_trans s1.out (Nat.le_trans s2.out (Nat.le_trans s3.out s4.out)))
  have eW0 := bW_4.out.2 0 _ rfl
  have eW1 := bW_4.out.2 1 _ rfl
  have eW2 := bW_4.out.2 2 _ rfl
  have eW3 := bW_4.out.2 3 _ rfl
  have eW4 := bW_4.out.2 4 _ rfl
  have zW := Nat.lt_of_lt_of_le bW_4.out.1 (Nat.le_refl _)
  go_wp2_with fail
  clear eX00 eX01 eX02 eX03 eX04 zX0 eW0 eW1 eW2 eW3 eW4 zW
  refine (toFl_abs fX00_4.out fX01_4.out).mono ?_
  rintro e w5 ⟨AY00, cY00, AY01, cY01, rfl, oY00, oY01, hb⟩
  have t5 := Lib.hid (after t4.out hb)
  have s5 := Lib.hid hb.size
  have fX00_5 := Lib.hid (fX00_4.out.below hb t4.out.size)
  have fX01_5 := Lib.hid (fX01_4.out.below hb t4.out.size)
  have bX0_5 := Lib.hid (bX0_4.out.below hb (Nat.le_trans s1.out (Nat.le_trans s2.out (Nat.le_trans s3.out s4.out))))
  have fW0_5 := Lib.hid (fW0_4.out.below hb s4.out)
  have fW1_5 := Lib.hid (fW1_4.out.below hb s4.out)
  have bW_5 := Lib.hid (bW_4.out.below hb (Nat.le_refl _))
  have fY00_5 := Lib.hid oY00
  have fY01_5 := Lib.hid oY01
  clear fX00_4 fX01_4 bX0_4 fW0_4 fW1_4 bW_4 oY00 oY01 hb
  have nb := (BoxL.new w5 #[.int .i64 (f).t, .int .i64 (f).s, .int .i64 (f).sp, .slice AY00 ((f).wt).length cY00, .slice AY01 ((f).sh).length cY01] 29).mono (show w5.heap.size + 1 ≤ (w5.alloc (.cells #[.int .i64 (f).t, .int .i64 (f).s, .int .i64 (f).sp, .slice AY00 ((f).wt).length cY00, .slice AY01 ((f).sh).length cY01] 29)).heap.size by simp)
  have hb : Below w5.heap.size w5 (w5.alloc (.cells #[.int .i64 (f).t, .int .i64 (f).s, .int .i64 (f).sp, .slice AY00 ((f).wt).length cY00, .slice AY01 ((f).sh).length cY01] 29)) := by go_grown
  have eX00 := bX0_5.out.2 0 _ rfl
  have eX01 := bX0_5.out.2 1 _ rfl
  have eX02 := bX0_5.out.2 2 _ rfl
  have eX03 := bX0_5.out.2 3 _ rfl
  have eX04 := bX0_5.out.2 4 _ rfl
  have zX0 := Nat.lt_of_lt_of_le bX0_5.out.1 (Nat.le_trans s1.out (Nat.le_trans s2.out (Nat.le_trans s3.out (Nat.le_trans s4.out s5.out))))
  have eW0 := bW_5.out.2 0 _ rfl
  have eW1 := bW_5.out.2 1 _ rfl
  have eW2 := bW_5.out.2 2 _ rfl
  have eW3 := bW_5.out.2 3 _ rfl
  have eW4 := bW_5.out.2 4 _ rfl
  have zW := Nat.lt_of_lt_of_le bW_5.out.1 s5.out
  go_wp2_with fail
  clear eX00 eX01 eX02 eX03 eX04 zX0 eW0 eW1 eW2 eW3 eW4 zW
  generalize w5.alloc (.cells #[.int .i64 (f).t, .int .i64 (f).s, .int .i64 (f).sp, .slice AY00 ((f).wt).length cY00, .slice AY01 ((f).sh).length cY01] 29) = w6 at *
  have t6 := Lib.hid (after t5.out hb)
  have s6 := Lib.hid hb.size
  have fX00_6 := Lib.hid (fX00_5.out.below hb t5.out.size)
  have fX01_6 := Lib.hid (fX01_5.out.below hb t5.out.size)
  have bX0_6 := Lib.hid (bX0_5.out.below hb (Nat.le_trans s1.out (Nat.le_trans s2.out (Nat.le_trans s3.out (Nat.le_trans s4.out s5.out)))))
  have fW0_6 := Lib.hid (fW0_5.out.below hb (Nat.le_trans s4.out s5.out))
  have fW1_6 := Lib.hid (fW1_5.out.below hb (Nat.le_trans s4.out s5.out))
  have bW_6 := Lib.hid (bW_5.out.below hb s5.out)
  have fY00_6 := Lib.hid (fY00_5.out.below hb (Nat.le_refl _))
  have fY01_6 := Lib.hid (fY01_5.out.below hb (Nat.le_refl _))
  have bY0_6 := Lib.hid nb
  clear fX00_5 fX01_5 bX0_5 fW0_5 fW1_5 bW_5 fY00_5 fY01_5 nb hb
  refine (SpeakFor_abs fY00_6.out.rd fY01_6.out.rd m).mono ?_
  rintro e w7 ⟨AG0, cG0, AG1, cG1, rfl, oG0, oG1, hb⟩
  have t7 := Lib.hid (after t6.out hb)
  have s7 := Lib.hid hb.size
  have fX00_7 := Lib.hid (fX00_6.out.below hb t6.out.size)
  have fX01_7 := Lib.hid (fX01_6.out.below hb t6.out.size)
  have bX0_7 := Lib.hid (bX0_6.out.below hb (Nat.le_trans s1.out (Nat.le_trans s2.out (Nat.le_trans s3.out (Nat.le_trans s4.out (Nat.le_trans s5.out s6.out))))))
  have fW0_7 := Lib.hid (fW0_6.out.below hb (Nat.le_trans s4.out (Nat.le_trans s5.out s6.out)))
  have fW1_7 := Lib.hid (fW1_6.out.below hb (Nat.le_trans s4.out (Nat.le_trans s5.out s6.out)))
  have bW_7 := Lib.hid (bW_6.out.below hb (Nat.le_trans s5.out s6.out))
  have fY00_7 := Lib.hid (fY00_6.out.below hb s6.out)
  have fY01_7 := Lib.hid (fY01_6.out.below hb s6.out)
  have bY0_7 := Lib.hid (bY0_6.out.below hb (Nat.le_refl _))
  have fG0_7 := Lib.hid oG0
  have fG1_7 := Lib.hid oG1
  clear fX00_6 fX01_6 bX0_6 fW0_6 fW1_6 bW_6 fY00_6 fY01_6 bY0_6 oG0 oG1 hb
  have nb := (BoxL.new w7 #[.int .i64 (sfF f m).t, .int .i64 (sfF f m).s, .int .i64 (sfF f m).sp, .slice AG0 ((sfF f m).wt).length cG0, .slice AG1 ((sfF f m).sh).length cG1] 29).mono (show w7.heap.size + 1 ≤ (w7.alloc (.cells #[.int .i64 (sfF f m).t, .int .i64 (sfF f m).s, .int .i64 (sfF f m).sp, .slice AG0 ((sfF f m).wt).length cG0, .slice AG1 ((sfF f m).sh).length cG1] 29)).heap.size by simp)
  have hb : Below w7.heap.size w7 (w7.alloc (.cells #[.int .i64 (sfF f m).t, .int .i64 (sfF f m).s, .int .i64 (sfF f m).sp, .slice AG0 ((sfF f m).wt).length cG0, .slice AG1 ((sfF f m).sh).length cG1] 29)) := by go_grown
  have eX00 := bX0_7.out.2 0 _ rfl
  have eX01 := bX0_7.out.2 1 _ rfl
  have eX02 := bX0_7.out.2 2 _ rfl
  have eX03 := bX0_7.out.2 3 _ rfl
  have eX04 := bX0_7.out.2 4 _ rfl
  have zX0 := Nat.lt_of_lt_of_le bX0_7.out.1 (Nat.le_trans s1.out (Nat.le_trans s2.out (Nat.le_trans s3.out (Nat.le_trans s4.out (Nat.le_trans s5.out (Nat.le_trans s6.out s7.out))))))
  have eW0 := bW_7.out.2 0 _ rfl
  have eW1 := bW_7.out.2 1 _ rfl
  have eW2 := bW_7.out.2 2 _ rfl
  have eW3 := bW_7.out.2 3 _ rfl
  have eW4 := bW_7.out.2 4 _ rfl
  have zW := Nat.lt_of_lt_of_le bW_7.out.1 (Nat.le_trans s5.out (Nat.le_trans s6.out s7.out))
  have eY00 := bY0_7.out.2 0 _ rfl
  have eY01 := bY0_7.out.2 1 _ rfl
  have eY02 := bY0_7.out.2 2 _ rfl
  have eY03 := bY0_7.out.2 3 _ rfl
  have eY04 := bY0_7.out.2 4 _ rfl
  have zY0 := Nat.lt_of_lt_of_le bY0_7.out.1 s7.out
  go_wp2_with fail
  clear eX00 eX01 eX02 eX03 eX04 zX0 eW0 eW1 eW2 eW3 eW4 zW eY00 eY01 eY02 eY03 eY04 zY0
  generalize w7.alloc (.cells #[.int .i64 (sfF f m).t, .int .i64 (sfF f m).s, .int .i64 (sfF f m).sp, .slice AG0 ((sfF f m).wt).length cG0, .slice AG1 ((sfF f m).sh).length cG1] 29) = w8 at *
  have t8 := Lib.hid (after t7.out hb)
  have s8 := Lib.hid hb.size
  have fX00_8 := Lib.hid (fX00_7.out.below hb t7.out.size)
  have fX01_8 := Lib.hid (fX01_7.out.below hb t7.out.size)
  have bX0_8 := Lib.hid (bX0_7.out.below hb (Nat.le_trans s1.out (Nat.le_trans s2.out (Nat.le_trans s3.out (Nat.le_trans s4.out (Nat.le_trans s5.out (Nat.le_trans s6.out s7.out)))))))
  have fW0_8 := Lib.hid (fW0_7.out.below hb (Nat.le_trans s4.out (Nat.le_trans s5.out (Nat.le_trans s6.out s7.out))))
  have fW1_8 := Lib.hid (fW1_7.out.below hb (Nat.le_trans s4.out (Nat.le_trans s5.out (Nat.le_trans s6.out s7.out))))
  have bW_8 := Lib.hid (bW_7.out.below hb (Nat.le_trans s5.out (Nat.le_trans s6.out s7.out)))
  have fY00_8 := Lib.hid (fY00_7.out.below hb (Nat.le_trans s6.out s7.out))
  have fY01_8 := Lib.hid (fY01_7.out.below hb (Nat.le_trans s6.out s7.out))
  have bY0_8 := Lib.hid (bY0_7.out.below hb s7.out)
  have fG0_8 := Lib.hid (fG0_7.out.below hb (Nat.le_refl _))
  have fG1_8 := Lib.hid (fG1_7.out.below hb (Nat.le_refl _))
  have bG_8 := Lib.hid nb
  clear fX00_7 fX01_7 bX0_7 fW0_7 fW1_7 bW_7 fY00_7 fY01_7 bY0_7 fG0_7 fG1_7 nb hb
  refine (eqFl_abs fG0_8.out.rd fG1_8.out.rd fW0_8.out.rd fW1_8.out.rd).mono ?_
  rintro e w9 ⟨rfl, hb⟩
  have t9 := Lib.hid (after t8.out hb)
  have s9 := Lib.hid hb.size
  have fX00_9 := Lib.hid (fX00_8.out.below hb t8.out.size)
  have fX01_9 := Lib.hid (fX01_8.out.below hb t8.out.size)
  have bX0_9 := Lib.hid (bX0_8.out.below hb (Nat.le_trans s1.out (Nat.le_trans s2.out (Nat.le_trans s3.out (Nat.le_trans s4.out (Nat.le_trans s5.out (Nat.le_trans s6.out (Nat.le_trans s7.out s8.out))))))))
  have fW0_9 := Lib.hid (fW0_8.out.below hb (Nat.le_trans s4.out (Nat.le_trans s5.out (Nat.le_trans s6.out (Nat.le_trans s7.out s8.out)))))
  have fW1_9 := Lib.hid (fW1_8.out.below hb (Nat.le_trans s4.out (Nat.le_trans s5.out (Nat.le_trans s6.out (Nat.le_trans s7.out s8.out)))))
  have bW_9 := Lib.hid (bW_8.out.below hb (Nat.le_trans s5.out (Nat.le_trans s6.out (Nat.le_trans s7.out s8.out))))
  have fY00_9 := Lib.hid (fY00_8.out.below hb (Nat.le_trans s6.out (Nat.le_trans s7.out s8.out)))
  have fY01_9 := Lib.hid (fY01_8.out.below hb (Nat.le_trans s6.out (Nat.le_trans s7.out s8.out)))
  have bY0_9 := Lib.hid (bY0_8.out.below hb (Nat.le_trans s7.out s8.out))
  have fG0_9 := Lib.hid (fG0_8.out.below hb s8.out)
  have fG1_9 := Lib.hid (fG1_8.out.below hb s8.out)
  have bG_9 := Lib.hid (bG_8.out.below hb (Nat.le_refl _))
  clear fX00_8 fX01_8 bX0_8 fW0_8 fW1_8 bW_8 fY00_8 fY01_8 bY0_8 fG0_8 fG1_8 bG_8 hb
  have eX00 := bX0_9.out.2 0 _ rfl
  have eX01 := bX0_9.out.2 1 _ rfl
  have eX02 := bX0_9.out.2 2 _ rfl
  have eX03 := bX0_9.out.2 3 _ rfl
  have eX04 := bX0_9.out.2 4 _ rfl
  have zX0 := Nat.lt_of_lt_of_le bX0_9.out.1 (Nat.le_trans s1.out (Nat.le_trans s2.out (Nat.le_trans s3.out (Nat.le_trans s4.out (Nat.le_trans s5.out (Nat.le_trans s6.out (Nat.le_trans s7.out (Nat.le_trans s8.out s9.out))))))))
  have eW0 := bW_9.out.2 0 _ rfl
  have eW1 := bW_9.out.2 1 _ rfl
  have eW2 := bW_9.out.2 2 _ rfl
  have eW3 := bW_9.out.2 3 _ rfl
  have eW4 := bW_9.out.2 4 _ rfl
  have zW := Nat.lt_of_lt_of_le bW_9.out.1 (Nat.le_trans s5.out (Nat.le_trans s6.out (Nat.le_trans s7.out (Nat.le_trans s8.out s9.out))))
  have eY00 := bY0_9.out.2 0 _ rfl
  have eY01 := bY0_9.out.2 1 _ rfl
  have eY02 := bY0_9.out.2 2 _ rfl
  have eY03 := bY0_9.out.2 3 _ rfl
  have eY04 := bY0_9.out.2 4 _ rfl
  have zY0 := Nat.lt_of_lt_of_le bY0_9.out.1 (Nat.le_trans s7.out (Nat.le_trans s8.out s9.out))
  have eG0 := bG_9.out.2 0 _ rfl
  have eG1 := bG_9.out.2 1 _ rfl
  have eG2 := bG_9.out.2 2 _ rfl
  have eG3 := bG_9.out.2 3 _ rfl
  have eG4 := bG_9.out.2 4 _ rfl
  have zG := Nat.lt_of_lt_of_le bG_9.out.1 s9.out
  go_wp2_with fail
  go_region_held3 (fun w' => Below w9.heap.size w9 w' ∧ (∀ b o, b < w9.heap.size → w'.cell? ⟨b, o, none⟩ = w9.cell? ⟨b, o, none⟩))
    ((first | (refine mkS ?_; assumption) | (refine drewS ?_; assumption) | (refine mkS ?_; go_grown)))
    (first
      | (go_at_call 9; refine (toFl_abs (B := w.heap.size) (B' := w.heap.size) ?_ ?_).mono ?_; exact fX00_9.out.below (S1 (by assumption)) t9.out.size; exact fX01_9.out.below (S1 (by assumption)) t9.out.size; rintro e v ⟨AZ00, cZ00, AZ01, cZ01, rfl, oZ00, oZ01, hb⟩; obtain ⟨hB, hzz⟩ := callS (by assumption) (Nat.le_refl _) hb; have HBy := Lib.hid hB; clear hb)
      | (go_at_call 11; refine (eqFl_abs (B := w5.heap.size) (B' := w5.heap.size) (B'' := v.heap.size) (B3 := v.heap.size) ?_ ?_ ?_ ?_).mono ?_; exact fY00_9.out.rd.below HBy.out (Nat.le_trans s6.out (Nat.le_trans s7.out (Nat.le_trans s8.out s9.out))); exact fY01_9.out.rd.below HBy.out (Nat.le_trans s6.out (Nat.le_trans s7.out (Nat.le_trans s8.out s9.out))); exact oZ00.rd; exact oZ01.rd; rintro e w10 ⟨rfl, hb⟩; obtain ⟨hB, hzz⟩ := callS (by assumption) (Nat.le_refl _) hb; have HBz := Lib.hid hB; clear hb))
  have t10 := Lib.hid (after t9.out HBz.out)
  have s10 := Lib.hid HBz.out.size
  have fX00_10 := Lib.hid (fX00_9.out.below HBz.out t9.out.size)
  have fX01_10 := Lib.hid (fX01_9.out.below HBz.out t9.out.size)
  have bX0_10 := Lib.hid (bX0_9.out.below HBz.out (Nat.le_trans s1.out (Nat.le_trans s2.out (Nat.le_trans s3.out (Nat.le_trans s4.out (Nat.le_trans s5.out (Nat.le_trans s6.out (Nat.le_trans s7.out (Nat.le_trans s8.out s9.out)))))))))
  have fW0_10 := Lib.hid (fW0_9.out.below HBz.out (Nat.le_trans s4.out (Nat.le_trans s5.out (Nat.le_trans s6.out (Nat.le_trans s7.out (Nat.le_trans s8.out s9.out))))))
  have fW1_10 := Lib.hid (fW1_9.out.below HBz.out (Nat.le_trans s4.out (Nat.le_trans s5.out (Nat.le_trans s6.out (Nat.le_trans s7.out (Nat.le_trans s8.out s9.out))))))
  have bW_10 := Lib.hid (bW_9.out.below HBz.out (Nat.le_trans s5.out (Nat.le_trans s6.out (Nat.le_trans s7.out (Nat.le_trans s8.out s9.out)))))
  have fY00_10 := Lib.hid (fY00_9.out.below HBz.out (Nat.le_trans s6.out (Nat.le_trans s7.out (Nat.le_trans s8.out s9.out))))
  have fY01_10 := Lib.hid (fY01_9.out.below HBz.out (Nat.le_trans s6.out (Nat.le_trans s7.out (Nat.le_trans s8.out s9.out))))
  have bY0_10 := Lib.hid (bY0_9.out.below HBz.out (Nat.le_trans s7.out (Nat.le_trans s8.out s9.out)))
  have fG0_10 := Lib.hid (fG0_9.out.below HBz.out (Nat.le_trans s8.out s9.out))
  have fG1_10 := Lib.hid (fG1_9.out.below HBz.out (Nat.le_trans s8.out s9.out))
  have bG_10 := Lib.hid (bG_9.out.below HBz.out s9.out)
  clear eX00 eX01 eX02 eX03 eX04 zX0 eW0 eW1 eW2 eW3 eW4 zW eY00 eY01 eY02 eY03 eY04 zY0 eG0 eG1 eG2 eG3 eG4 zG fX00_9 fX01_9 bX0_9 fW0_9 fW1_9 bW_9 fY00_9 fY01_9 bY0_9 fG0_9 fG1_9 bG_9
  have eX00 := bX0_10.out.2 0 _ rfl
  have eX01 := bX0_10.out.2 1 _ rfl
  have eX02 := bX0_10.out.2 2 _ rfl
  have eX03 := bX0_10.out.2 3 _ rfl
  have eX04 := bX0_10.out.2 4 _ rfl
  have zX0 := Nat.lt_of_lt_of_le bX0_10.out.1 (Nat.le_trans s1.out (Nat.le_trans s2.out (Nat.le_trans s3.out (Nat.le_trans s4.out (Nat.le_trans s5.out (Nat.le_trans s6.out (Nat.le_trans s7.out (Nat.le_trans s8.out (Nat.le_trans s9.out s10.out)))))))))
  have eW0 := bW_10.out.2 0 _ rfl
  have eW1 := bW_10.out.2 1 _ rfl
  have eW2 := bW_10.out.2 2 _ rfl
  have eW3 := bW_10.out.2 3 _ rfl
  have eW4 := bW_10.out.2 4 _ rfl
  have zW := Nat.lt_of_lt_of_le bW_10.out.1 (Nat.le_trans s5.out (Nat.le_trans s6.out (Nat.le_trans s7.out (Nat.le_trans s8.out (Nat.le_trans s9.out s10.out)))))
  have eY00 := bY0_10.out.2 0 _ rfl
  have eY01 := bY0_10.out.2 1 _ rfl
  have eY02 := bY0_10.out.2 2 _ rfl
  have eY03 := bY0_10.out.2 3 _ rfl
  have eY04 := bY0_10.out.2 4 _ rfl
  have zY0 := Nat.lt_of_lt_of_le bY0_10.out.1 (Nat.le_trans s7.out (Nat.le_trans s8.out (Nat.le_trans s9.out s10.out)))
  have eG0 := bG_10.out.2 0 _ rfl
  have eG1 := bG_10.out.2 1 _ rfl
  have eG2 := bG_10.out.2 2 _ rfl
  have eG3 := bG_10.out.2 3 _ rfl
  have eG4 := bG_10.out.2 4 _ rfl
  have zG := Nat.lt_of_lt_of_le bG_10.out.1 (Nat.le_trans s9.out s10.out)
  go_wp2_with fail
  clear eX00 eX01 eX02 eX03 eX04 zX0 eW0 eW1 eW2 eW3 eW4 zW eY00 eY01 eY02 eY03 eY04 zY0 eG0 eG1 eG2 eG3 eG4 zG
  have lnY00 := fY00_10.out.2.2.1
  have lnY01 := fY01_10.out.2.2.1
  refine (markFl_abs' 1 1 (by simp) fY00_10.out fY01_10.out (Nat.le_trans s6.out (Nat.le_trans s7.out (Nat.le_trans s8.out (Nat.le_trans s9.out s10.out)))) (by omega) (by omega)).mono ?_
  rintro e w11 ⟨rfl, oY00, oY01, ho⟩
  have t11 := Lib.hid (t10.out.trans (ho.below (Nat.le_trans s5.out (Nat.le_trans s6.out (Nat.le_trans s7.out (Nat.le_trans s8.out (Nat.le_trans s9.out s10.out))))) |>.mono t4.out.size))
  have s11 := Lib.hid ho.size
  have fX00_11 := Lib.hid (fX00_10.out.below (ho.below (Nat.le_trans s5.out (Nat.le_trans s6.out (Nat.le_trans s7.out (Nat.le_trans s8.out (Nat.le_trans s9.out s10.out)))))) t4.out.size)
  have fX01_11 := Lib.hid (fX01_10.out.below (ho.below (Nat.le_trans s5.out (Nat.le_trans s6.out (Nat.le_trans s7.out (Nat.le_trans s8.out (Nat.le_trans s9.out s10.out)))))) t4.out.size)
  have bX0_11 := Lib.hid (bX0_10.out.below (ho.below (Nat.le_trans s5.out (Nat.le_trans s6.out (Nat.le_trans s7.out (Nat.le_trans s8.out (Nat.le_trans s9.out s10.out)))))) (Nat.le_trans s1.out (Nat.le_trans s2.out (Nat.le_trans s3.out s4.out))))
  have fW0_11 := Lib.hid (fW0_10.out.only ho (.inl s4.out))
  have fW1_11 := Lib.hid (fW1_10.out.only ho (.inl s4.out))
  have bW_11 := Lib.hid (bW_10.out.below (ho.below (Nat.le_trans s5.out (Nat.le_trans s6.out (Nat.le_trans s7.out (Nat.le_trans s8.out (Nat.le_trans s9.out s10.out)))))) (Nat.le_refl _))
  have bY0_11 := Lib.hid (bY0_10.out.only ho (Nat.le_refl _) (Nat.lt_of_lt_of_le bY0_10.out.1 (Nat.le_trans s7.out (Nat.le_trans s8.out (Nat.le_trans s9.out s10.out)))))
  have fG0_11 := Lib.hid (fG0_10.out.only ho (.inr s6.out))
  have fG1_11 := Lib.hid (fG1_10.out.only ho (.inr s6.out))
  have bG_11 := Lib.hid (bG_10.out.only ho (Nat.le_trans s6.out s7.out) (Nat.lt_of_lt_of_le bG_10.out.1 (Nat.le_trans s9.out s10.out)))
  have fY00_11 := Lib.hid oY00
  have fY01_11 := Lib.hid oY01
  clear fX00_10 fX01_10 bX0_10 fW0_10 fW1_10 bW_10 bY0_10 fG0_10 fG1_10 bG_10 fY00_10 oY00 fY01_10 oY01 ho
  clear fY00_11 fY01_11 bY0_11
  have eX00 := bX0_11.out.2 0 _ rfl
  have eX01 := bX0_11.out.2 1 _ rfl
  have eX02 := bX0_11.out.2 2 _ rfl
  have eX03 := bX0_11.out.2 3 _ rfl
  have eX04 := bX0_11.out.2 4 _ rfl
  have zX0 := Nat.lt_of_lt_of_le bX0_11.out.1 (Nat.le_trans s1.out (Nat.le_trans s2.out (Nat.le_trans s3.out (Nat.le_trans s4.out (Nat.le_trans s5.out (Nat.le_trans s6.out (Nat.le_trans s7.out (Nat.le_trans s8.out (Nat.le_trans s9.out (Nat.le_trans s10.out s11.out))))))))))
  have eW0 := bW_11.out.2 0 _ rfl
  have eW1 := bW_11.out.2 1 _ rfl
  have eW2 := bW_11.out.2 2 _ rfl
  have eW3 := bW_11.out.2 3 _ rfl
  have eW4 := bW_11.out.2 4 _ rfl
  have zW := Nat.lt_of_lt_of_le bW_11.out.1 (Nat.le_trans s5.out (Nat.le_trans s6.out (Nat.le_trans s7.out (Nat.le_trans s8.out (Nat.le_trans s9.out (Nat.le_trans s10.out s11.out))))))
  have eG0 := bG_11.out.2 0 _ rfl
  have eG1 := bG_11.out.2 1 _ rfl
  have eG2 := bG_11.out.2 2 _ rfl
  have eG3 := bG_11.out.2 3 _ rfl
  have eG4 := bG_11.out.2 4 _ rfl
  have zG := Nat.lt_of_lt_of_le bG_11.out.1 (Nat.le_trans s9.out (Nat.le_trans s10.out s11.out))
  go_wp2_with fail
  clear eX00 eX01 eX02 eX03 eX04 zX0 eW0 eW1 eW2 eW3 eW4 zW eG0 eG1 eG2 eG3 eG4 zG
  refine (eqFl_abs fG0_11.out.rd fG1_11.out.rd fW0_11.out.rd fW1_11.out.rd).mono ?_
  rintro e w12 ⟨rfl, hb⟩
  have t12 := Lib.hid (after t11.out hb)
  have s12 := Lib.hid hb.size
  have fX00_12 := Lib.hid (fX00_11.out.below hb t11.out.size)
  have fX01_12 := Lib.hid (fX01_11.out.below hb t11.out.size)
  have bX0_12 := Lib.hid (bX0_11.out.below hb (Nat.le_trans s1.out (Nat.le_trans s2.out (Nat.le_trans s3.out (Nat.le_trans s4.out (Nat.le_trans s5.out (Nat.le_trans s6.out (Nat.le_trans s7.out (Nat.le_trans s8.out (Nat.le_trans s9.out (Nat.le_trans s10.out s11.out)))))))))))
  have fW0_12 := Lib.hid (fW0_11.out.below hb (Nat.le_trans s4.out (Nat.le_trans s5.out (Nat.le_trans s6.out (Nat.le_trans s7.out (Nat.le_trans s8.out (Nat.le_trans s9.out (Nat.le_trans s10.out s11.out))))))))
  have fW1_12 := Lib.hid (fW1_11.out.below hb (Nat.le_trans s4.out (Nat.le_trans s5.out (Nat.le_trans s6.out (Nat.le_trans s7.out (Nat.le_trans s8.out (Nat.le_trans s9.out (Nat.le_trans s10.out s11.out))))))))
  have bW_12 := Lib.hid (bW_11.out.below hb (Nat.le_trans s5.out (Nat.le_trans s6.out (Nat.le_trans s7.out (Nat.le_trans s8.out (Nat.le_trans s9.out (Nat.le_trans s10.out s11.out)))))))
  have fG0_12 := Lib.hid (fG0_11.out.below hb (Nat.le_trans s8.out (Nat.le_trans s9.out (Nat.le_trans s10.out s11.out))))
  have fG1_12 := Lib.hid (fG1_11.out.below hb (Nat.le_trans s8.out (Nat.le_trans s9.out (Nat.le_trans s10.out s11.out))))
  have bG_12 := Lib.hid (bG_11.out.below hb (Nat.le_trans s9.out (Nat.le_trans s10.out s11.out)))
  clear fX00_11 fX01_11 bX0_11 fW0_11 fW1_11 bW_11 fG0_11 fG1_11 bG_11 hb
  have eX00 := bX0_12.out.2 0 _ rfl
  have eX01 := bX0_12.out.2 1 _ rfl
  have eX02 := bX0_12.out.2 2 _ rfl
  have eX03 := bX0_12.out.2 3 _ rfl
  have eX04 := bX0_12.out.2 4 _ rfl
  have zX0 := Nat.lt_of_lt_of_le bX0_12.out.1 (Nat.le_trans s1.out (Nat.le_trans s2.out (Nat.le_trans s3.out (Nat.le_trans s4.out (Nat.le_trans s5.out (Nat.le_trans s6.out (Nat.le_trans s7.out (Nat.le_trans s8.out (Nat.le_trans s9.out (Nat.le_trans s10.out (Nat.le_trans s11.out s12.out)))))))))))
  have eW0 := bW_12.out.2 0 _ rfl
  have eW1 := bW_12.out.2 1 _ rfl
  have eW2 := bW_12.out.2 2 _ rfl
  have eW3 := bW_12.out.2 3 _ rfl
  have eW4 := bW_12.out.2 4 _ rfl
  have zW := Nat.lt_of_lt_of_le bW_12.out.1 (Nat.le_trans s5.out (Nat.le_trans s6.out (Nat.le_trans s7.out (Nat.le_trans s8.out (Nat.le_trans s9.out (Nat.le_trans s10.out (Nat.le_trans s11.out s12.out)))))))
  have eG0 := bG_12.out.2 0 _ rfl
  have eG1 := bG_12.out.2 1 _ rfl
  have eG2 := bG_12.out.2 2 _ rfl
  have eG3 := bG_12.out.2 3 _ rfl
  have eG4 := bG_12.out.2 4 _ rfl
  have zG := Nat.lt_of_lt_of_le bG_12.out.1 (Nat.le_trans s9.out (Nat.le_trans s10.out (Nat.le_trans s11.out s12.out)))
  go_wp2_with fail
  clear eX00 eX01 eX02 eX03 eX04 zX0 eW0 eW1 eW2 eW3 eW4 zW eG0 eG1 eG2 eG3 eG4 zG
  have lnG0 := fG0_12.out.2.2.1
  have lnG1 := fG1_12.out.2.2.1
  refine (markFl_abs' 1 1 (by simp) fG0_12.out fG1_12.out (Nat.le_trans s8.out (Nat.le_trans s9.out (Nat.le_trans s10.out (Nat.le_trans s11.out s12.out)))) (by omega) (by omega)).mono ?_
  rintro e w13 ⟨rfl, oG0, oG1, ho⟩
  have t13 := Lib.hid (t12.out.trans (ho.below (Nat.le_trans s7.out (Nat.le_trans s8.out (Nat.le_trans s9.out (Nat.le_trans s10.out (Nat.le_trans s11.out s12.out))))) |>.mono t6.out.size))
  have s13 := Lib.hid ho.size
  have fX00_13 := Lib.hid (fX00_12.out.below (ho.below (Nat.le_trans s7.out (Nat.le_trans s8.out (Nat.le_trans s9.out (Nat.le_trans s10.out (Nat.le_trans s11.out s12.out)))))) t6.out.size)
  have fX01_13 := Lib.hid (fX01_12.out.below (ho.below (Nat.le_trans s7.out (Nat.le_trans s8.out (Nat.le_trans s9.out (Nat.le_trans s10.out (Nat.le_trans s11.out s12.out)))))) t6.out.size)
  have bX0_13 := Lib.hid (bX0_12.out.below (ho.below (Nat.le_trans s7.out (Nat.le_trans s8.out (Nat.le_trans s9.out (Nat.le_trans s10.out (Nat.le_trans s11.out s12.out)))))) (Nat.le_trans s1.out (Nat.le_trans s2.out (Nat.le_trans s3.out (Nat.le_trans s4.out (Nat.le_trans s5.out s6.out))))))
  have fW0_13 := Lib.hid (fW0_12.out.only ho (.inl (Nat.le_trans s4.out (Nat.le_trans s5.out s6.out))))
  have fW1_13 := Lib.hid (fW1_12.out.only ho (.inl (Nat.le_trans s4.out (Nat.le_trans s5.out s6.out))))
  have bW_13 := Lib.hid (bW_12.out.below (ho.below (Nat.le_trans s7.out (Nat.le_trans s8.out (Nat.le_trans s9.out (Nat.le_trans s10.out (Nat.le_trans s11.out s12.out)))))) (Nat.le_trans s5.out s6.out))
  have bG_13 := Lib.hid (bG_12.out.only ho (Nat.le_refl _) (Nat.lt_of_lt_of_le bG_12.out.1 (Nat.le_trans s9.out (Nat.le_trans s10.out (Nat.le_trans s11.out s12.out)))))
  have fG0_13 := Lib.hid oG0
  have fG1_13 := Lib.hid oG1
  clear fX00_12 fX01_12 bX0_12 fW0_12 fW1_12 bW_12 bG_12 fG0_12 oG0 fG1_12 oG1 ho
  have eX00 := bX0_13.out.2 0 _ rfl
  have eX01 := bX0_13.out.2 1 _ rfl
  have eX02 := bX0_13.out.2 2 _ rfl
  have eX03 := bX0_13.out.2 3 _ rfl
  have eX04 := bX0_13.out.2 4 _ rfl
  have zX0 := Nat.lt_of_lt_of_le bX0_13.out.1 (Nat.le_trans s1.out (Nat.le_trans s2.out (Nat.le_trans s3.out (Nat.le_trans s4.out (Nat.le_trans s5.out (Nat.le_trans s6.out (Nat.le_trans s7.out (Nat.le_trans s8.out (Nat.le_trans s9.out (Nat.le_trans s10.out (Nat.le_trans s11.out (Nat.le_trans s12.out s13.out))))))))))))
  have eW0 := bW_13.out.2 0 _ rfl
  have eW1 := bW_13.out.2 1 _ rfl
  have eW2 := bW_13.out.2 2 _ rfl
  have eW3 := bW_13.out.2 3 _ rfl
  have eW4 := bW_13.out.2 4 _ rfl
  have zW := Nat.lt_of_lt_of_le bW_13.out.1 (Nat.le_trans s5.out (Nat.le_trans s6.out (Nat.le_trans s7.out (Nat.le_trans s8.out (Nat.le_trans s9.out (Nat.le_trans s10.out (Nat.le_trans s11.out (Nat.le_trans s12.out s13.out))))))))
  have eG0 := bG_13.out.2 0 _ rfl
  have eG1 := bG_13.out.2 1 _ rfl
  have eG2 := bG_13.out.2 2 _ rfl
  have eG3 := bG_13.out.2 3 _ rfl
  have eG4 := bG_13.out.2 4 _ rfl
  have zG := Nat.lt_of_lt_of_le bG_13.out.1 (Nat.le_trans s9.out (Nat.le_trans s10.out (Nat.le_trans s11.out (Nat.le_trans s12.out s13.out))))
  go_wp2_with fail
  clear eX00 eX01 eX02 eX03 eX04 zX0 eW0 eW1 eW2 eW3 eW4 zW eG0 eG1 eG2 eG3 eG4 zG
  refine (heldFl_abs' 1 1 (by simp) fG0_13.out.rd fG1_13.out.rd (by omega) (by omega)).mono ?_
  rintro e w14 ⟨rfl, hb⟩
  have t14 := Lib.hid (after t13.out hb)
  have s14 := Lib.hid hb.size
  have fX00_14 := Lib.hid (fX00_13.out.below hb t13.out.size)
  have fX01_14 := Lib.hid (fX01_13.out.below hb t13.out.size)
  have bX0_14 := Lib.hid (bX0_13.out.below hb (Nat.le_trans s1.out (Nat.le_trans s2.out (Nat.le_trans s3.out (Nat.le_trans s4.out (Nat.le_trans s5.out (Nat.le_trans s6.out (Nat.le_trans s7.out (Nat.le_trans s8.out (Nat.le_trans s9.out (Nat.le_trans s10.out (Nat.le_trans s11.out (Nat.le_trans s12.out s13.out)))))))))))))
  have fW0_14 := Lib.hid (fW0_13.out.below hb (Nat.le_trans s4.out (Nat.le_trans s5.out (Nat.le_trans s6.out (Nat.le_trans s7.out (Nat.le_trans s8.out (Nat.le_trans s9.out (Nat.le_trans s10.out (Nat.le_trans s11.out (Nat.le_trans s12.out s13.out))))))))))
  have fW1_14 := Lib.hid (fW1_13.out.below hb (Nat.le_trans s4.out (Nat.le_trans s5.out (Nat.le_trans s6.out (Nat.le_trans s7.out (Nat.le_trans s8.out (Nat.le_trans s9.out (Nat.le_trans s10.out (Nat.le_trans s11.out (Nat.le_trans s12.out s13.out))))))))))
  have bW_14 := Lib.hid (bW_13.out.below hb (Nat.le_trans s5.out (Nat.le_trans s6.out (Nat.le_trans s7.out (Nat.le_trans s8.out (Nat.le_trans s9.out (Nat.le_trans s10.out (Nat.le_trans s11.out (Nat.le_trans s12.out s13.out)))))))))
  have fG0_14 := Lib.hid (fG0_13.out.below hb (Nat.le_trans s8.out (Nat.le_trans s9.out (Nat.le_trans s10.out (Nat.le_trans s11.out (Nat.le_trans s12.out s13.out))))))
  have fG1_14 := Lib.hid (fG1_13.out.below hb (Nat.le_trans s8.out (Nat.le_trans s9.out (Nat.le_trans s10.out (Nat.le_trans s11.out (Nat.le_trans s12.out s13.out))))))
  have bG_14 := Lib.hid (bG_13.out.below hb (Nat.le_trans s9.out (Nat.le_trans s10.out (Nat.le_trans s11.out (Nat.le_trans s12.out s13.out)))))
  clear fX00_13 fX01_13 bX0_13 fW0_13 fW1_13 bW_13 fG0_13 fG1_13 bG_13 hb
  have eX00 := bX0_14.out.2 0 _ rfl
  have eX01 := bX0_14.out.2 1 _ rfl
  have eX02 := bX0_14.out.2 2 _ rfl
  have eX03 := bX0_14.out.2 3 _ rfl
  have eX04 := bX0_14.out.2 4 _ rfl
  have zX0 := Nat.lt_of_lt_of_le bX0_14.out.1 (Nat.le_trans s1.out (Nat.le_trans s2.out (Nat.le_trans s3.out (Nat.le_trans s4.out (Nat.le_trans s5.out (Nat.le_trans s6.out (Nat.le_trans s7.out (Nat.le_trans s8.out (Nat.le_trans s9.out (Nat.le_trans s10.out (Nat.le_trans s11.out (Nat.le_trans s12.out (Nat.le_trans s13.out s14.out)))))))))))))
  have eW0 := bW_14.out.2 0 _ rfl
  have eW1 := bW_14.out.2 1 _ rfl
  have eW2 := bW_14.out.2 2 _ rfl
  have eW3 := bW_14.out.2 3 _ rfl
  have eW4 := bW_14.out.2 4 _ rfl
  have zW := Nat.lt_of_lt_of_le bW_14.out.1 (Nat.le_trans s5.out (Nat.le_trans s6.out (Nat.le_trans s7.out (Nat.le_trans s8.out (Nat.le_trans s9.out (Nat.le_trans s10.out (Nat.le_trans s11.out (Nat.le_trans s12.out (Nat.le_trans s13.out s14.out)))))))))
  have eG0 := bG_14.out.2 0 _ rfl
  have eG1 := bG_14.out.2 1 _ rfl
  have eG2 := bG_14.out.2 2 _ rfl
  have eG3 := bG_14.out.2 3 _ rfl
  have eG4 := bG_14.out.2 4 _ rfl
  have zG := Nat.lt_of_lt_of_le bG_14.out.1 (Nat.le_trans s9.out (Nat.le_trans s10.out (Nat.le_trans s11.out (Nat.le_trans s12.out (Nat.le_trans s13.out s14.out)))))
  go_wp2_with fail
  clear eX00 eX01 eX02 eX03 eX04 zX0 eW0 eW1 eW2 eW3 eW4 zW eG0 eG1 eG2 eG3 eG4 zG
  refine (toFl_abs fX00_14.out fX01_14.out).mono ?_
  rintro e w15 ⟨AHa00, cHa00, AHa01, cHa01, rfl, oHa00, oHa01, hb⟩
  have t15 := Lib.hid (after t14.out hb)
  have s15 := Lib.hid hb.size
  have fX00_15 := Lib.hid (fX00_14.out.below hb t14.out.size)
  have fX01_15 := Lib.hid (fX01_14.out.below hb t14.out.size)
  have bX0_15 := Lib.hid (bX0_14.out.below hb (Nat.le_trans s1.out (Nat.le_trans s2.out (Nat.le_trans s3.out (Nat.le_trans s4.out (Nat.le_trans s5.out (Nat.le_trans s6.out (Nat.le_trans s7.out (Nat.le_trans s8.out (Nat.le_trans s9.out (Nat.le_trans s10.out (Nat.le_trans s11.out (Nat.le_trans s12.out (Nat.le_trans s13.out s14.out))))))))))))))
  have fW0_15 := Lib.hid (fW0_14.out.below hb (Nat.le_trans s4.out (Nat.le_trans s5.out (Nat.le_trans s6.out (Nat.le_trans s7.out (Nat.le_trans s8.out (Nat.le_trans s9.out (Nat.le_trans s10.out (Nat.le_trans s11.out (Nat.le_trans s12.out (Nat.le_trans s13.out s14.out)))))))))))
  have fW1_15 := Lib.hid (fW1_14.out.below hb (Nat.le_trans s4.out (Nat.le_trans s5.out (Nat.le_trans s6.out (Nat.le_trans s7.out (Nat.le_trans s8.out (Nat.le_trans s9.out (Nat.le_trans s10.out (Nat.le_trans s11.out (Nat.le_trans s12.out (Nat.le_trans s13.out s14.out)))))))))))
  have bW_15 := Lib.hid (bW_14.out.below hb (Nat.le_trans s5.out (Nat.le_trans s6.out (Nat.le_trans s7.out (Nat.le_trans s8.out (Nat.le_trans s9.out (Nat.le_trans s10.out (Nat.le_trans s11.out (Nat.le_trans s12.out (Nat.le_trans s13.out s14.out))))))))))
  have fG0_15 := Lib.hid (fG0_14.out.below hb (Nat.le_trans s8.out (Nat.le_trans s9.out (Nat.le_trans s10.out (Nat.le_trans s11.out (Nat.le_trans s12.out (Nat.le_trans s13.out s14.out)))))))
  have fG1_15 := Lib.hid (fG1_14.out.below hb (Nat.le_trans s8.out (Nat.le_trans s9.out (Nat.le_trans s10.out (Nat.le_trans s11.out (Nat.le_trans s12.out (Nat.le_trans s13.out s14.out)))))))
  have bG_15 := Lib.hid (bG_14.out.below hb (Nat.le_trans s9.out (Nat.le_trans s10.out (Nat.le_trans s11.out (Nat.le_trans s12.out (Nat.le_trans s13.out s14.out))))))
  have fHa00_15 := Lib.hid oHa00
  have fHa01_15 := Lib.hid oHa01
  clear fX00_14 fX01_14 bX0_14 fW0_14 fW1_14 bW_14 fG0_14 fG1_14 bG_14 oHa00 oHa01 hb
  have eX00 := bX0_15.out.2 0 _ rfl
  have eX01 := bX0_15.out.2 1 _ rfl
  have eX02 := bX0_15.out.2 2 _ rfl
  have eX03 := bX0_15.out.2 3 _ rfl
  have eX04 := bX0_15.out.2 4 _ rfl
  have zX0 := Nat.lt_of_lt_of_le bX0_15.out.1 (Nat.le_trans s1.out (Nat.le_trans s2.out (Nat.le_trans s3.out (Nat.le_trans s4.out (Nat.le_trans s5.out (Nat.le_trans s6.out (Nat.le_trans s7.out (Nat.le_trans s8.out (Nat.le_trans s9.out (Nat.le_trans s10.out (Nat.le_trans s11.out (Nat.le_trans s12.out (Nat.le_trans s13.out (Nat.le_trans s14.out s15.out))))))))))))))
  have eW0 := bW_15.out.2 0 _ rfl
  have eW1 := bW_15.out.2 1 _ rfl
  have eW2 := bW_15.out.2 2 _ rfl
  have eW3 := bW_15.out.2 3 _ rfl
  have eW4 := bW_15.out.2 4 _ rfl
  have zW := Nat.lt_of_lt_of_le bW_15.out.1 (Nat.le_trans s5.out (Nat.le_trans s6.out (Nat.le_trans s7.out (Nat.le_trans s8.out (Nat.le_trans s9.out (Nat.le_trans s10.out (Nat.le_trans s11.out (Nat.le_trans s12.out (Nat.le_trans s13.out (Nat.le_trans s14.out s15.out))))))))))
  have eG0 := bG_15.out.2 0 _ rfl
  have eG1 := bG_15.out.2 1 _ rfl
  have eG2 := bG_15.out.2 2 _ rfl
  have eG3 := bG_15.out.2 3 _ rfl
  have eG4 := bG_15.out.2 4 _ rfl
  have zG := Nat.lt_of_lt_of_le bG_15.out.1 (Nat.le_trans s9.out (Nat.le_trans s10.out (Nat.le_trans s11.out (Nat.le_trans s12.out (Nat.le_trans s13.out (Nat.le_trans s14.out s15.out))))))
  go_wp2_with fail
  clear eX00 eX01 eX02 eX03 eX04 zX0 eW0 eW1 eW2 eW3 eW4 zW eG0 eG1 eG2 eG3 eG4 zG
  refine (SpeakFor_abs fHa00_15.out.rd fHa01_15.out.rd m).mono ?_
  rintro e w16 ⟨AH0, cH0, AH1, cH1, rfl, oH0, oH1, hb⟩
  have t16 := Lib.hid (after t15.out hb)
  have s16 := Lib.hid hb.size
  have fX00_16 := Lib.hid (fX00_15.out.below hb t15.out.size)
  have fX01_16 := Lib.hid (fX01_15.out.below hb t15.out.size)
  have bX0_16 := Lib.hid (bX0_15.out.below hb (Nat.le_trans s1.out (Nat.le_trans s2.out (Nat.le_trans s3.out (Nat.le_trans s4.out (Nat.le_trans s5.out (Nat.le_trans s6.out (Nat.le_trans s7.out (Nat.le_trans s8.out (Nat.le_trans s9.out (Nat.le_trans s10.out (Nat.le_trans s11.out (Nat.le_trans s12.out (Nat.le_trans s13.out (Nat.le_trans s14.out s15.out)))))))))))))))
  have fW0_16 := Lib.hid (fW0_15.out.below hb (Nat.le_trans s4.out (Nat.le_trans s5.out (Nat.le_trans s6.out (Nat.le_trans s7.out (Nat.le_trans s8.out (Nat.le_trans s9.out (Nat.le_trans s10.out (Nat.le_trans s11.out (Nat.le_trans s12.out (Nat.le_trans s13.out (Nat.le_trans s14.out s15.out))))))))))))
  have fW1_16 := Lib.hid (fW1_15.out.below hb (Nat.le_trans s4.out (Nat.le_trans s5.out (Nat.le_trans s6.out (Nat.le_trans s7.out (Nat.le_trans s8.out (Nat.le_trans s9.out (Nat.le_trans s10.out (Nat.le_trans s11.out (Nat.le_trans s12.out (Nat.le_trans s13.out (Nat.le_trans s14.out s15.out))))))))))))
  have bW_16 := Lib.hid (bW_15.out.below hb (Nat.le_trans s5.out (Nat.le_trans s6.out (Nat.le_trans s7.out (Nat.le_trans s8.out (Nat.le_trans s9.out (Nat.le_trans s10.out (Nat.le_trans s11.out (Nat.le_trans s12.out (Nat.le_trans s13.out (Nat.le_trans s14.out s15.out)))))))))))
  have fG0_16 := Lib.hid (fG0_15.out.below hb (Nat.le_trans s8.out (Nat.le_trans s9.out (Nat.le_trans s10.out (Nat.le_trans s11.out (Nat.le_trans s12.out (Nat.le_trans s13.out (Nat.le_trans s14.out s15.out))))))))
  have fG1_16 := Lib.hid (fG1_15.out.below hb (Nat.le_trans s8.out (Nat.le_trans s9.out (Nat.le_trans s10.out (Nat.le_trans s11.out (Nat.le_trans s12.out (Nat.le_trans s13.out (Nat.le_trans s14.out s15.out))))))))
  have bG_16 := Lib.hid (bG_15.out.below hb (Nat.le_trans s9.out (Nat.le_trans s10.out (Nat.le_trans s11.out (Nat.le_trans s12.out (Nat.le_trans s13.out (Nat.le_trans s14.out s15.out)))))))
  have fHa00_16 := Lib.hid (fHa00_15.out.below hb (Nat.le_refl _))
  have fHa01_16 := Lib.hid (fHa01_15.out.below hb (Nat.le_refl _))
  have fH0_16 := Lib.hid oH0
  have fH1_16 := Lib.hid oH1
  clear fX00_15 fX01_15 bX0_15 fW0_15 fW1_15 bW_15 fG0_15 fG1_15 bG_15 fHa00_15 fHa01_15 oH0 oH1 hb
  clear fHa00_16 fHa01_16
  have nb := (BoxL.new w16 #[.int .i64 (sfF f m).t, .int .i64 (sfF f m).s, .int .i64 (sfF f m).sp, .slice AH0 ((sfF f m).wt).length cH0, .slice AH1 ((sfF f m).sh).length cH1] 29).mono (show w16.heap.size + 1 ≤ (w16.alloc (.cells #[.int .i64 (sfF f m).t, .int .i64 (sfF f m).s, .int .i64 (sfF f m).sp, .slice AH0 ((sfF f m).wt).length cH0, .slice AH1 ((sfF f m).sh).length cH1] 29)).heap.size by simp)
  have hb : Below w16.heap.size w16 (w16.alloc (.cells #[.int .i64 (sfF f m).t, .int .i64 (sfF f m).s, .int .i64 (sfF f m).sp, .slice AH0 ((sfF f m).wt).length cH0, .slice AH1 ((sfF f m).sh).length cH1] 29)) := by go_grown
  have eX00 := bX0_16.out.2 0 _ rfl
  have eX01 := bX0_16.out.2 1 _ rfl
  have eX02 := bX0_16.out.2 2 _ rfl
  have eX03 := bX0_16.out.2 3 _ rfl
  have eX04 := bX0_16.out.2 4 _ rfl
  have zX0 := Nat.lt_of_lt_of_le bX0_16.out.1 (Nat.le_trans s1.out (Nat.le_trans s2.out (Nat.le_trans s3.out (Nat.le_trans s4.out (Nat.le_trans s5.out (Nat.le_trans s6.out (Nat.le_trans s7.out (Nat.le_trans s8.out (Nat.le_trans s9.out (Nat.le_trans s10.out (Nat.le_trans s11.out (Nat.le_trans s12.out (Nat.le_trans s13.out (Nat.le_trans s14.out (Nat.le_trans s15.out s16.out)))))))))))))))
  have eW0 := bW_16.out.2 0 _ rfl
  have eW1 := bW_16.out.2 1 _ rfl
  have eW2 := bW_16.out.2 2 _ rfl
  have eW3 := bW_16.out.2 3 _ rfl
  have eW4 := bW_16.out.2 4 _ rfl
  have zW := Nat.lt_of_lt_of_le bW_16.out.1 (Nat.le_trans s5.out (Nat.le_trans s6.out (Nat.le_trans s7.out (Nat.le_trans s8.out (Nat.le_trans s9.out (Nat.le_trans s10.out (Nat.le_trans s11.out (Nat.le_trans s12.out (Nat.le_trans s13.out (Nat.le_trans s14.out (Nat.le_trans s15.out s16.out)))))))))))
  have eG0 := bG_16.out.2 0 _ rfl
  have eG1 := bG_16.out.2 1 _ rfl
  have eG2 := bG_16.out.2 2 _ rfl
  have eG3 := bG_16.out.2 3 _ rfl
  have eG4 := bG_16.out.2 4 _ rfl
  have zG := Nat.lt_of_lt_of_le bG_16.out.1 (Nat.le_trans s9.out (Nat.le_trans s10.out (Nat.le_trans s11.out (Nat.le_trans s12.out (Nat.le_trans s13.out (Nat.le_trans s14.out (Nat.le_trans s15.out s16.out)))))))
  go_wp2_with fail
  clear eX00 eX01 eX02 eX03 eX04 zX0 eW0 eW1 eW2 eW3 eW4 zW eG0 eG1 eG2 eG3 eG4 zG
  generalize w16.alloc (.cells #[.int .i64 (sfF f m).t, .int .i64 (sfF f m).s, .int .i64 (sfF f m).sp, .slice AH0 ((sfF f m).wt).length cH0, .slice AH1 ((sfF f m).sh).length cH1] 29) = w17 at *
  have t17 := Lib.hid (after t16.out hb)
  have s17 := Lib.hid hb.size
  have fX00_17 := Lib.hid (fX00_16.out.below hb t16.out.size)
  have fX01_17 := Lib.hid (fX01_16.out.below hb t16.out.size)
  have bX0_17 := Lib.hid (bX0_16.out.below hb (Nat.le_trans s1.out (Nat.le_trans s2.out (Nat.le_trans s3.out (Nat.le_trans s4.out (Nat.le_trans s5.out (Nat.le_trans s6.out (Nat.le_trans s7.out (Nat.le_trans s8.out (Nat.le_trans s9.out (Nat.le_trans s10.out (Nat.le_trans s11.out (Nat.le_trans s12.out (Nat.le_trans s13.out (Nat.le_trans s14.out (Nat.le_trans s15.out s16.out))))))))))))))))
  have fW0_17 := Lib.hid (fW0_16.out.below hb (Nat.le_trans s4.out (Nat.le_trans s5.out (Nat.le_trans s6.out (Nat.le_trans s7.out (Nat.le_trans s8.out (Nat.le_trans s9.out (Nat.le_trans s10.out (Nat.le_trans s11.out (Nat.le_trans s12.out (Nat.le_trans s13.out (Nat.le_trans s14.out (Nat.le_trans s15.out s16.out)))))))))))))
  have fW1_17 := Lib.hid (fW1_16.out.below hb (Nat.le_trans s4.out (Nat.le_trans s5.out (Nat.le_trans s6.out (Nat.le_trans s7.out (Nat.le_trans s8.out (Nat.le_trans s9.out (Nat.le_trans s10.out (Nat.le_trans s11.out (Nat.le_trans s12.out (Nat.le_trans s13.out (Nat.le_trans s14.out (Nat.le_trans s15.out s16.out)))))))))))))
  have bW_17 := Lib.hid (bW_16.out.below hb (Nat.le_trans s5.out (Nat.le_trans s6.out (Nat.le_trans s7.out (Nat.le_trans s8.out (Nat.le_trans s9.out (Nat.le_trans s10.out (Nat.le_trans s11.out (Nat.le_trans s12.out (Nat.le_trans s13.out (Nat.le_trans s14.out (Nat.le_trans s15.out s16.out))))))))))))
  have fG0_17 := Lib.hid (fG0_16.out.below hb (Nat.le_trans s8.out (Nat.le_trans s9.out (Nat.le_trans s10.out (Nat.le_trans s11.out (Nat.le_trans s12.out (Nat.le_trans s13.out (Nat.le_trans s14.out (Nat.le_trans s15.out s16.out)))))))))
  have fG1_17 := Lib.hid (fG1_16.out.below hb (Nat.le_trans s8.out (Nat.le_trans s9.out (Nat.le_trans s10.out (Nat.le_trans s11.out (Nat.le_trans s12.out (Nat.le_trans s13.out (Nat.le_trans s14.out (Nat.le_trans s15.out s16.out)))))))))
  have bG_17 := Lib.hid (bG_16.out.below hb (Nat.le_trans s9.out (Nat.le_trans s10.out (Nat.le_trans s11.out (Nat.le_trans s12.out (Nat.le_trans s13.out (Nat.le_trans s14.out (Nat.le_trans s15.out s16.out))))))))
  have fH0_17 := Lib.hid (fH0_16.out.below hb (Nat.le_refl _))
  have fH1_17 := Lib.hid (fH1_16.out.below hb (Nat.le_refl _))
  have bH_17 := Lib.hid nb
  clear fX00_16 fX01_16 bX0_16 fW0_16 fW1_16 bW_16 fG0_16 fG1_16 bG_16 fH0_16 fH1_16 nb hb
  have eX00 := bX0_17.out.2 0 _ rfl
  have eX01 := bX0_17.out.2 1 _ rfl
  have eX02 := bX0_17.out.2 2 _ rfl
  have eX03 := bX0_17.out.2 3 _ rfl
  have eX04 := bX0_17.out.2 4 _ rfl
  have zX0 := Nat.lt_of_lt_of_le bX0_17.out.1 (Nat.le_trans s1.out (Nat.le_trans s2.out (Nat.le_trans s3.out (Nat.le_trans s4.out (Nat.le_trans s5.out (Nat.le_trans s6.out (Nat.le_trans s7.out (Nat.le_trans s8.out (Nat.le_trans s9.out (Nat.le_trans s10.out (Nat.le_trans s11.out (Nat.le_trans s12.out (Nat.le_trans s13.out (Nat.le_trans s14.out (Nat.le_trans s15.out (Nat.le_trans s16.out s17.out))))))))))))))))
  have eW0 := bW_17.out.2 0 _ rfl
  have eW1 := bW_17.out.2 1 _ rfl
  have eW2 := bW_17.out.2 2 _ rfl
  have eW3 := bW_17.out.2 3 _ rfl
  have eW4 := bW_17.out.2 4 _ rfl
  have zW := Nat.lt_of_lt_of_le bW_17.out.1 (Nat.le_trans s5.out (Nat.le_trans s6.out (Nat.le_trans s7.out (Nat.le_trans s8.out (Nat.le_trans s9.out (Nat.le_trans s10.out (Nat.le_trans s11.out (Nat.le_trans s12.out (Nat.le_trans s13.out (Nat.le_trans s14.out (Nat.le_trans s15.out (Nat.le_trans s16.out s17.out))))))))))))
  have eG0 := bG_17.out.2 0 _ rfl
  have eG1 := bG_17.out.2 1 _ rfl
  have eG2 := bG_17.out.2 2 _ rfl
  have eG3 := bG_17.out.2 3 _ rfl
  have eG4 := bG_17.out.2 4 _ rfl
  have zG := Nat.lt_of_lt_of_le bG_17.out.1 (Nat.le_trans s9.out (Nat.le_trans s10.out (Nat.le_trans s11.out (Nat.le_trans s12.out (Nat.le_trans s13.out (Nat.le_trans s14.out (Nat.le_trans s15.out (Nat.le_trans s16.out s17.out))))))))
  have eH0 := bH_17.out.2 0 _ rfl
  have eH1 := bH_17.out.2 1 _ rfl
  have eH2 := bH_17.out.2 2 _ rfl
  have eH3 := bH_17.out.2 3 _ rfl
  have eH4 := bH_17.out.2 4 _ rfl
  have zH := Nat.lt_of_lt_of_le bH_17.out.1 (Nat.le_refl _)
  go_wp2_with fail
  clear eX00 eX01 eX02 eX03 eX04 zX0 eW0 eW1 eW2 eW3 eW4 zW eG0 eG1 eG2 eG3 eG4 zG eH0 eH1 eH2 eH3 eH4 zH
  refine (eqFl_abs fH0_17.out.rd fH1_17.out.rd fW0_17.out.rd fW1_17.out.rd).mono ?_
  rintro e w18 ⟨rfl, hb⟩
  have t18 := Lib.hid (after t17.out hb)
  have s18 := Lib.hid hb.size
  have fX00_18 := Lib.hid (fX00_17.out.below hb t17.out.size)
  have fX01_18 := Lib.hid (fX01_17.out.below hb t17.out.size)
  have bX0_18 := Lib.hid (bX0_17.out.below hb (Nat.le_trans s1.out (Nat.le_trans s2.out (Nat.le_trans s3.out (Nat.le_trans s4.out (Nat.le_trans s5.out (Nat.le_trans s6.out (Nat.le_trans s7.out (Nat.le_trans s8.out (Nat.le_trans s9.out (Nat.le_trans s10.out (Nat.le_trans s11.out (Nat.le_trans s12.out (Nat.le_trans s13.out (Nat.le_trans s14.out (Nat.le_trans s15.out (Nat.le_trans s16.out s17.out)))))))))))))))))
  have fW0_18 := Lib.hid (fW0_17.out.below hb (Nat.le_trans s4.out (Nat.le_trans s5.out (Nat.le_trans s6.out (Nat.le_trans s7.out (Nat.le_trans s8.out (Nat.le_trans s9.out (Nat.le_trans s10.out (Nat.le_trans s11.out (Nat.le_trans s12.out (Nat.le_trans s13.out (Nat.le_trans s14.out (Nat.le_trans s15.out (Nat.le_trans s16.out s17.out))))))))))))))
  have fW1_18 := Lib.hid (fW1_17.out.below hb (Nat.le_trans s4.out (Nat.le_trans s5.out (Nat.le_trans s6.out (Nat.le_trans s7.out (Nat.le_trans s8.out (Nat.le_trans s9.out (Nat.le_trans s10.out (Nat.le_trans s11.out (Nat.le_trans s12.out (Nat.le_trans s13.out (Nat.le_trans s14.out (Nat.le_trans s15.out (Nat.le_trans s16.out s17.out))))))))))))))
  have bW_18 := Lib.hid (bW_17.out.below hb (Nat.le_trans s5.out (Nat.le_trans s6.out (Nat.le_trans s7.out (Nat.le_trans s8.out (Nat.le_trans s9.out (Nat.le_trans s10.out (Nat.le_trans s11.out (Nat.le_trans s12.out (Nat.le_trans s13.out (Nat.le_trans s14.out (Nat.le_trans s15.out (Nat.le_trans s16.out s17.out)))))))))))))
  have fG0_18 := Lib.hid (fG0_17.out.below hb (Nat.le_trans s8.out (Nat.le_trans s9.out (Nat.le_trans s10.out (Nat.le_trans s11.out (Nat.le_trans s12.out (Nat.le_trans s13.out (Nat.le_trans s14.out (Nat.le_trans s15.out (Nat.le_trans s16.out s17.out))))))))))
  have fG1_18 := Lib.hid (fG1_17.out.below hb (Nat.le_trans s8.out (Nat.le_trans s9.out (Nat.le_trans s10.out (Nat.le_trans s11.out (Nat.le_trans s12.out (Nat.le_trans s13.out (Nat.le_trans s14.out (Nat.le_trans s15.out (Nat.le_trans s16.out s17.out))))))))))
  have bG_18 := Lib.hid (bG_17.out.below hb (Nat.le_trans s9.out (Nat.le_trans s10.out (Nat.le_trans s11.out (Nat.le_trans s12.out (Nat.le_trans s13.out (Nat.le_trans s14.out (Nat.le_trans s15.out (Nat.le_trans s16.out s17.out)))))))))
  have fH0_18 := Lib.hid (fH0_17.out.below hb s17.out)
  have fH1_18 := Lib.hid (fH1_17.out.below hb s17.out)
  have bH_18 := Lib.hid (bH_17.out.below hb (Nat.le_refl _))
  clear fX00_17 fX01_17 bX0_17 fW0_17 fW1_17 bW_17 fG0_17 fG1_17 bG_17 fH0_17 fH1_17 bH_17 hb
  have eX00 := bX0_18.out.2 0 _ rfl
  have eX01 := bX0_18.out.2 1 _ rfl
  have eX02 := bX0_18.out.2 2 _ rfl
  have eX03 := bX0_18.out.2 3 _ rfl
  have eX04 := bX0_18.out.2 4 _ rfl
  have zX0 := Nat.lt_of_lt_of_le bX0_18.out.1 (Nat.le_trans s1.out (Nat.le_trans s2.out (Nat.le_trans s3.out (Nat.le_trans s4.out (Nat.le_trans s5.out (Nat.le_trans s6.out (Nat.le_trans s7.out (Nat.le_trans s8.out (Nat.le_trans s9.out (Nat.le_trans s10.out (Nat.le_trans s11.out (Nat.le_trans s12.out (Nat.le_trans s13.out (Nat.le_trans s14.out (Nat.le_trans s15.out (Nat.le_trans s16.out (Nat.le_trans s17.out s18.out)))))))))))))))))
  have eW0 := bW_18.out.2 0 _ rfl
  have eW1 := bW_18.out.2 1 _ rfl
  have eW2 := bW_18.out.2 2 _ rfl
  have eW3 := bW_18.out.2 3 _ rfl
  have eW4 := bW_18.out.2 4 _ rfl
  have zW := Nat.lt_of_lt_of_le bW_18.out.1 (Nat.le_trans s5.out (Nat.le_trans s6.out (Nat.le_trans s7.out (Nat.le_trans s8.out (Nat.le_trans s9.out (Nat.le_trans s10.out (Nat.le_trans s11.out (Nat.le_trans s12.out (Nat.le_trans s13.out (Nat.le_trans s14.out (Nat.le_trans s15.out (Nat.le_trans s16.out (Nat.le_trans s17.out s18.out)))))))))))))
  have eG0 := bG_18.out.2 0 _ rfl
  have eG1 := bG_18.out.2 1 _ rfl
  have eG2 := bG_18.out.2 2 _ rfl
  have eG3 := bG_18.out.2 3 _ rfl
  have eG4 := bG_18.out.2 4 _ rfl
  have zG := Nat.lt_of_lt_of_le bG_18.out.1 (Nat.le_trans s9.out (Nat.le_trans s10.out (Nat.le_trans s11.out (Nat.le_trans s12.out (Nat.le_trans s13.out (Nat.le_trans s14.out (Nat.le_trans s15.out (Nat.le_trans s16.out (Nat.le_trans s17.out s18.out)))))))))
  have eH0 := bH_18.out.2 0 _ rfl
  have eH1 := bH_18.out.2 1 _ rfl
  have eH2 := bH_18.out.2 2 _ rfl
  have eH3 := bH_18.out.2 3 _ rfl
  have eH4 := bH_18.out.2 4 _ rfl
  have zH := Nat.lt_of_lt_of_le bH_18.out.1 s18.out
  go_wp2_with fail
  clear eX00 eX01 eX02 eX03 eX04 zX0 eW0 eW1 eW2 eW3 eW4 zW eG0 eG1 eG2 eG3 eG4 zG eH0 eH1 eH2 eH3 eH4 zH
  refine (heldFl_abs' 1 1 (by simp) fG0_18.out.rd fG1_18.out.rd (by omega) (by omega)).mono ?_
  rintro e w19 ⟨rfl, hb⟩
  have t19 := Lib.hid (after t18.out hb)
  have s19 := Lib.hid hb.size
  have fX00_19 := Lib.hid (fX00_18.out.below hb t18.out.size)
  have fX01_19 := Lib.hid (fX01_18.out.below hb t18.out.size)
  have bX0_19 := Lib.hid (bX0_18.out.below hb (Nat.le_trans s1.out (Nat.le_trans s2.out (Nat.le_trans s3.out (Nat.le_trans s4.out (Nat.le_trans s5.out (Nat.le_trans s6.out (Nat.le_trans s7.out (Nat.le_trans s8.out (Nat.le_trans s9.out (Nat.le_trans s10.out (Nat.le_trans s11.out (Nat.le_trans s12.out (Nat.le_trans s13.out (Nat.le_trans s14.out (Nat.le_trans s15.out (Nat.le_trans s16.out (Nat.le_trans s17.out s18.out))))))))))))))))))
  have fW0_19 := Lib.hid (fW0_18.out.below hb (Nat.le_trans s4.out (Nat.le_trans s5.out (Nat.le_trans s6.out (Nat.le_trans s7.out (Nat.le_trans s8.out (Nat.le_trans s9.out (Nat.le_trans s10.out (Nat.le_trans s11.out (Nat.le_trans s12.out (Nat.le_trans s13.out (Nat.le_trans s14.out (Nat.le_trans s15.out (Nat.le_trans s16.out (Nat.le_trans s17.out s18.out)))))))))))))))
  have fW1_19 := Lib.hid (fW1_18.out.below hb (Nat.le_trans s4.out (Nat.le_trans s5.out (Nat.le_trans s6.out (Nat.le_trans s7.out (Nat.le_trans s8.out (Nat.le_trans s9.out (Nat.le_trans s10.out (Nat.le_trans s11.out (Nat.le_trans s12.out (Nat.le_trans s13.out (Nat.le_trans s14.out (Nat.le_trans s15.out (Nat.le_trans s16.out (Nat.le_trans s17.out s18.out)))))))))))))))
  have bW_19 := Lib.hid (bW_18.out.below hb (Nat.le_trans s5.out (Nat.le_trans s6.out (Nat.le_trans s7.out (Nat.le_trans s8.out (Nat.le_trans s9.out (Nat.le_trans s10.out (Nat.le_trans s11.out (Nat.le_trans s12.out (Nat.le_trans s13.out (Nat.le_trans s14.out (Nat.le_trans s15.out (Nat.le_trans s16.out (Nat.le_trans s17.out s18.out))))))))))))))
  have fG0_19 := Lib.hid (fG0_18.out.below hb (Nat.le_trans s8.out (Nat.le_trans s9.out (Nat.le_trans s10.out (Nat.le_trans s11.out (Nat.le_trans s12.out (Nat.le_trans s13.out (Nat.le_trans s14.out (Nat.le_trans s15.out (Nat.le_trans s16.out (Nat.le_trans s17.out s18.out)))))))))))
  have fG1_19 := Lib.hid (fG1_18.out.below hb (Nat.le_trans s8.out (Nat.le_trans s9.out (Nat.le_trans s10.out (Nat.le_trans s11.out (Nat.le_trans s12.out (Nat.le_trans s13.out (Nat.le_trans s14.out (Nat.le_trans s15.out (Nat.le_trans s16.out (Nat.le_trans s17.out s18.out)))))))))))
  have bG_19 := Lib.hid (bG_18.out.below hb (Nat.le_trans s9.out (Nat.le_trans s10.out (Nat.le_trans s11.out (Nat.le_trans s12.out (Nat.le_trans s13.out (Nat.le_trans s14.out (Nat.le_trans s15.out (Nat.le_trans s16.out (Nat.le_trans s17.out s18.out))))))))))
  have fH0_19 := Lib.hid (fH0_18.out.below hb (Nat.le_trans s17.out s18.out))
  have fH1_19 := Lib.hid (fH1_18.out.below hb (Nat.le_trans s17.out s18.out))
  have bH_19 := Lib.hid (bH_18.out.below hb s18.out)
  clear fX00_18 fX01_18 bX0_18 fW0_18 fW1_18 bW_18 fG0_18 fG1_18 bG_18 fH0_18 fH1_18 bH_18 hb
  go_wp2
  go_ret
  exact ⟨rfl, t19.out⟩
end fnExactSpeakFor
end Go.Proofs.Ytbpikbcnpmplfaa
