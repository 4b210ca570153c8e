/- The walk of the law on SpeakingOrder: it returns true. Conditions: none. -/
import Derived.Test.YtcojohcnkafgdaaFlM
import Derived.Test.YtcojohcnkafgdaaIab
import Derived.Test.YtcojohcnkafgdaaSo5
namespace Go.Proofs.Ytcojohcnkafgdaa
open Go.RowKit
set_option linter.unusedVariables false
section
variable {B B' : Nat} {w : World} {A D : Option Addr} {c d : Nat} {f : Flr}
theorem SpeakingOrder_abs (h : Rd IntK B w A c f.wt) (h' : Rd ShareK B' w D d f.sh) : Calls Try.prog 33 #[.agg #[.int .i64 f.t, .int .i64 f.s, .int .i64 f.sp, .slice A f.wt.length c, .slice D f.sh.length d]] w (ToLB IntK 3 w (soL f) (vldF f)) :=
  SpeakingOrder_any A D c d f w h.cells h.2.2.1 h.1 h'.cells h'.2.2.1
theorem sSpeakingOrder_abs (h : Rd IntK B w A c f.wt) (h' : Rd ShareK B' w D d f.sh) : Calls Try.prog 32 #[.agg #[.int .i64 f.t, .int .i64 f.s, .int .i64 f.sp, .slice A f.wt.length c, .slice D f.sh.length d]] w (ToLB IntK 3 w (soL f) (vldF f)) :=
  sSpeakingOrder_any A D c d f w h.cells h.2.2.1 h.1 h'.cells h'.2.2.1
end
namespace fnExactSpeakingOrder
set_option maxRecDepth 100000 in
set_option maxHeartbeats 4000000 in
theorem walk (AX00 : Option Addr) (cX00 : Nat) (AX01 : Option Addr) (cX01 : Nat) (f : Flr) (w : World) (hx00 : ((f).wt).length ≤ cX00 ∧ Cells w AX00 (IntK.row (f).wt) ∧ ((f).wt).length ≤ maxLen ∧ ∀ x ∈ (f).wt, IntK.fit x) (hx01 : ((f).sh).length ≤ cX01 ∧ Cells w AX01 (ShareK.row (f).sh) ∧ ((f).sh).length ≤ maxLen ∧ ∀ x ∈ (f).sh, ShareK.fit x) :
    Calls Try.prog 9 #[.agg #[.int .i64 (f).t, .int .i64 (f).s, .int .i64 (f).sp, .slice AX00 ((f).wt).length cX00, .slice AX01 ((f).sh).length cX01]] w fun e w' => e = .returned (.bool true) ∧ Below w.heap.size w w' := by
  have fX00_i := Lib.hid (show Rd0 IntK w.heap.size w AX00 cX00 (f).wt from ⟨hx00.1, CellsB.of_cells hx00.2.1, hx00.2.2⟩)
  have fX01_i := Lib.hid (show Rd0 ShareK w.heap.size w AX01 cX01 (f).sh from ⟨hx01.1, CellsB.of_cells hx01.2.1, hx01.2.2⟩)
  clear hx00 hx01
  go_enter Try.func9, Try.ntmps9
  have t0 : Below w.heap.size w (w.alloc (.cells #[.int .i64 (f).t, .int .i64 (f).s, .int .i64 (f).sp, .slice AX00 ((f).wt).length cX00, .slice AX01 ((f).sh).length cX01] 25)) := by go_grown
  have nb0 : BoxL (w.alloc (.cells #[.int .i64 (f).t, .int .i64 (f).s, .int .i64 (f).sp, .slice AX00 ((f).wt).length cX00, .slice AX01 ((f).sh).length cX01] 25)).heap.size (w.alloc (.cells #[.int .i64 (f).t, .int .i64 (f).s, .int .i64 (f).sp, .slice AX00 ((f).wt).length cX00, .slice AX01 ((f).sh).length cX01] 25)) (w.heap.size) (#[.int .i64 (f).t, .int .i64 (f).s, .int .i64 (f).sp, .slice AX00 ((f).wt).length cX00, .slice AX01 ((f).sh).length cX01] : Array Value).toList := by
    refine ⟨by simp only [World.size_alloc]; omega, fun i v hi => ?_⟩
    have h1 := (BoxL.new w #[.int .i64 (f).t, .int .i64 (f).s, .int .i64 (f).sp, .slice AX00 ((f).wt).length cX00, .slice AX01 ((f).sh).length cX01] 25).2 i v hi
    simpa using h1
  go_wp2_with fail
  generalize (w.alloc (.cells #[.int .i64 (f).t, .int .i64 (f).s, .int .i64 (f).sp, .slice AX00 ((f).wt).length cX00, .slice AX01 ((f).sh).length cX01] 25)) = w0 at *
  have bX0_0 := Lib.hid nb0
  have T0 := Lib.hid t0
  clear t0
  have t0 := T0
  have fX00_0 := Lib.hid (fX00_i.out.below t0.out (Nat.le_refl _))
  have fX01_0 := Lib.hid (fX01_i.out.below t0.out (Nat.le_refl _))
  clear nb0 T0 fX00_i fX01_i
  refine (szFl_abs (1048576) fX00_0.out fX01_0.out (by omega) (by omega)).mono ?_
  rintro e w1 ⟨rfl, hb⟩
  have t1 := Lib.hid (after t0.out hb)
  have s1 := Lib.hid hb.size
  have fX00_1 := Lib.hid (fX00_0.out.below hb t0.out.size)
  have fX01_1 := Lib.hid (fX01_0.out.below hb t0.out.size)
  have bX0_1 := Lib.hid (bX0_0.out.below hb (Nat.le_refl _))
  clear fX00_0 fX01_0 bX0_0 hb
  rcases Int.lt_or_le ((szF (f)) (1048576)) 0 with hz | hz
  · go_wp2_with fail
    go_ret
    exact ⟨rfl, t1.out⟩
  have hz0 : ¬ (szF (f)) (1048576) < 0 := by omega
  obtain ⟨fit0, lo0, hi0⟩ := szF_fit hz0 (by omega)
  have FT0 := Lib.hid fit0
  clear fit0 hz
  have fX00_1r := Lib.hid (fX00_1.out.rd (FT0.out.1))
  have fX01_1r := Lib.hid (fX01_1.out.rd (FT0.out.2))
  clear fX00_1 fX01_1
  have eX00 := bX0_1.out.2 0 _ rfl
  have eX01 := bX0_1.out.2 1 _ rfl
  have eX02 := bX0_1.out.2 2 _ rfl
  have eX03 := bX0_1.out.2 3 _ rfl
  have eX04 := bX0_1.out.2 4 _ rfl
  have zX0 := Nat.lt_of_lt_of_le bX0_1.out.1 s1.out
  go_wp2_with fail
  clear eX00 eX01 eX02 eX03 eX04 zX0
  refine (toFl_abs fX00_1r.out fX01_1r.out).mono ?_
  rintro e w2 ⟨AWa00, cWa00, AWa01, cWa01, rfl, oWa00, oWa01, hb⟩
  have t2 := Lib.hid (after t1.out hb)
  have s2 := Lib.hid hb.size
  have fX00_2 := Lib.hid (fX00_1r.out.below hb t1.out.size)
  have fX01_2 := Lib.hid (fX01_1r.out.below hb t1.out.size)
  have bX0_2 := Lib.hid (bX0_1.out.below hb s1.out)
  have fWa00_2 := Lib.hid oWa00
  have fWa01_2 := Lib.hid oWa01
  clear fX00_1r fX01_1r bX0_1 oWa00 oWa01 hb
  have eX00 := bX0_2.out.2 0 _ rfl
  have eX01 := bX0_2.out.2 1 _ rfl
  have eX02 := bX0_2.out.2 2 _ rfl
  have eX03 := bX0_2.out.2 3 _ rfl
  have eX04 := bX0_2.out.2 4 _ rfl
  have zX0 := Nat.lt_of_lt_of_le bX0_2.out.1 (Nat.le_trans s1.out s2.out)
  go_wp2_with fail
  clear eX00 eX01 eX02 eX03 eX04 zX0
  refine (sSpeakingOrder_abs fWa00_2.out.rd fWa01_2.out.rd).mono ?_
  rintro e w3 ⟨AW0, cW0, rfl, oW0, hb⟩
  have t3 := Lib.hid (after t2.out hb)
  have s3 := Lib.hid hb.size
  have fX00_3 := Lib.hid (fX00_2.out.below hb t2.out.size)
  have fX01_3 := Lib.hid (fX01_2.out.below hb t2.out.size)
  have bX0_3 := Lib.hid (bX0_2.out.below hb (Nat.le_trans s1.out s2.out))
  have fWa00_3 := Lib.hid (fWa00_2.out.below hb (Nat.le_refl _))
  have fWa01_3 := Lib.hid (fWa01_2.out.below hb (Nat.le_refl _))
  have fW0_3 := Lib.hid oW0
  clear fX00_2 fX01_2 bX0_2 fWa00_2 fWa01_2 oW0 hb
  clear fWa00_3 fWa01_3
  have eX00 := bX0_3.out.2 0 _ rfl
  have eX01 := bX0_3.out.2 1 _ rfl
  have eX02 := bX0_3.out.2 2 _ rfl
  have eX03 := bX0_3.out.2 3 _ rfl
  have eX04 := bX0_3.out.2 4 _ rfl
  have zX0 := Nat.lt_of_lt_of_le bX0_3.out.1 (Nat.le_trans s1.out (Nat.le_trans s2.out s3.out))
  go_wp2_with fail
  clear eX00 eX01 eX02 eX03 eX04 zX0
  refine (toFl_abs fX00_3.out fX01_3.out).mono ?_
  rintro e w4 ⟨AY00, cY00, AY01, cY01, rfl, oY00, oY01, hb⟩
  have t4 := Lib.hid (after t3.out hb)
  have s4 := Lib.hid hb.size
  have fX00_4 := Lib.hid (fX00_3.out.below hb t3.out.size)
  have fX01_4 := Lib.hid (fX01_3.out.below hb t3.out.size)
  have bX0_4 := Lib.hid (bX0_3.out.below hb (Nat.le_trans s1.out (Nat.le_trans s2.out s3.out)))
  have fW0_4 := Lib.hid (fW0_3.out.below hb (Nat.le_refl _))
  have fY00_4 := Lib.hid oY00
  have fY01_4 := Lib.hid oY01
  clear fX00_3 fX01_3 bX0_3 fW0_3 oY00 oY01 hb
  have nb := (BoxL.new w4 #[.int .i64 (f).t, .int .i64 (f).s, .int .i64 (f).sp, .slice AY00 ((f).wt).length cY00, .slice AY01 ((f).sh).length cY01] 30).mono (show w4.heap.size + 1 ≤ (w4.alloc (.cells #[.int .i64 (f).t, .int .i64 (f).s, .int .i64 (f).sp, .slice AY00 ((f).wt).length cY00, .slice AY01 ((f).sh).length cY01] 30)).heap.size by simp)
  have hb : Below w4.heap.size w4 (w4.alloc (.cells #[.int .i64 (f).t, .int .i64 (f).s, .int .i64 (f).sp, .slice AY00 ((f).wt).length cY00, .slice AY01 ((f).sh).length cY01] 30)) := by go_grown
  have eX00 := bX0_4.out.2 0 _ rfl
  have eX01 := bX0_4.out.2 1 _ rfl
  have eX02 := bX0_4.out.2 2 _ rfl
  have eX03 := bX0_4.out.2 3 _ rfl
  have eX04 := bX0_4.out.2 4 _ rfl
  have zX0 := Nat.lt_of_lt_of_le bX0_4.out.1 (Nat.le_trans s1.out (Nat.le_trans s2.out (Nat.le_trans s3.out s4.out)))
  go_wp2_with fail
  clear eX00 eX01 eX02 eX03 eX04 zX0
  generalize w4.alloc (.cells #[.int .i64 (f).t, .int .i64 (f).s, .int .i64 (f).sp, .slice AY00 ((f).wt).length cY00, .slice AY01 ((f).sh).length cY01] 30) = w5 at *
  have t5 := Lib.hid (after t4.out hb)
  have s5 := Lib.hid hb.size
  have fX00_5 := Lib.hid (fX00_4.out.below hb t4.out.size)
  have fX01_5 := Lib.hid (fX01_4.out.below hb t4.out.size)
  have bX0_5 := Lib.hid (bX0_4.out.below hb (Nat.le_trans s1.out (Nat.le_trans s2.out (Nat.le_trans s3.out s4.out))))
  have fW0_5 := Lib.hid (fW0_4.out.below hb s4.out)
  have fY00_5 := Lib.hid (fY00_4.out.below hb (Nat.le_refl _))
  have fY01_5 := Lib.hid (fY01_4.out.below hb (Nat.le_refl _))
  have bY0_5 := Lib.hid nb
  clear fX00_4 fX01_4 bX0_4 fW0_4 fY00_4 fY01_4 nb hb
  refine (SpeakingOrder_abs fY00_5.out.rd fY01_5.out.rd).mono ?_
  rintro e w6 ⟨AG0, cG0, rfl, oG0, hb⟩
  have t6 := Lib.hid (after t5.out hb)
  have s6 := Lib.hid hb.size
  have fX00_6 := Lib.hid (fX00_5.out.below hb t5.out.size)
  have fX01_6 := Lib.hid (fX01_5.out.below hb t5.out.size)
  have bX0_6 := Lib.hid (bX0_5.out.below hb (Nat.le_trans s1.out (Nat.le_trans s2.out (Nat.le_trans s3.out (Nat.le_trans s4.out s5.out)))))
  have fW0_6 := Lib.hid (fW0_5.out.below hb (Nat.le_trans s4.out s5.out))
  have fY00_6 := Lib.hid (fY00_5.out.below hb s5.out)
  have fY01_6 := Lib.hid (fY01_5.out.below hb s5.out)
  have bY0_6 := Lib.hid (bY0_5.out.below hb (Nat.le_refl _))
  have fG0_6 := Lib.hid oG0
  clear fX00_5 fX01_5 bX0_5 fW0_5 fY00_5 fY01_5 bY0_5 oG0 hb
  have eX00 := bX0_6.out.2 0 _ rfl
  have eX01 := bX0_6.out.2 1 _ rfl
  have eX02 := bX0_6.out.2 2 _ rfl
  have eX03 := bX0_6.out.2 3 _ rfl
  have eX04 := bX0_6.out.2 4 _ rfl
  have zX0 := Nat.lt_of_lt_of_le bX0_6.out.1 (Nat.le_trans s1.out (Nat.le_trans s2.out (Nat.le_trans s3.out (Nat.le_trans s4.out (Nat.le_trans s5.out s6.out)))))
  have eY00 := bY0_6.out.2 0 _ rfl
  have eY01 := bY0_6.out.2 1 _ rfl
  have eY02 := bY0_6.out.2 2 _ rfl
  have eY03 := bY0_6.out.2 3 _ rfl
  have eY04 := bY0_6.out.2 4 _ rfl
  have zY0 := Nat.lt_of_lt_of_le bY0_6.out.1 s6.out
  go_wp2_with fail
  clear eX00 eX01 eX02 eX03 eX04 zX0 eY00 eY01 eY02 eY03 eY04 zY0
  refine (eqI_abs fG0_6.out.rd fW0_6.out.rd).mono ?_
  rintro e w7 ⟨rfl, hb⟩
  have t7 := Lib.hid (after t6.out hb)
  have s7 := Lib.hid hb.size
  have fX00_7 := Lib.hid (fX00_6.out.below hb t6.out.size)
  have fX01_7 := Lib.hid (fX01_6.out.below hb t6.out.size)
  have bX0_7 := Lib.hid (bX0_6.out.below hb (Nat.le_trans s1.out (Nat.le_trans s2.out (Nat.le_trans s3.out (Nat.le_trans s4.out (Nat.le_trans s5.out s6.out))))))
  have fW0_7 := Lib.hid (fW0_6.out.below hb (Nat.le_trans s4.out (Nat.le_trans s5.out s6.out)))
  have fY00_7 := Lib.hid (fY00_6.out.below hb (Nat.le_trans s5.out s6.out))
  have fY01_7 := Lib.hid (fY01_6.out.below hb (Nat.le_trans s5.out s6.out))
  have bY0_7 := Lib.hid (bY0_6.out.below hb s6.out)
  have fG0_7 := Lib.hid (fG0_6.out.below hb (Nat.le_refl _))
  clear fX00_6 fX01_6 bX0_6 fW0_6 fY00_6 fY01_6 bY0_6 fG0_6 hb
  have eX00 := bX0_7.out.2 0 _ rfl
  have eX01 := bX0_7.out.2 1 _ rfl
  have eX02 := bX0_7.out.2 2 _ rfl
  have eX03 := bX0_7.out.2 3 _ rfl
  have eX04 := bX0_7.out.2 4 _ rfl
  have zX0 := Nat.lt_of_lt_of_le bX0_7.out.1 (Nat.le_trans s1.out (Nat.le_trans s2.out (Nat.le_trans s3.out (Nat.le_trans s4.out (Nat.le_trans s5.out (Nat.le_trans s6.out s7.out))))))
  have eY00 := bY0_7.out.2 0 _ rfl
  have eY01 := bY0_7.out.2 1 _ rfl
  have eY02 := bY0_7.out.2 2 _ rfl
  have eY03 := bY0_7.out.2 3 _ rfl
  have eY04 := bY0_7.out.2 4 _ rfl
  have zY0 := Nat.lt_of_lt_of_le bY0_7.out.1 (Nat.le_trans s6.out s7.out)
  go_wp2_with fail
  go_region_held3 (fun w' => Below w7.heap.size w7 w' ∧ (∀ b o, b < w7.heap.size → w'.cell? ⟨b, o, none⟩ = w7.cell? ⟨b, o, none⟩))
    ((first | (refine mkS ?_; assumption) | (refine drewS ?_; assumption) | (refine mkS ?_; go_grown)))
    (first
      | (go_at_call 17; refine (toFl_abs (B := w.heap.size) (B' := w.heap.size) ?_ ?_).mono ?_; exact fX00_7.out.below (S1 (by assumption)) t7.out.size; exact fX01_7.out.below (S1 (by assumption)) t7.out.size; rintro e v ⟨AZ00, cZ00, AZ01, cZ01, rfl, oZ00, oZ01, hb⟩; obtain ⟨hB, hzz⟩ := callS (by assumption) (Nat.le_refl _) hb; have HBy := Lib.hid hB; clear hb)
      | (go_at_call 19; refine (eqFl_abs (B := w4.heap.size) (B' := w4.heap.size) (B'' := v.heap.size) (B3 := v.heap.size) ?_ ?_ ?_ ?_).mono ?_; exact fY00_7.out.rd.below HBy.out (Nat.le_trans s5.out (Nat.le_trans s6.out s7.out)); exact fY01_7.out.rd.below HBy.out (Nat.le_trans s5.out (Nat.le_trans s6.out s7.out)); exact oZ00.rd; exact oZ01.rd; rintro e w8 ⟨rfl, hb⟩; obtain ⟨hB, hzz⟩ := callS (by assumption) (Nat.le_refl _) hb; have HBz := Lib.hid hB; clear hb))
  have t8 := Lib.hid (after t7.out HBz.out)
  have s8 := Lib.hid HBz.out.size
  have fX00_8 := Lib.hid (fX00_7.out.below HBz.out t7.out.size)
  have fX01_8 := Lib.hid (fX01_7.out.below HBz.out t7.out.size)
  have bX0_8 := Lib.hid (bX0_7.out.below HBz.out (Nat.le_trans s1.out (Nat.le_trans s2.out (Nat.le_trans s3.out (Nat.le_trans s4.out (Nat.le_trans s5.out (Nat.le_trans s6.out s7.out)))))))
  have fW0_8 := Lib.hid (fW0_7.out.below HBz.out (Nat.le_trans s4.out (Nat.le_trans s5.out (Nat.le_trans s6.out s7.out))))
  have fY00_8 := Lib.hid (fY00_7.out.below HBz.out (Nat.le_trans s5.out (Nat.le_trans s6.out s7.out)))
  have fY01_8 := Lib.hid (fY01_7.out.below HBz.out (Nat.le_trans s5.out (Nat.le_trans s6.out s7.out)))
  have bY0_8 := Lib.hid (bY0_7.out.below HBz.out (Nat.le_trans s6.out s7.out))
  have fG0_8 := Lib.hid (fG0_7.out.below HBz.out s7.out)
  clear eX00 eX01 eX02 eX03 eX04 zX0 eY00 eY01 eY02 eY03 eY04 zY0 fX00_7 fX01_7 bX0_7 fW0_7 fY00_7 fY01_7 bY0_7 fG0_7
  have eX00 := bX0_8.out.2 0 _ rfl
  have eX01 := bX0_8.out.2 1 _ rfl
  have eX02 := bX0_8.out.2 2 _ rfl
  have eX03 := bX0_8.out.2 3 _ rfl
  have eX04 := bX0_8.out.2 4 _ rfl
  have zX0 := Nat.lt_of_lt_of_le bX0_8.out.1 (Nat.le_trans s1.out (Nat.le_trans s2.out (Nat.le_trans s3.out (Nat.le_trans s4.out (Nat.le_trans s5.out (Nat.le_trans s6.out (Nat.le_trans s7.out s8.out)))))))
  have eY00 := bY0_8.out.2 0 _ rfl
  have eY01 := bY0_8.out.2 1 _ rfl
  have eY02 := bY0_8.out.2 2 _ rfl
  have eY03 := bY0_8.out.2 3 _ rfl
  have eY04 := bY0_8.out.2 4 _ rfl
  have zY0 := Nat.lt_of_lt_of_le bY0_8.out.1 (Nat.le_trans s6.out (Nat.le_trans s7.out s8.out))
  go_wp2_with fail
  clear eX00 eX01 eX02 eX03 eX04 zX0 eY00 eY01 eY02 eY03 eY04 zY0
  have lnY00 := fY00_8.out.2.2.1
  have lnY01 := fY01_8.out.2.2.1
  refine (markFl_abs' 1 1 (by simp) fY00_8.out fY01_8.out (Nat.le_trans s5.out (Nat.le_trans s6.out (Nat.le_trans s7.out s8.out))) (by omega) (by omega)).mono ?_
  rintro e w9 ⟨rfl, oY00, oY01, ho⟩
  have t9 := Lib.hid (t8.out.trans (ho.below (Nat.le_trans s4.out (Nat.le_trans s5.out (Nat.le_trans s6.out (Nat.le_trans s7.out s8.out)))) |>.mono t3.out.size))
  have s9 := Lib.hid ho.size
  have fX00_9 := Lib.hid (fX00_8.out.below (ho.below (Nat.le_trans s4.out (Nat.le_trans s5.out (Nat.le_trans s6.out (Nat.le_trans s7.out s8.out))))) t3.out.size)
  have fX01_9 := Lib.hid (fX01_8.out.below (ho.below (Nat.le_trans s4.out (Nat.le_trans s5.out (Nat.le_trans s6.out (Nat.le_trans s7.out s8.out))))) t3.out.size)
  have bX0_9 := Lib.hid (bX0_8.out.below (ho.below (Nat.le_trans s4.out (Nat.le_trans s5.out (Nat.le_trans s6.out (Nat.le_trans s7.out s8.out))))) (Nat.le_trans s1.out (Nat.le_trans s2.out s3.out)))
  have fW0_9 := Lib.hid (fW0_8.out.only ho (.inl (Nat.le_refl _)))
  have bY0_9 := Lib.hid (bY0_8.out.only ho (Nat.le_refl _) (Nat.lt_of_lt_of_le bY0_8.out.1 (Nat.le_trans s6.out (Nat.le_trans s7.out s8.out))))
  have fG0_9 := Lib.hid (fG0_8.out.only ho (.inr s5.out))
  have fY00_9 := Lib.hid oY00
  have fY01_9 := Lib.hid oY01
  clear fX00_8 fX01_8 bX0_8 fW0_8 bY0_8 fG0_8 fY00_8 oY00 fY01_8 oY01 ho
  clear fY00_9 fY01_9 bY0_9
  have eX00 := bX0_9.out.2 0 _ rfl
  have eX01 := bX0_9.out.2 1 _ rfl
  have eX02 := bX0_9.out.2 2 _ rfl
  have eX03 := bX0_9.out.2 3 _ rfl
  have eX04 := bX0_9.out.2 4 _ rfl
  have zX0 := Nat.lt_of_lt_of_le bX0_9.out.1 (Nat.le_trans s1.out (Nat.le_trans s2.out (Nat.le_trans s3.out (Nat.le_trans s4.out (Nat.le_trans s5.out (Nat.le_trans s6.out (Nat.le_trans s7.out (Nat.le_trans s8.out s9.out))))))))
  go_wp2_with fail
  clear eX00 eX01 eX02 eX03 eX04 zX0
  refine (eqI_abs fG0_9.out.rd fW0_9.out.rd).mono ?_
  rintro e w10 ⟨rfl, hb⟩
  have t10 := Lib.hid (after t9.out hb)
  have s10 := Lib.hid hb.size
  have fX00_10 := Lib.hid (fX00_9.out.below hb t9.out.size)
  have fX01_10 := Lib.hid (fX01_9.out.below hb t9.out.size)
  have bX0_10 := Lib.hid (bX0_9.out.below hb (Nat.le_trans s1.out (Nat.le_trans s2.out (Nat.le_trans s3.out (Nat.le_trans s4.out (Nat.le_trans s5.out (Nat.le_trans s6.out (Nat.le_trans s7.out (Nat.le_trans s8.out s9.out)))))))))
  have fW0_10 := Lib.hid (fW0_9.out.below hb (Nat.le_trans s4.out (Nat.le_trans s5.out (Nat.le_trans s6.out (Nat.le_trans s7.out (Nat.le_trans s8.out s9.out))))))
  have fG0_10 := Lib.hid (fG0_9.out.below hb (Nat.le_trans s7.out (Nat.le_trans s8.out s9.out)))
  clear fX00_9 fX01_9 bX0_9 fW0_9 fG0_9 hb
  have eX00 := bX0_10.out.2 0 _ rfl
  have eX01 := bX0_10.out.2 1 _ rfl
  have eX02 := bX0_10.out.2 2 _ rfl
  have eX03 := bX0_10.out.2 3 _ rfl
  have eX04 := bX0_10.out.2 4 _ rfl
  have zX0 := Nat.lt_of_lt_of_le bX0_10.out.1 (Nat.le_trans s1.out (Nat.le_trans s2.out (Nat.le_trans s3.out (Nat.le_trans s4.out (Nat.le_trans s5.out (Nat.le_trans s6.out (Nat.le_trans s7.out (Nat.le_trans s8.out (Nat.le_trans s9.out s10.out)))))))))
  go_wp2_with fail
  clear eX00 eX01 eX02 eX03 eX04 zX0
  have lnG0 := fG0_10.out.2.2.1
  refine (markI_abs' 1 1 (by simp) fG0_10.out (Nat.le_trans s7.out (Nat.le_trans s8.out (Nat.le_trans s9.out s10.out))) (by omega) (by omega)).mono ?_
  rintro e w11 ⟨rfl, oG0, ho⟩
  have t11 := Lib.hid (t10.out.trans (ho.below (Nat.le_trans s6.out (Nat.le_trans s7.out (Nat.le_trans s8.out (Nat.le_trans s9.out s10.out)))) |>.mono t5.out.size))
  have s11 := Lib.hid ho.size
  have fX00_11 := Lib.hid (fX00_10.out.below (ho.below (Nat.le_trans s6.out (Nat.le_trans s7.out (Nat.le_trans s8.out (Nat.le_trans s9.out s10.out))))) t5.out.size)
  have fX01_11 := Lib.hid (fX01_10.out.below (ho.below (Nat.le_trans s6.out (Nat.le_trans s7.out (Nat.le_trans s8.out (Nat.le_trans s9.out s10.out))))) t5.out.size)
  have bX0_11 := Lib.hid (bX0_10.out.below (ho.below (Nat.le_trans s6.out (Nat.le_trans s7.out (Nat.le_trans s8.out (Nat.le_trans s9.out s10.out))))) (Nat.le_trans s1.out (Nat.le_trans s2.out (Nat.le_trans s3.out (Nat.le_trans s4.out s5.out)))))
  have fW0_11 := Lib.hid (fW0_10.out.only ho (.inl (Nat.le_trans s4.out s5.out)))
  have fG0_11 := Lib.hid oG0
  clear fX00_10 fX01_10 bX0_10 fW0_10 fG0_10 oG0 ho
  have eX00 := bX0_11.out.2 0 _ rfl
  have eX01 := bX0_11.out.2 1 _ rfl
  have eX02 := bX0_11.out.2 2 _ rfl
  have eX03 := bX0_11.out.2 3 _ rfl
  have eX04 := bX0_11.out.2 4 _ rfl
  have zX0 := Nat.lt_of_lt_of_le bX0_11.out.1 (Nat.le_trans s1.out (Nat.le_trans s2.out (Nat.le_trans s3.out (Nat.le_trans s4.out (Nat.le_trans s5.out (Nat.le_trans s6.out (Nat.le_trans s7.out (Nat.le_trans s8.out (Nat.le_trans s9.out (Nat.le_trans s10.out s11.out))))))))))
  go_wp2_with fail
  clear eX00 eX01 eX02 eX03 eX04 zX0
  refine (heldI_abs' 1 1 (by simp) fG0_11.out.rd (by omega) (by omega)).mono ?_
  rintro e w12 ⟨rfl, hb⟩
  have t12 := Lib.hid (after t11.out hb)
  have s12 := Lib.hid hb.size
  have fX00_12 := Lib.hid (fX00_11.out.below hb t11.out.size)
  have fX01_12 := Lib.hid (fX01_11.out.below hb t11.out.size)
  have bX0_12 := Lib.hid (bX0_11.out.below hb (Nat.le_trans s1.out (Nat.le_trans s2.out (Nat.le_trans s3.out (Nat.le_trans s4.out (Nat.le_trans s5.out (Nat.le_trans s6.out (Nat.le_trans s7.out (Nat.le_trans s8.out (Nat.le_trans s9.out (Nat.le_trans s10.out s11.out)))))))))))
  have fW0_12 := Lib.hid (fW0_11.out.below hb (Nat.le_trans s4.out (Nat.le_trans s5.out (Nat.le_trans s6.out (Nat.le_trans s7.out (Nat.le_trans s8.out (Nat.le_trans s9.out (Nat.le_trans s10.out s11.out))))))))
  have fG0_12 := Lib.hid (fG0_11.out.below hb (Nat.le_trans s7.out (Nat.le_trans s8.out (Nat.le_trans s9.out (Nat.le_trans s10.out s11.out)))))
  clear fX00_11 fX01_11 bX0_11 fW0_11 fG0_11 hb
  have eX00 := bX0_12.out.2 0 _ rfl
  have eX01 := bX0_12.out.2 1 _ rfl
  have eX02 := bX0_12.out.2 2 _ rfl
  have eX03 := bX0_12.out.2 3 _ rfl
  have eX04 := bX0_12.out.2 4 _ rfl
  have zX0 := Nat.lt_of_lt_of_le bX0_12.out.1 (Nat.le_trans s1.out (Nat.le_trans s2.out (Nat.le_trans s3.out (Nat.le_trans s4.out (Nat.le_trans s5.out (Nat.le_trans s6.out (Nat.le_trans s7.out (Nat.le_trans s8.out (Nat.le_trans s9.out (Nat.le_trans s10.out (Nat.le_trans s11.out s12.out)))))))))))
  go_wp2_with fail
  clear eX00 eX01 eX02 eX03 eX04 zX0
  refine (toFl_abs fX00_12.out fX01_12.out).mono ?_
  rintro e w13 ⟨AHa00, cHa00, AHa01, cHa01, rfl, oHa00, oHa01, hb⟩
  have t13 := Lib.hid (after t12.out hb)
  have s13 := Lib.hid hb.size
  have fX00_13 := Lib.hid (fX00_12.out.below hb t12.out.size)
  have fX01_13 := Lib.hid (fX01_12.out.below hb t12.out.size)
  have bX0_13 := Lib.hid (bX0_12.out.below hb (Nat.le_trans s1.out (Nat.le_trans s2.out (Nat.le_trans s3.out (Nat.le_trans s4.out (Nat.le_trans s5.out (Nat.le_trans s6.out (Nat.le_trans s7.out (Nat.le_trans s8.out (Nat.le_trans s9.out (Nat.le_trans s10.out (Nat.le_trans s11.out s12.out))))))))))))
  have fW0_13 := Lib.hid (fW0_12.out.below hb (Nat.le_trans s4.out (Nat.le_trans s5.out (Nat.le_trans s6.out (Nat.le_trans s7.out (Nat.le_trans s8.out (Nat.le_trans s9.out (Nat.le_trans s10.out (Nat.le_trans s11.out s12.out)))))))))
  have fG0_13 := Lib.hid (fG0_12.out.below hb (Nat.le_trans s7.out (Nat.le_trans s8.out (Nat.le_trans s9.out (Nat.le_trans s10.out (Nat.le_trans s11.out s12.out))))))
  have fHa00_13 := Lib.hid oHa00
  have fHa01_13 := Lib.hid oHa01
  clear fX00_12 fX01_12 bX0_12 fW0_12 fG0_12 oHa00 oHa01 hb
  have eX00 := bX0_13.out.2 0 _ rfl
  have eX01 := bX0_13.out.2 1 _ rfl
  have eX02 := bX0_13.out.2 2 _ rfl
  have eX03 := bX0_13.out.2 3 _ rfl
  have eX04 := bX0_13.out.2 4 _ rfl
  have zX0 := Nat.lt_of_lt_of_le bX0_13.out.1 (Nat.le_trans s1.out (Nat.le_trans s2.out (Nat.le_trans s3.out (Nat.le_trans s4.out (Nat.le_trans s5.out (Nat.le_trans s6.out (Nat.le_trans s7.out (Nat.le_trans s8.out (Nat.le_trans s9.out (Nat.le_trans s10.out (Nat.le_trans s11.out (Nat.le_trans s12.out s13.out))))))))))))
  go_wp2_with fail
  clear eX00 eX01 eX02 eX03 eX04 zX0
  refine (SpeakingOrder_abs fHa00_13.out.rd fHa01_13.out.rd).mono ?_
  rintro e w14 ⟨AH0, cH0, rfl, oH0, hb⟩
  have t14 := Lib.hid (after t13.out hb)
  have s14 := Lib.hid hb.size
  have fX00_14 := Lib.hid (fX00_13.out.below hb t13.out.size)
  have fX01_14 := Lib.hid (fX01_13.out.below hb t13.out.size)
  have bX0_14 := Lib.hid (bX0_13.out.below hb (Nat.le_trans s1.out (Nat.le_trans s2.out (Nat.le_trans s3.out (Nat.le_trans s4.out (Nat.le_trans s5.out (Nat.le_trans s6.out (Nat.le_trans s7.out (Nat.le_trans s8.out (Nat.le_trans s9.out (Nat.le_trans s10.out (Nat.le_trans s11.out (Nat.le_trans s12.out s13.out)))))))))))))
  have fW0_14 := Lib.hid (fW0_13.out.below hb (Nat.le_trans s4.out (Nat.le_trans s5.out (Nat.le_trans s6.out (Nat.le_trans s7.out (Nat.le_trans s8.out (Nat.le_trans s9.out (Nat.le_trans s10.out (Nat.le_trans s11.out (Nat.le_trans s12.out s13.out))))))))))
  have fG0_14 := Lib.hid (fG0_13.out.below hb (Nat.le_trans s7.out (Nat.le_trans s8.out (Nat.le_trans s9.out (Nat.le_trans s10.out (Nat.le_trans s11.out (Nat.le_trans s12.out s13.out)))))))
  have fHa00_14 := Lib.hid (fHa00_13.out.below hb (Nat.le_refl _))
  have fHa01_14 := Lib.hid (fHa01_13.out.below hb (Nat.le_refl _))
  have fH0_14 := Lib.hid oH0
  clear fX00_13 fX01_13 bX0_13 fW0_13 fG0_13 fHa00_13 fHa01_13 oH0 hb
  clear fHa00_14 fHa01_14
  have eX00 := bX0_14.out.2 0 _ rfl
  have eX01 := bX0_14.out.2 1 _ rfl
  have eX02 := bX0_14.out.2 2 _ rfl
  have eX03 := bX0_14.out.2 3 _ rfl
  have eX04 := bX0_14.out.2 4 _ rfl
  have zX0 := Nat.lt_of_lt_of_le bX0_14.out.1 (Nat.le_trans s1.out (Nat.le_trans s2.out (Nat.le_trans s3.out (Nat.le_trans s4.out (Nat.le_trans s5.out (Nat.le_trans s6.out (Nat.le_trans s7.out (Nat.le_trans s8.out (Nat.le_trans s9.out (Nat.le_trans s10.out (Nat.le_trans s11.out (Nat.le_trans s12.out (Nat.le_trans s13.out s14.out)))))))))))))
  go_wp2_with fail
  clear eX00 eX01 eX02 eX03 eX04 zX0
  refine (eqI_abs fH0_14.out.rd fW0_14.out.rd).mono ?_
  rintro e w15 ⟨rfl, hb⟩
  have t15 := Lib.hid (after t14.out hb)
  have s15 := Lib.hid hb.size
  have fX00_15 := Lib.hid (fX00_14.out.below hb t14.out.size)
  have fX01_15 := Lib.hid (fX01_14.out.below hb t14.out.size)
  have bX0_15 := Lib.hid (bX0_14.out.below hb (Nat.le_trans s1.out (Nat.le_trans s2.out (Nat.le_trans s3.out (Nat.le_trans s4.out (Nat.le_trans s5.out (Nat.le_trans s6.out (Nat.le_trans s7.out (Nat.le_trans s8.out (Nat.le_trans s9.out (Nat.le_trans s10.out (Nat.le_trans s11.out (Nat.le_trans s12.out (Nat.le_trans s13.out s14.out))))))))))))))
  have fW0_15 := Lib.hid (fW0_14.out.below hb (Nat.le_trans s4.out (Nat.le_trans s5.out (Nat.le_trans s6.out (Nat.le_trans s7.out (Nat.le_trans s8.out (Nat.le_trans s9.out (Nat.le_trans s10.out (Nat.le_trans s11.out (Nat.le_trans s12.out (Nat.le_trans s13.out s14.out)))))))))))
  have fG0_15 := Lib.hid (fG0_14.out.below hb (Nat.le_trans s7.out (Nat.le_trans s8.out (Nat.le_trans s9.out (Nat.le_trans s10.out (Nat.le_trans s11.out (Nat.le_trans s12.out (Nat.le_trans s13.out s14.out))))))))
  have fH0_15 := Lib.hid (fH0_14.out.below hb (Nat.le_refl _))
  clear fX00_14 fX01_14 bX0_14 fW0_14 fG0_14 fH0_14 hb
  have eX00 := bX0_15.out.2 0 _ rfl
  have eX01 := bX0_15.out.2 1 _ rfl
  have eX02 := bX0_15.out.2 2 _ rfl
  have eX03 := bX0_15.out.2 3 _ rfl
  have eX04 := bX0_15.out.2 4 _ rfl
  have zX0 := Nat.lt_of_lt_of_le bX0_15.out.1 (Nat.le_trans s1.out (Nat.le_trans s2.out (Nat.le_trans s3.out (Nat.le_trans s4.out (Nat.le_trans s5.out (Nat.le_trans s6.out (Nat.le_trans s7.out (Nat.le_trans s8.out (Nat.le_trans s9.out (Nat.le_trans s10.out (Nat.le_trans s11.out (Nat.le_trans s12.out (Nat.le_trans s13.out (Nat.le_trans s14.out s15.out))))))))))))))
  go_wp2_with fail
  clear eX00 eX01 eX02 eX03 eX04 zX0
  refine (heldI_abs' 1 1 (by simp) fG0_15.out.rd (by omega) (by omega)).mono ?_
  rintro e w16 ⟨rfl, hb⟩
  have t16 := Lib.hid (after t15.out hb)
  have s16 := Lib.hid hb.size
  have fX00_16 := Lib.hid (fX00_15.out.below hb t15.out.size)
  have fX01_16 := Lib.hid (fX01_15.out.below hb t15.out.size)
  have bX0_16 := Lib.hid (bX0_15.out.below hb (Nat.le_trans s1.out (Nat.le_trans s2.out (Nat.le_trans s3.out (Nat.le_trans s4.out (Nat.le_trans s5.out (Nat.le_trans s6.out (Nat.le_trans s7.out (Nat.le_trans s8.out (Nat.le_trans s9.out (Nat.le_trans s10.out (Nat.le_trans s11.out (Nat.le_trans s12.out (Nat.le_trans s13.out (Nat.le_trans s14.out s15.out)))))))))))))))
  have fW0_16 := Lib.hid (fW0_15.out.below hb (Nat.le_trans s4.out (Nat.le_trans s5.out (Nat.le_trans s6.out (Nat.le_trans s7.out (Nat.le_trans s8.out (Nat.le_trans s9.out (Nat.le_trans s10.out (Nat.le_trans s11.out (Nat.le_trans s12.out (Nat.le_trans s13.out (Nat.le_trans s14.out s15.out))))))))))))
  have fG0_16 := Lib.hid (fG0_15.out.below hb (Nat.le_trans s7.out (Nat.le_trans s8.out (Nat.le_trans s9.out (Nat.le_trans s10.out (Nat.le_trans s11.out (Nat.le_trans s12.out (Nat.le_trans s13.out (Nat.le_trans s14.out s15.out)))))))))
  have fH0_16 := Lib.hid (fH0_15.out.below hb s15.out)
  clear fX00_15 fX01_15 bX0_15 fW0_15 fG0_15 fH0_15 hb
  go_wp2
  go_ret
  exact ⟨rfl, t16.out⟩
end fnExactSpeakingOrder
end Go.Proofs.Ytcojohcnkafgdaa
