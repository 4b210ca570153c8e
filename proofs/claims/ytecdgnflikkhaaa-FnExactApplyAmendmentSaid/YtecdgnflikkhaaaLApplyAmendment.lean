/- The walk of the law on ApplyAmendment: it returns true. Conditions: none. -/
import Derived.Test.YtecdgnflikkhaaaOb3
import Derived.Test.YtecdgnflikkhaaaMk
namespace Go.Proofs.Ytecdgnflikkhaaa
open Go.RowKit
set_option linter.unusedVariables false
namespace fnExactApplyAmendment
set_option maxHeartbeats 4000000 in
theorem walk (AX00 : Option Addr) (cX00 : Nat) (ss : List ByteArray) (AX10 : Option Addr) (cX10 : Nat) (a : Amd) (w : World) (hc00 : (ss).length ≤ cX00) (hr00 : Cells w AX00 (strs ss)) (hn00 : (ss).length ≤ maxLen) (hs00 : ∀ s ∈ ss, s.size ≤ maxLen) (hc10 : ((a).ws).length ≤ cX10) (hr10 : Cells w AX10 (strs (a).ws)) (hn10 : ((a).ws).length ≤ maxLen) (hs10 : ∀ s ∈ (a).ws, s.size ≤ maxLen) (wk1 : (Lit.int .i64 a.k).wf = true) (wp1 : (Lit.int .i64 a.p).wf = true) (wn1 : (Lit.int .i64 a.n).wf = true) :
    Calls Try.prog 10 #[.slice AX00 (ss).length cX00, .agg #[.int .i64 (a).k, .int .i64 (a).p, .int .i64 (a).n, .slice AX10 ((a).ws).length cX10]] w fun e w' => e = .returned (.bool true) ∧ Below w.heap.size w w' := by
  have fX00_i := Lib.hid (show RdS0 w.heap.size w AX00 cX00 ss from ⟨hc00, CellsB.of_cells hr00, hn00, hs00⟩)
  have fX10_i := Lib.hid (show RdS0 w.heap.size w AX10 cX10 (a).ws from ⟨hc10, CellsB.of_cells hr10, hn10, hs10⟩)
  clear hc00 hr00 hn00 hs00 hc10 hr10 hn10 hs10 wk1 wp1 wn1
  go_enter Try.func10, Try.ntmps10
  have t0 : Below w.heap.size w (w.alloc (.cells #[.int .i64 (a).k, .int .i64 (a).p, .int .i64 (a).n, .slice AX10 ((a).ws).length cX10] 28)) := by go_grown
  have nb0 : BoxL (w.alloc (.cells #[.int .i64 (a).k, .int .i64 (a).p, .int .i64 (a).n, .slice AX10 ((a).ws).length cX10] 28)).heap.size (w.alloc (.cells #[.int .i64 (a).k, .int .i64 (a).p, .int .i64 (a).n, .slice AX10 ((a).ws).length cX10] 28)) (w.heap.size) (#[.int .i64 (a).k, .int .i64 (a).p, .int .i64 (a).n, .slice AX10 ((a).ws).length cX10] : Array Value).toList := by
    refine ⟨by simp only [World.size_alloc]; omega, fun i v hi => ?_⟩
    have h1 := (BoxL.new w #[.int .i64 (a).k, .int .i64 (a).p, .int .i64 (a).n, .slice AX10 ((a).ws).length cX10] 28).2 i v hi
    simpa using h1
  go_wp2_with fail
  generalize (w.alloc (.cells #[.int .i64 (a).k, .int .i64 (a).p, .int .i64 (a).n, .slice AX10 ((a).ws).length cX10] 28)) = w0 at *
  have bX1_0 := Lib.hid nb0
  have T0 := Lib.hid t0
  clear t0
  have t0 := T0
  have fX00_0 := Lib.hid (fX00_i.out.below t0.out (Nat.le_refl _))
  have fX10_0 := Lib.hid (fX10_i.out.below t0.out (Nat.le_refl _))
  clear nb0 T0 fX00_i fX10_i
  refine (szS_abs (1048576) fX00_0.out.2.1.cells fX00_0.out.2.2 (by omega) (by omega)).mono ?_
  rintro e w' ⟨rfl, rfl⟩
  rcases Int.lt_or_le (szF ss (1048576)) 0 with hz | hz
  · go_wp2_with fail
    go_ret
    exact ⟨rfl, t0.out⟩
  have hz0 : ¬ szF ss (1048576) < 0 := by omega
  obtain ⟨fit0, lo0, hi0⟩ := fitS_of hz0 (by omega) fX00_0.out.2.2
  have FT0 := Lib.hid fit0
  clear fit0 hz
  have eX10 := bX1_0.out.2 0 _ rfl
  have eX11 := bX1_0.out.2 1 _ rfl
  have eX12 := bX1_0.out.2 2 _ rfl
  have eX13 := bX1_0.out.2 3 _ rfl
  have zX1 := Nat.lt_of_lt_of_le bX1_0.out.1 (Nat.le_refl _)
  go_wp2_with fail
  refine (szA_abs (szF ss (1048576)) fX10_0.out.2.1.cells fX10_0.out.2.2 lo0 hi0).mono ?_
  rintro e w1 ⟨rfl, hb⟩
  have t1 := Lib.hid (after t0.out hb)
  have s1 := Lib.hid hb.size
  have fX00_1 := Lib.hid (fX00_0.out.below hb t0.out.size)
  have fX10_1 := Lib.hid (fX10_0.out.below hb t0.out.size)
  have bX1_1 := Lib.hid (bX1_0.out.below hb (Nat.le_refl _))
  clear eX10 eX11 eX12 eX13 zX1 fX00_0 fX10_0 bX1_0 hb
  rcases Int.lt_or_le (szF (a).ws (szF ss (1048576))) 0 with hz | hz
  · go_wp2_with fail
    go_ret
    exact ⟨rfl, t1.out⟩
  have hz1 : ¬ szF (a).ws (szF ss (1048576)) < 0 := by omega
  obtain ⟨fit1, lo1, hi1⟩ := fitS_of hz1 (by omega) fX10_1.out.2.2
  have FT1 := Lib.hid fit1
  clear fit1 hz
  have fX00_1r := Lib.hid (fX00_1.out.up FT0.out)
  have fX10_1r := Lib.hid (fX10_1.out.up FT1.out)
  clear fX00_1 fX10_1
  have eX10 := bX1_1.out.2 0 _ rfl
  have eX11 := bX1_1.out.2 1 _ rfl
  have eX12 := bX1_1.out.2 2 _ rfl
  have eX13 := bX1_1.out.2 3 _ rfl
  have zX1 := Nat.lt_of_lt_of_le bX1_1.out.1 s1.out
  go_wp2_with fail
  go_region_held3 (fun w' => Below w1.heap.size w1 w' ∧ (∀ b o, b < w1.heap.size → w'.cell? ⟨b, o, none⟩ = w1.cell? ⟨b, o, none⟩))
    ((first | (refine mkS ?_; assumption) | (refine drewS ?_; assumption) | (refine mkS ?_; go_grown)))
    (first
      | (go_at_call_of 17 (.slice AX00 (ss).length cX00 : Value); refine (toS_abs (B := w.heap.size) ?_).mono ?_; exact fX00_1r.out.below (S1 (by assumption)) t1.out.size; rintro e u0 ⟨AWa00, cWa00, rfl, oWa00, hb⟩; obtain ⟨hB, hzz⟩ := callS (by assumption) (Nat.le_refl _) hb; have HB0 := Lib.hid hB; have FWa00 := Lib.hid oWa00.rd; clear oWa00; clear hb)
      | (go_at_call_of 22 (.agg #[.int .i64 (a).k, .int .i64 (a).p, .int .i64 (a).n, .slice AX10 ((a).ws).length cX10] : Value); refine (toA_abs (B := w.heap.size) ?_).mono ?_; exact fX10_1r.out.below (S1 (by assumption)) t1.out.size; rintro e u1 ⟨AWa10, cWa10, rfl, oWa10, hb⟩; obtain ⟨hB, hzz⟩ := callS (by assumption) (Nat.le_refl _) hb; have HB1 := Lib.hid hB; have FWa00x := Lib.hid (FWa00.out.below hb (by simp)); clear FWa00; have FWa10 := Lib.hid oWa10.rd; clear oWa10; clear hb)
      | (go_at_call 38; refine (sApplyAmendment_abs FWa00x.out FWa10.out).mono ?_; rintro e w2 ⟨AW0, cW0, rfl, oW0, hb⟩; have hu := callO (by assumption) (Nat.le_refl _) hb; have UZz := Lib.hid hu; clear hu; obtain ⟨hB, hzz⟩ := callS (by assumption) (Nat.le_refl _) hb; have HBz := Lib.hid hB; have SZz := Lib.hid hzz; clear hb))
  have t2 := Lib.hid (after t1.out HBz.out)
  have s2 := Lib.hid HBz.out.size
  have fX00_2 := Lib.hid (fX00_1r.out.below HBz.out t1.out.size)
  have fX10_2 := Lib.hid (fX10_1r.out.below HBz.out t1.out.size)
  have bX1_2 := Lib.hid (bX1_1.out.below HBz.out s1.out)
  have fW0_2 := Lib.hid (oW0.low UZz.out)
  clear eX10 eX11 eX12 eX13 zX1 fX00_1r fX10_1r bX1_1 oW0
  have eX10 := bX1_2.out.2 0 _ rfl
  have eX11 := bX1_2.out.2 1 _ rfl
  have eX12 := bX1_2.out.2 2 _ rfl
  have eX13 := bX1_2.out.2 3 _ rfl
  have zX1 := Nat.lt_of_lt_of_le bX1_2.out.1 (Nat.le_trans s1.out s2.out)
  go_wp2_with fail
  clear eX10 eX11 eX12 eX13 zX1
  refine (toS_abs fX00_2.out).mono ?_
  rintro e w3 ⟨AY00, cY00, rfl, oY00, hb⟩
  have t3 := Lib.hid (after t2.out hb)
  have s3 := Lib.hid hb.size
  have fX00_3 := Lib.hid (fX00_2.out.below hb t2.out.size)
  have fX10_3 := Lib.hid (fX10_2.out.below hb t2.out.size)
  have bX1_3 := Lib.hid (bX1_2.out.below hb (Nat.le_trans s1.out s2.out))
  have fW0_3 := Lib.hid (fW0_2.out.below hb (Nat.le_refl _))
  have fY00_3 := Lib.hid oY00
  clear fX00_2 fX10_2 bX1_2 fW0_2 oY00 hb
  have eX10 := bX1_3.out.2 0 _ rfl
  have eX11 := bX1_3.out.2 1 _ rfl
  have eX12 := bX1_3.out.2 2 _ rfl
  have eX13 := bX1_3.out.2 3 _ rfl
  have zX1 := Nat.lt_of_lt_of_le bX1_3.out.1 (Nat.le_trans s1.out (Nat.le_trans s2.out s3.out))
  go_wp2_with fail
  clear eX10 eX11 eX12 eX13 zX1
  refine (toA_abs fX10_3.out).mono ?_
  rintro e w4 ⟨AY10, cY10, rfl, oY10, hb⟩
  have t4 := Lib.hid (after t3.out hb)
  have s4 := Lib.hid hb.size
  have fX00_4 := Lib.hid (fX00_3.out.below hb t3.out.size)
  have fX10_4 := Lib.hid (fX10_3.out.below hb t3.out.size)
  have bX1_4 := Lib.hid (bX1_3.out.below hb (Nat.le_trans s1.out (Nat.le_trans s2.out s3.out)))
  have fW0_4 := Lib.hid (fW0_3.out.below hb s3.out)
  have fY00_4 := Lib.hid (fY00_3.out.below hb (Nat.le_refl _))
  have fY10_4 := Lib.hid oY10
  clear fX00_3 fX10_3 bX1_3 fW0_3 fY00_3 oY10 hb
  have nb := (BoxL.new w4 #[.int .i64 (a).k, .int .i64 (a).p, .int .i64 (a).n, .slice AY10 ((a).ws).length cY10] 31).mono (show w4.heap.size + 1 ≤ (w4.alloc (.cells #[.int .i64 (a).k, .int .i64 (a).p, .int .i64 (a).n, .slice AY10 ((a).ws).length cY10] 31)).heap.size by simp)
  have hb : Below w4.heap.size w4 (w4.alloc (.cells #[.int .i64 (a).k, .int .i64 (a).p, .int .i64 (a).n, .slice AY10 ((a).ws).length cY10] 31)) := by go_grown
  have eX10 := bX1_4.out.2 0 _ rfl
  have eX11 := bX1_4.out.2 1 _ rfl
  have eX12 := bX1_4.out.2 2 _ rfl
  have eX13 := bX1_4.out.2 3 _ rfl
  have zX1 := Nat.lt_of_lt_of_le bX1_4.out.1 (Nat.le_trans s1.out (Nat.le_trans s2.out (Nat.le_trans s3.out s4.out)))
  go_wp2_with fail
  clear eX10 eX11 eX12 eX13 zX1
  generalize w4.alloc (.cells #[.int .i64 (a).k, .int .i64 (a).p, .int .i64 (a).n, .slice AY10 ((a).ws).length cY10] 31) = w5 at *
  have t5 := Lib.hid (after t4.out hb)
  have s5 := Lib.hid hb.size
  have fX00_5 := Lib.hid (fX00_4.out.below hb t4.out.size)
  have fX10_5 := Lib.hid (fX10_4.out.below hb t4.out.size)
  have bX1_5 := Lib.hid (bX1_4.out.below hb (Nat.le_trans s1.out (Nat.le_trans s2.out (Nat.le_trans s3.out s4.out))))
  have fW0_5 := Lib.hid (fW0_4.out.below hb (Nat.le_trans s3.out s4.out))
  have fY00_5 := Lib.hid (fY00_4.out.below hb s4.out)
  have fY10_5 := Lib.hid (fY10_4.out.below hb (Nat.le_refl _))
  have bY1_5 := Lib.hid nb
  clear fX00_4 fX10_4 bX1_4 fW0_4 fY00_4 fY10_4 nb hb
  refine (ApplyAmendment_abs fY00_5.out.rd fY10_5.out.rd).mono ?_
  rintro e w6 ⟨AG0, cG0, rfl, oG0, hb⟩
  have t6 := Lib.hid (after t5.out hb)
  have s6 := Lib.hid hb.size
  have fX00_6 := Lib.hid (fX00_5.out.below hb t5.out.size)
  have fX10_6 := Lib.hid (fX10_5.out.below hb t5.out.size)
  have bX1_6 := Lib.hid (bX1_5.out.below hb (Nat.le_trans s1.out (Nat.le_trans s2.out (Nat.le_trans s3.out (Nat.le_trans s4.out s5.out)))))
  have fW0_6 := Lib.hid (fW0_5.out.below hb (Nat.le_trans s3.out (Nat.le_trans s4.out s5.out)))
  have fY00_6 := Lib.hid (fY00_5.out.below hb (Nat.le_trans s4.out s5.out))
  have fY10_6 := Lib.hid (fY10_5.out.below hb s5.out)
  have bY1_6 := Lib.hid (bY1_5.out.below hb (Nat.le_refl _))
  have fG0_6 := Lib.hid oG0
  clear fX00_5 fX10_5 bX1_5 fW0_5 fY00_5 fY10_5 bY1_5 oG0 hb
  have eX10 := bX1_6.out.2 0 _ rfl
  have eX11 := bX1_6.out.2 1 _ rfl
  have eX12 := bX1_6.out.2 2 _ rfl
  have eX13 := bX1_6.out.2 3 _ rfl
  have zX1 := Nat.lt_of_lt_of_le bX1_6.out.1 (Nat.le_trans s1.out (Nat.le_trans s2.out (Nat.le_trans s3.out (Nat.le_trans s4.out (Nat.le_trans s5.out s6.out)))))
  have eY10 := bY1_6.out.2 0 _ rfl
  have eY11 := bY1_6.out.2 1 _ rfl
  have eY12 := bY1_6.out.2 2 _ rfl
  have eY13 := bY1_6.out.2 3 _ rfl
  have zY1 := Nat.lt_of_lt_of_le bY1_6.out.1 s6.out
  go_wp2_with fail
  clear eX10 eX11 eX12 eX13 zX1 eY10 eY11 eY12 eY13 zY1
  refine (eqS_abs fG0_6.out.rd fW0_6.out.rd).mono ?_
  rintro e w7 ⟨rfl, hb⟩
  have t7 := Lib.hid (after t6.out hb)
  have s7 := Lib.hid hb.size
  have fX00_7 := Lib.hid (fX00_6.out.below hb t6.out.size)
  have fX10_7 := Lib.hid (fX10_6.out.below hb t6.out.size)
  have bX1_7 := Lib.hid (bX1_6.out.below hb (Nat.le_trans s1.out (Nat.le_trans s2.out (Nat.le_trans s3.out (Nat.le_trans s4.out (Nat.le_trans s5.out s6.out))))))
  have fW0_7 := Lib.hid (fW0_6.out.below hb (Nat.le_trans s3.out (Nat.le_trans s4.out (Nat.le_trans s5.out s6.out))))
  have fY00_7 := Lib.hid (fY00_6.out.below hb (Nat.le_trans s4.out (Nat.le_trans s5.out s6.out)))
  have fY10_7 := Lib.hid (fY10_6.out.below hb (Nat.le_trans s5.out s6.out))
  have bY1_7 := Lib.hid (bY1_6.out.below hb s6.out)
  have fG0_7 := Lib.hid (fG0_6.out.below hb (Nat.le_refl _))
  clear fX00_6 fX10_6 bX1_6 fW0_6 fY00_6 fY10_6 bY1_6 fG0_6 hb
  have eX10 := bX1_7.out.2 0 _ rfl
  have eX11 := bX1_7.out.2 1 _ rfl
  have eX12 := bX1_7.out.2 2 _ rfl
  have eX13 := bX1_7.out.2 3 _ rfl
  have zX1 := Nat.lt_of_lt_of_le bX1_7.out.1 (Nat.le_trans s1.out (Nat.le_trans s2.out (Nat.le_trans s3.out (Nat.le_trans s4.out (Nat.le_trans s5.out (Nat.le_trans s6.out s7.out))))))
  have eY10 := bY1_7.out.2 0 _ rfl
  have eY11 := bY1_7.out.2 1 _ rfl
  have eY12 := bY1_7.out.2 2 _ rfl
  have eY13 := bY1_7.out.2 3 _ rfl
  have zY1 := Nat.lt_of_lt_of_le bY1_7.out.1 (Nat.le_trans s6.out s7.out)
  go_wp2_with fail
  clear eX10 eX11 eX12 eX13 zX1 eY10 eY11 eY12 eY13 zY1
  refine (toS_abs fX00_7.out).mono ?_
  rintro e w8 ⟨AZ00, cZ00, rfl, oZ00, hb⟩
  have t8 := Lib.hid (after t7.out hb)
  have s8 := Lib.hid hb.size
  have fX00_8 := Lib.hid (fX00_7.out.below hb t7.out.size)
  have fX10_8 := Lib.hid (fX10_7.out.below hb t7.out.size)
  have bX1_8 := Lib.hid (bX1_7.out.below hb (Nat.le_trans s1.out (Nat.le_trans s2.out (Nat.le_trans s3.out (Nat.le_trans s4.out (Nat.le_trans s5.out (Nat.le_trans s6.out s7.out)))))))
  have fW0_8 := Lib.hid (fW0_7.out.below hb (Nat.le_trans s3.out (Nat.le_trans s4.out (Nat.le_trans s5.out (Nat.le_trans s6.out s7.out)))))
  have fY00_8 := Lib.hid (fY00_7.out.below hb (Nat.le_trans s4.out (Nat.le_trans s5.out (Nat.le_trans s6.out s7.out))))
  have fY10_8 := Lib.hid (fY10_7.out.below hb (Nat.le_trans s5.out (Nat.le_trans s6.out s7.out)))
  have bY1_8 := Lib.hid (bY1_7.out.below hb (Nat.le_trans s6.out s7.out))
  have fG0_8 := Lib.hid (fG0_7.out.below hb s7.out)
  have fZ00_8 := Lib.hid oZ00
  clear fX00_7 fX10_7 bX1_7 fW0_7 fY00_7 fY10_7 bY1_7 fG0_7 oZ00 hb
  have eX10 := bX1_8.out.2 0 _ rfl
  have eX11 := bX1_8.out.2 1 _ rfl
  have eX12 := bX1_8.out.2 2 _ rfl
  have eX13 := bX1_8.out.2 3 _ rfl
  have zX1 := Nat.lt_of_lt_of_le bX1_8.out.1 (Nat.le_trans s1.out (Nat.le_trans s2.out (Nat.le_trans s3.out (Nat.le_trans s4.out (Nat.le_trans s5.out (Nat.le_trans s6.out (Nat.le_trans s7.out s8.out)))))))
  have eY10 := bY1_8.out.2 0 _ rfl
  have eY11 := bY1_8.out.2 1 _ rfl
  have eY12 := bY1_8.out.2 2 _ rfl
  have eY13 := bY1_8.out.2 3 _ rfl
  have zY1 := Nat.lt_of_lt_of_le bY1_8.out.1 (Nat.le_trans s6.out (Nat.le_trans s7.out s8.out))
  go_wp2_with fail
  clear eX10 eX11 eX12 eX13 zX1 eY10 eY11 eY12 eY13 zY1
  refine (eqS_abs fY00_8.out.rd fZ00_8.out.rd).mono ?_
  rintro e w9 ⟨rfl, hb⟩
  have t9 := Lib.hid (after t8.out hb)
  have s9 := Lib.hid hb.size
  have fX00_9 := Lib.hid (fX00_8.out.below hb t8.out.size)
  have fX10_9 := Lib.hid (fX10_8.out.below hb t8.out.size)
  have bX1_9 := Lib.hid (bX1_8.out.below hb (Nat.le_trans s1.out (Nat.le_trans s2.out (Nat.le_trans s3.out (Nat.le_trans s4.out (Nat.le_trans s5.out (Nat.le_trans s6.out (Nat.le_trans s7.out s8.out))))))))
  have fW0_9 := Lib.hid (fW0_8.out.below hb (Nat.le_trans s3.out (Nat.le_trans s4.out (Nat.le_trans s5.out (Nat.le_trans s6.out (Nat.le_trans s7.out s8.out))))))
  have fY00_9 := Lib.hid (fY00_8.out.below hb (Nat.le_trans s4.out (Nat.le_trans s5.out (Nat.le_trans s6.out (Nat.le_trans s7.out s8.out)))))
  have fY10_9 := Lib.hid (fY10_8.out.below hb (Nat.le_trans s5.out (Nat.le_trans s6.out (Nat.le_trans s7.out s8.out))))
  have bY1_9 := Lib.hid (bY1_8.out.below hb (Nat.le_trans s6.out (Nat.le_trans s7.out s8.out)))
  have fG0_9 := Lib.hid (fG0_8.out.below hb (Nat.le_trans s7.out s8.out))
  have fZ00_9 := Lib.hid (fZ00_8.out.below hb (Nat.le_refl _))
  clear fX00_8 fX10_8 bX1_8 fW0_8 fY00_8 fY10_8 bY1_8 fG0_8 fZ00_8 hb
  clear fZ00_9
  have eX10 := bX1_9.out.2 0 _ rfl
  have eX11 := bX1_9.out.2 1 _ rfl
  have eX12 := bX1_9.out.2 2 _ rfl
  have eX13 := bX1_9.out.2 3 _ rfl
  have zX1 := Nat.lt_of_lt_of_le bX1_9.out.1 (Nat.le_trans s1.out (Nat.le_trans s2.out (Nat.le_trans s3.out (Nat.le_trans s4.out (Nat.le_trans s5.out (Nat.le_trans s6.out (Nat.le_trans s7.out (Nat.le_trans s8.out s9.out))))))))
  have eY10 := bY1_9.out.2 0 _ rfl
  have eY11 := bY1_9.out.2 1 _ rfl
  have eY12 := bY1_9.out.2 2 _ rfl
  have eY13 := bY1_9.out.2 3 _ rfl
  have zY1 := Nat.lt_of_lt_of_le bY1_9.out.1 (Nat.le_trans s6.out (Nat.le_trans s7.out (Nat.le_trans s8.out s9.out)))
  go_wp2_with fail
  go_region_held3 (fun w' => Below w9.heap.size w9 w' ∧ (∀ b o, b < w9.heap.size → w'.cell? ⟨b, o, none⟩ = w9.cell? ⟨b, o, none⟩))
    ((first | (refine mkS ?_; assumption) | (refine drewS ?_; assumption) | (refine mkS ?_; go_grown)))
    (first
      | (go_at_call 22; refine (toA_abs (B := w.heap.size) ?_).mono ?_; exact fX10_9.out.below (S1 (by assumption)) t9.out.size; rintro e v ⟨AZ10, cZ10, rfl, oZ10, hb⟩; obtain ⟨hB, hzz⟩ := callS (by assumption) (Nat.le_refl _) hb; have HBy := Lib.hid hB; clear hb)
      | (go_at_call 24; refine (eqA_abs (B := w4.heap.size) (B' := v.heap.size) ?_ ?_).mono ?_; exact fY10_9.out.rd.below HBy.out (Nat.le_trans s5.out (Nat.le_trans s6.out (Nat.le_trans s7.out (Nat.le_trans s8.out s9.out)))); exact oZ10.rd; rintro e w10 ⟨rfl, hb⟩; obtain ⟨hB, hzz⟩ := callS (by assumption) (Nat.le_refl _) hb; have HBz := Lib.hid hB; clear hb))
  have t10 := Lib.hid (after t9.out HBz.out)
  have s10 := Lib.hid HBz.out.size
  have fX00_10 := Lib.hid (fX00_9.out.below HBz.out t9.out.size)
  have fX10_10 := Lib.hid (fX10_9.out.below HBz.out t9.out.size)
  have bX1_10 := Lib.hid (bX1_9.out.below HBz.out (Nat.le_trans s1.out (Nat.le_trans s2.out (Nat.le_trans s3.out (Nat.le_trans s4.out (Nat.le_trans s5.out (Nat.le_trans s6.out (Nat.le_trans s7.out (Nat.le_trans s8.out s9.out)))))))))
  have fW0_10 := Lib.hid (fW0_9.out.below HBz.out (Nat.le_trans s3.out (Nat.le_trans s4.out (Nat.le_trans s5.out (Nat.le_trans s6.out (Nat.le_trans s7.out (Nat.le_trans s8.out s9.out)))))))
  have fY00_10 := Lib.hid (fY00_9.out.below HBz.out (Nat.le_trans s4.out (Nat.le_trans s5.out (Nat.le_trans s6.out (Nat.le_trans s7.out (Nat.le_trans s8.out s9.out))))))
  have fY10_10 := Lib.hid (fY10_9.out.below HBz.out (Nat.le_trans s5.out (Nat.le_trans s6.out (Nat.le_trans s7.out (Nat.le_trans s8.out s9.out)))))
  have bY1_10 := Lib.hid (bY1_9.out.below HBz.out (Nat.le_trans s6.out (Nat.le_trans s7.out (Nat.le_trans s8.out s9.out))))
  have fG0_10 := Lib.hid (fG0_9.out.below HBz.out (Nat.le_trans s7.out (Nat.le_trans s8.out s9.out)))
  clear eX10 eX11 eX12 eX13 zX1 eY10 eY11 eY12 eY13 zY1 fX00_9 fX10_9 bX1_9 fW0_9 fY00_9 fY10_9 bY1_9 fG0_9
  have eX10 := bX1_10.out.2 0 _ rfl
  have eX11 := bX1_10.out.2 1 _ rfl
  have eX12 := bX1_10.out.2 2 _ rfl
  have eX13 := bX1_10.out.2 3 _ rfl
  have zX1 := Nat.lt_of_lt_of_le bX1_10.out.1 (Nat.le_trans s1.out (Nat.le_trans s2.out (Nat.le_trans s3.out (Nat.le_trans s4.out (Nat.le_trans s5.out (Nat.le_trans s6.out (Nat.le_trans s7.out (Nat.le_trans s8.out (Nat.le_trans s9.out s10.out)))))))))
  have eY10 := bY1_10.out.2 0 _ rfl
  have eY11 := bY1_10.out.2 1 _ rfl
  have eY12 := bY1_10.out.2 2 _ rfl
  have eY13 := bY1_10.out.2 3 _ rfl
  have zY1 := Nat.lt_of_lt_of_le bY1_10.out.1 (Nat.le_trans s6.out (Nat.le_trans s7.out (Nat.le_trans s8.out (Nat.le_trans s9.out s10.out))))
  go_wp2_with fail
  clear eX10 eX11 eX12 eX13 zX1 eY10 eY11 eY12 eY13 zY1
  have lnY00 := fY00_10.out.2.2.1
  refine (markS_abs' 1 1 (by simp) fY00_10.out (by omega) (by omega)).mono ?_
  rintro e w11 ⟨rfl, oY00, ho⟩
  have t11 := Lib.hid (t10.out.trans (ho.below (Nat.le_trans s3.out (Nat.le_trans s4.out (Nat.le_trans s5.out (Nat.le_trans s6.out (Nat.le_trans s7.out (Nat.le_trans s8.out (Nat.le_trans s9.out s10.out))))))) |>.mono t2.out.size))
  have s11 := Lib.hid ho.size
  have fX00_11 := Lib.hid (fX00_10.out.below (ho.below (Nat.le_trans s3.out (Nat.le_trans s4.out (Nat.le_trans s5.out (Nat.le_trans s6.out (Nat.le_trans s7.out (Nat.le_trans s8.out (Nat.le_trans s9.out s10.out)))))))) t2.out.size)
  have fX10_11 := Lib.hid (fX10_10.out.below (ho.below (Nat.le_trans s3.out (Nat.le_trans s4.out (Nat.le_trans s5.out (Nat.le_trans s6.out (Nat.le_trans s7.out (Nat.le_trans s8.out (Nat.le_trans s9.out s10.out)))))))) t2.out.size)
  have bX1_11 := Lib.hid (bX1_10.out.below (ho.below (Nat.le_trans s3.out (Nat.le_trans s4.out (Nat.le_trans s5.out (Nat.le_trans s6.out (Nat.le_trans s7.out (Nat.le_trans s8.out (Nat.le_trans s9.out s10.out)))))))) (Nat.le_trans s1.out s2.out))
  have fW0_11 := Lib.hid (fW0_10.out.only ho (.inl (Nat.le_refl _)))
  have fY10_11 := Lib.hid (fY10_10.out.only ho (.inr (Nat.le_refl _)))
  have bY1_11 := Lib.hid (bY1_10.out.only ho s4.out (Nat.lt_of_lt_of_le bY1_10.out.1 (Nat.le_trans s6.out (Nat.le_trans s7.out (Nat.le_trans s8.out (Nat.le_trans s9.out s10.out))))))
  have fG0_11 := Lib.hid (fG0_10.out.only ho (.inr (Nat.le_trans s4.out s5.out)))
  have fY00_11 := Lib.hid oY00
  clear fX00_10 fX10_10 bX1_10 fW0_10 fY10_10 bY1_10 fG0_10 fY00_10 oY00 ho
  have eX10 := bX1_11.out.2 0 _ rfl
  have eX11 := bX1_11.out.2 1 _ rfl
  have eX12 := bX1_11.out.2 2 _ rfl
  have eX13 := bX1_11.out.2 3 _ rfl
  have zX1 := Nat.lt_of_lt_of_le bX1_11.out.1 (Nat.le_trans s1.out (Nat.le_trans s2.out (Nat.le_trans s3.out (Nat.le_trans s4.out (Nat.le_trans s5.out (Nat.le_trans s6.out (Nat.le_trans s7.out (Nat.le_trans s8.out (Nat.le_trans s9.out (Nat.le_trans s10.out s11.out))))))))))
  have eY10 := bY1_11.out.2 0 _ rfl
  have eY11 := bY1_11.out.2 1 _ rfl
  have eY12 := bY1_11.out.2 2 _ rfl
  have eY13 := bY1_11.out.2 3 _ rfl
  have zY1 := Nat.lt_of_lt_of_le bY1_11.out.1 (Nat.le_trans s6.out (Nat.le_trans s7.out (Nat.le_trans s8.out (Nat.le_trans s9.out (Nat.le_trans s10.out s11.out)))))
  go_wp2_with fail
  clear eX10 eX11 eX12 eX13 zX1 eY10 eY11 eY12 eY13 zY1
  have lnY10 := fY10_11.out.2.2.1
  refine (markA_abs' (1 + (ss).length) (1 + ((ss).length : Int)) (by simp) fY10_11.out (by omega) (by omega)).mono ?_
  rintro e w12 ⟨rfl, oY10, ho⟩
  have t12 := Lib.hid (t11.out.trans (ho.below (Nat.le_trans s4.out (Nat.le_trans s5.out (Nat.le_trans s6.out (Nat.le_trans s7.out (Nat.le_trans s8.out (Nat.le_trans s9.out (Nat.le_trans s10.out s11.out))))))) |>.mono t3.out.size))
  have s12 := Lib.hid ho.size
  have fX00_12 := Lib.hid (fX00_11.out.below (ho.below (Nat.le_trans s4.out (Nat.le_trans s5.out (Nat.le_trans s6.out (Nat.le_trans s7.out (Nat.le_trans s8.out (Nat.le_trans s9.out (Nat.le_trans s10.out s11.out)))))))) t3.out.size)
  have fX10_12 := Lib.hid (fX10_11.out.below (ho.below (Nat.le_trans s4.out (Nat.le_trans s5.out (Nat.le_trans s6.out (Nat.le_trans s7.out (Nat.le_trans s8.out (Nat.le_trans s9.out (Nat.le_trans s10.out s11.out)))))))) t3.out.size)
  have bX1_12 := Lib.hid (bX1_11.out.below (ho.below (Nat.le_trans s4.out (Nat.le_trans s5.out (Nat.le_trans s6.out (Nat.le_trans s7.out (Nat.le_trans s8.out (Nat.le_trans s9.out (Nat.le_trans s10.out s11.out)))))))) (Nat.le_trans s1.out (Nat.le_trans s2.out s3.out)))
  have fW0_12 := Lib.hid (fW0_11.out.only ho (.inl s3.out))
  have fY00_12 := Lib.hid (fY00_11.out.only ho (.inl (Nat.le_refl _)))
  have bY1_12 := Lib.hid (bY1_11.out.only ho (Nat.le_refl _) (Nat.lt_of_lt_of_le bY1_11.out.1 (Nat.le_trans s6.out (Nat.le_trans s7.out (Nat.le_trans s8.out (Nat.le_trans s9.out (Nat.le_trans s10.out s11.out)))))))
  have fG0_12 := Lib.hid (fG0_11.out.only ho (.inr s5.out))
  have fY10_12 := Lib.hid oY10
  clear fX00_11 fX10_11 bX1_11 fW0_11 fY00_11 bY1_11 fG0_11 fY10_11 oY10 ho
  clear fY00_12 fY10_12 bY1_12
  have eX10 := bX1_12.out.2 0 _ rfl
  have eX11 := bX1_12.out.2 1 _ rfl
  have eX12 := bX1_12.out.2 2 _ rfl
  have eX13 := bX1_12.out.2 3 _ rfl
  have zX1 := Nat.lt_of_lt_of_le bX1_12.out.1 (Nat.le_trans s1.out (Nat.le_trans s2.out (Nat.le_trans s3.out (Nat.le_trans s4.out (Nat.le_trans s5.out (Nat.le_trans s6.out (Nat.le_trans s7.out (Nat.le_trans s8.out (Nat.le_trans s9.out (Nat.le_trans s10.out (Nat.le_trans s11.out s12.out)))))))))))
  go_wp2_with fail
  clear eX10 eX11 eX12 eX13 zX1
  refine (eqS_abs fG0_12.out.rd fW0_12.out.rd).mono ?_
  rintro e w13 ⟨rfl, hb⟩
  have t13 := Lib.hid (after t12.out hb)
  have s13 := Lib.hid hb.size
  have fX00_13 := Lib.hid (fX00_12.out.below hb t12.out.size)
  have fX10_13 := Lib.hid (fX10_12.out.below hb t12.out.size)
  have bX1_13 := Lib.hid (bX1_12.out.below hb (Nat.le_trans s1.out (Nat.le_trans s2.out (Nat.le_trans s3.out (Nat.le_trans s4.out (Nat.le_trans s5.out (Nat.le_trans s6.out (Nat.le_trans s7.out (Nat.le_trans s8.out (Nat.le_trans s9.out (Nat.le_trans s10.out (Nat.le_trans s11.out s12.out))))))))))))
  have fW0_13 := Lib.hid (fW0_12.out.below hb (Nat.le_trans s3.out (Nat.le_trans s4.out (Nat.le_trans s5.out (Nat.le_trans s6.out (Nat.le_trans s7.out (Nat.le_trans s8.out (Nat.le_trans s9.out (Nat.le_trans s10.out (Nat.le_trans s11.out s12.out))))))))))
  have fG0_13 := Lib.hid (fG0_12.out.below hb (Nat.le_trans s7.out (Nat.le_trans s8.out (Nat.le_trans s9.out (Nat.le_trans s10.out (Nat.le_trans s11.out s12.out))))))
  clear fX00_12 fX10_12 bX1_12 fW0_12 fG0_12 hb
  have eX10 := bX1_13.out.2 0 _ rfl
  have eX11 := bX1_13.out.2 1 _ rfl
  have eX12 := bX1_13.out.2 2 _ rfl
  have eX13 := bX1_13.out.2 3 _ rfl
  have zX1 := Nat.lt_of_lt_of_le bX1_13.out.1 (Nat.le_trans s1.out (Nat.le_trans s2.out (Nat.le_trans s3.out (Nat.le_trans s4.out (Nat.le_trans s5.out (Nat.le_trans s6.out (Nat.le_trans s7.out (Nat.le_trans s8.out (Nat.le_trans s9.out (Nat.le_trans s10.out (Nat.le_trans s11.out (Nat.le_trans s12.out s13.out))))))))))))
  go_wp2_with fail
  clear eX10 eX11 eX12 eX13 zX1
  have lnG0 := fG0_13.out.2.2.1
  refine (markS_abs' 1 1 (by simp) fG0_13.out (by omega) (by omega)).mono ?_
  rintro e w14 ⟨rfl, oG0, ho⟩
  have t14 := Lib.hid (t13.out.trans (ho.below (Nat.le_trans s6.out (Nat.le_trans s7.out (Nat.le_trans s8.out (Nat.le_trans s9.out (Nat.le_trans s10.out (Nat.le_trans s11.out (Nat.le_trans s12.out s13.out))))))) |>.mono t5.out.size))
  have s14 := Lib.hid ho.size
  have fX00_14 := Lib.hid (fX00_13.out.below (ho.below (Nat.le_trans s6.out (Nat.le_trans s7.out (Nat.le_trans s8.out (Nat.le_trans s9.out (Nat.le_trans s10.out (Nat.le_trans s11.out (Nat.le_trans s12.out s13.out)))))))) t5.out.size)
  have fX10_14 := Lib.hid (fX10_13.out.below (ho.below (Nat.le_trans s6.out (Nat.le_trans s7.out (Nat.le_trans s8.out (Nat.le_trans s9.out (Nat.le_trans s10.out (Nat.le_trans s11.out (Nat.le_trans s12.out s13.out)))))))) t5.out.size)
  have bX1_14 := Lib.hid (bX1_13.out.below (ho.below (Nat.le_trans s6.out (Nat.le_trans s7.out (Nat.le_trans s8.out (Nat.le_trans s9.out (Nat.le_trans s10.out (Nat.le_trans s11.out (Nat.le_trans s12.out s13.out)))))))) (Nat.le_trans s1.out (Nat.le_trans s2.out (Nat.le_trans s3.out (Nat.le_trans s4.out s5.out)))))
  have fW0_14 := Lib.hid (fW0_13.out.only ho (.inl (Nat.le_trans s3.out (Nat.le_trans s4.out s5.out))))
  have fG0_14 := Lib.hid oG0
  clear fX00_13 fX10_13 bX1_13 fW0_13 fG0_13 oG0 ho
  have eX10 := bX1_14.out.2 0 _ rfl
  have eX11 := bX1_14.out.2 1 _ rfl
  have eX12 := bX1_14.out.2 2 _ rfl
  have eX13 := bX1_14.out.2 3 _ rfl
  have zX1 := Nat.lt_of_lt_of_le bX1_14.out.1 (Nat.le_trans s1.out (Nat.le_trans s2.out (Nat.le_trans s3.out (Nat.le_trans s4.out (Nat.le_trans s5.out (Nat.le_trans s6.out (Nat.le_trans s7.out (Nat.le_trans s8.out (Nat.le_trans s9.out (Nat.le_trans s10.out (Nat.le_trans s11.out (Nat.le_trans s12.out (Nat.le_trans s13.out s14.out)))))))))))))
  go_wp2_with fail
  clear eX10 eX11 eX12 eX13 zX1
  refine (heldS_abs' 1 1 (by simp) fG0_14.out.rd (by omega) (by omega)).mono ?_
  rintro e w15 ⟨rfl, hb⟩
  have t15 := Lib.hid (after t14.out hb)
  have s15 := Lib.hid hb.size
  have fX00_15 := Lib.hid (fX00_14.out.below hb t14.out.size)
  have fX10_15 := Lib.hid (fX10_14.out.below hb t14.out.size)
  have bX1_15 := Lib.hid (bX1_14.out.below hb (Nat.le_trans s1.out (Nat.le_trans s2.out (Nat.le_trans s3.out (Nat.le_trans s4.out (Nat.le_trans s5.out (Nat.le_trans s6.out (Nat.le_trans s7.out (Nat.le_trans s8.out (Nat.le_trans s9.out (Nat.le_trans s10.out (Nat.le_trans s11.out (Nat.le_trans s12.out (Nat.le_trans s13.out s14.out))))))))))))))
  have fW0_15 := Lib.hid (fW0_14.out.below hb (Nat.le_trans s3.out (Nat.le_trans s4.out (Nat.le_trans s5.out (Nat.le_trans s6.out (Nat.le_trans s7.out (Nat.le_trans s8.out (Nat.le_trans s9.out (Nat.le_trans s10.out (Nat.le_trans s11.out (Nat.le_trans s12.out (Nat.le_trans s13.out s14.out))))))))))))
  have fG0_15 := Lib.hid (fG0_14.out.below hb (Nat.le_trans s7.out (Nat.le_trans s8.out (Nat.le_trans s9.out (Nat.le_trans s10.out (Nat.le_trans s11.out (Nat.le_trans s12.out (Nat.le_trans s13.out s14.out))))))))
  clear fX00_14 fX10_14 bX1_14 fW0_14 fG0_14 hb
  have eX10 := bX1_15.out.2 0 _ rfl
  have eX11 := bX1_15.out.2 1 _ rfl
  have eX12 := bX1_15.out.2 2 _ rfl
  have eX13 := bX1_15.out.2 3 _ rfl
  have zX1 := Nat.lt_of_lt_of_le bX1_15.out.1 (Nat.le_trans s1.out (Nat.le_trans s2.out (Nat.le_trans s3.out (Nat.le_trans s4.out (Nat.le_trans s5.out (Nat.le_trans s6.out (Nat.le_trans s7.out (Nat.le_trans s8.out (Nat.le_trans s9.out (Nat.le_trans s10.out (Nat.le_trans s11.out (Nat.le_trans s12.out (Nat.le_trans s13.out (Nat.le_trans s14.out s15.out))))))))))))))
  go_wp2_with fail
  go_region_held3 (fun w' => Below w15.heap.size w15 w' ∧ (∀ b o, b < w15.heap.size → w'.cell? ⟨b, o, none⟩ = w15.cell? ⟨b, o, none⟩))
    ((first | (refine mkS ?_; assumption) | (refine drewS ?_; assumption) | (refine mkS ?_; go_grown)))
    (first
      | (go_at_call_of 17 (.slice AX00 (ss).length cX00 : Value); refine (toS_abs (B := w.heap.size) ?_).mono ?_; exact fX00_15.out.below (S1 (by assumption)) t15.out.size; rintro e u0 ⟨AHa00, cHa00, rfl, oHa00, hb⟩; obtain ⟨hB, hzz⟩ := callS (by assumption) (Nat.le_refl _) hb; have HB0 := Lib.hid hB; have FHa00 := Lib.hid oHa00.rd; clear oHa00; clear hb)
      | (go_at_call_of 22 (.agg #[.int .i64 (a).k, .int .i64 (a).p, .int .i64 (a).n, .slice AX10 ((a).ws).length cX10] : Value); refine (toA_abs (B := w.heap.size) ?_).mono ?_; exact fX10_15.out.below (S1 (by assumption)) t15.out.size; rintro e u1 ⟨AHa10, cHa10, rfl, oHa10, hb⟩; obtain ⟨hB, hzz⟩ := callS (by assumption) (Nat.le_refl _) hb; have HB1 := Lib.hid hB; have FHa00x := Lib.hid (FHa00.out.below hb (by simp)); clear FHa00; have FHa10 := Lib.hid oHa10.rd; clear oHa10; clear hb)
      | (go_at_call 39; refine (ApplyAmendment_abs FHa00x.out FHa10.out).mono ?_; rintro e w16 ⟨AH0, cH0, rfl, oH0, hb⟩; have hu := callO (by assumption) (Nat.le_refl _) hb; have UZz := Lib.hid hu; clear hu; obtain ⟨hB, hzz⟩ := callS (by assumption) (Nat.le_refl _) hb; have HBz := Lib.hid hB; have SZz := Lib.hid hzz; clear hb))
  have t16 := Lib.hid (after t15.out HBz.out)
  have s16 := Lib.hid HBz.out.size
  have fX00_16 := Lib.hid (fX00_15.out.below HBz.out t15.out.size)
  have fX10_16 := Lib.hid (fX10_15.out.below HBz.out t15.out.size)
  have bX1_16 := Lib.hid (bX1_15.out.below HBz.out (Nat.le_trans s1.out (Nat.le_trans s2.out (Nat.le_trans s3.out (Nat.le_trans s4.out (Nat.le_trans s5.out (Nat.le_trans s6.out (Nat.le_trans s7.out (Nat.le_trans s8.out (Nat.le_trans s9.out (Nat.le_trans s10.out (Nat.le_trans s11.out (Nat.le_trans s12.out (Nat.le_trans s13.out (Nat.le_trans s14.out s15.out)))))))))))))))
  have fW0_16 := Lib.hid (fW0_15.out.below HBz.out (Nat.le_trans s3.out (Nat.le_trans s4.out (Nat.le_trans s5.out (Nat.le_trans s6.out (Nat.le_trans s7.out (Nat.le_trans s8.out (Nat.le_trans s9.out (Nat.le_trans s10.out (Nat.le_trans s11.out (Nat.le_trans s12.out (Nat.le_trans s13.out (Nat.le_trans s14.out s15.out)))))))))))))
  have fG0_16 := Lib.hid (fG0_15.out.below HBz.out (Nat.le_trans s7.out (Nat.le_trans s8.out (Nat.le_trans s9.out (Nat.le_trans s10.out (Nat.le_trans s11.out (Nat.le_trans s12.out (Nat.le_trans s13.out (Nat.le_trans s14.out s15.out)))))))))
  have fH0_16 := Lib.hid (oH0.low UZz.out)
  clear eX10 eX11 eX12 eX13 zX1 fX00_15 fX10_15 bX1_15 fW0_15 fG0_15 oH0
  have eX10 := bX1_16.out.2 0 _ rfl
  have eX11 := bX1_16.out.2 1 _ rfl
  have eX12 := bX1_16.out.2 2 _ rfl
  have eX13 := bX1_16.out.2 3 _ rfl
  have zX1 := Nat.lt_of_lt_of_le bX1_16.out.1 (Nat.le_trans s1.out (Nat.le_trans s2.out (Nat.le_trans s3.out (Nat.le_trans s4.out (Nat.le_trans s5.out (Nat.le_trans s6.out (Nat.le_trans s7.out (Nat.le_trans s8.out (Nat.le_trans s9.out (Nat.le_trans s10.out (Nat.le_trans s11.out (Nat.le_trans s12.out (Nat.le_trans s13.out (Nat.le_trans s14.out (Nat.le_trans s15.out s16.out)))))))))))))))
  go_wp2_with fail
  clear eX10 eX11 eX12 eX13 zX1
  refine (eqS_abs fH0_16.out.rd fW0_16.out.rd).mono ?_
  rintro e w17 ⟨rfl, hb⟩
  have t17 := Lib.hid (after t16.out hb)
  have s17 := Lib.hid hb.size
  have fX00_17 := Lib.hid (fX00_16.out.below hb t16.out.size)
  have fX10_17 := Lib.hid (fX10_16.out.below hb t16.out.size)
  have bX1_17 := Lib.hid (bX1_16.out.below hb (Nat.le_trans s1.out (Nat.le_trans s2.out (Nat.le_trans s3.out (Nat.le_trans s4.out (Nat.le_trans s5.out (Nat.le_trans s6.out (Nat.le_trans s7.out (Nat.le_trans s8.out (Nat.le_trans s9.out (Nat.le_trans s10.out (Nat.le_trans s11.out (Nat.le_trans s12.out (Nat.le_trans s13.out (Nat.le_trans s14.out (Nat.le_trans s15.out s16.out))))))))))))))))
  have fW0_17 := Lib.hid (fW0_16.out.below hb (Nat.le_trans s3.out (Nat.le_trans s4.out (Nat.le_trans s5.out (Nat.le_trans s6.out (Nat.le_trans s7.out (Nat.le_trans s8.out (Nat.le_trans s9.out (Nat.le_trans s10.out (Nat.le_trans s11.out (Nat.le_trans s12.out (Nat.le_trans s13.out (Nat.le_trans s14.out (Nat.le_trans s15.out s16.out))))))))))))))
  have fG0_17 := Lib.hid (fG0_16.out.below hb (Nat.le_trans s7.out (Nat.le_trans s8.out (Nat.le_trans s9.out (Nat.le_trans s10.out (Nat.le_trans s11.out (Nat.le_trans s12.out (Nat.le_trans s13.out (Nat.le_trans s14.out (Nat.le_trans s15.out s16.out))))))))))
  have fH0_17 := Lib.hid (fH0_16.out.below hb (Nat.le_refl _))
  clear fX00_16 fX10_16 bX1_16 fW0_16 fG0_16 fH0_16 hb
  have eX10 := bX1_17.out.2 0 _ rfl
  have eX11 := bX1_17.out.2 1 _ rfl
  have eX12 := bX1_17.out.2 2 _ rfl
  have eX13 := bX1_17.out.2 3 _ rfl
  have zX1 := Nat.lt_of_lt_of_le bX1_17.out.1 (Nat.le_trans s1.out (Nat.le_trans s2.out (Nat.le_trans s3.out (Nat.le_trans s4.out (Nat.le_trans s5.out (Nat.le_trans s6.out (Nat.le_trans s7.out (Nat.le_trans s8.out (Nat.le_trans s9.out (Nat.le_trans s10.out (Nat.le_trans s11.out (Nat.le_trans s12.out (Nat.le_trans s13.out (Nat.le_trans s14.out (Nat.le_trans s15.out (Nat.le_trans s16.out s17.out))))))))))))))))
  go_wp2_with fail
  clear eX10 eX11 eX12 eX13 zX1
  refine (heldS_abs' 1 1 (by simp) fG0_17.out.rd (by omega) (by omega)).mono ?_
  rintro e w18 ⟨rfl, hb⟩
  have t18 := Lib.hid (after t17.out hb)
  have s18 := Lib.hid hb.size
  have fX00_18 := Lib.hid (fX00_17.out.below hb t17.out.size)
  have fX10_18 := Lib.hid (fX10_17.out.below hb t17.out.size)
  have bX1_18 := Lib.hid (bX1_17.out.below hb (Nat.le_trans s1.out (Nat.le_trans s2.out (Nat.le_trans s3.out (Nat.le_trans s4.out (Nat.le_trans s5.out (Nat.le_trans s6.out (Nat.le_trans s7.out (Nat.le_trans s8.out (Nat.le_trans s9.out (Nat.le_trans s10.out (Nat.le_trans s11.out (Nat.le_trans s12.out (Nat.le_trans s13.out (Nat.le_trans s14.out (Nat.le_trans s15.out (Nat.le_trans s16.out s17.out)))))))))))))))))
  have fW0_18 := Lib.hid (fW0_17.out.below hb (Nat.le_trans s3.out (Nat.le_trans s4.out (Nat.le_trans s5.out (Nat.le_trans s6.out (Nat.le_trans s7.out (Nat.le_trans s8.out (Nat.le_trans s9.out (Nat.le_trans s10.out (Nat.le_trans s11.out (Nat.le_trans s12.out (Nat.le_trans s13.out (Nat.le_trans s14.out (Nat.le_trans s15.out (Nat.le_trans s16.out s17.out)))))))))))))))
  have fG0_18 := Lib.hid (fG0_17.out.below hb (Nat.le_trans s7.out (Nat.le_trans s8.out (Nat.le_trans s9.out (Nat.le_trans s10.out (Nat.le_trans s11.out (Nat.le_trans s12.out (Nat.le_trans s13.out (Nat.le_trans s14.out (Nat.le_trans s15.out (Nat.le_trans s16.out s17.out)))))))))))
  have fH0_18 := Lib.hid (fH0_17.out.below hb s17.out)
  clear fX00_17 fX10_17 bX1_17 fW0_17 fG0_17 fH0_17 hb
  go_wp2
  go_ret
  exact ⟨rfl, t18.out⟩
end fnExactApplyAmendment
end Go.Proofs.Ytecdgnflikkhaaa
