/- The walk of the law on DoConflict: it returns true. Conditions: none. -/
import Derived.Test.YtecdgnflikkhaaaDo2
namespace Go.Proofs.Ytecdgnflikkhaaa
open Go.RowKit
set_option linter.unusedVariables false
namespace fnExactDoConflict
set_option maxHeartbeats 4000000 in
theorem walk (AX00 : Option Addr) (cX00 : Nat) (a : Amd) (AX10 : Option Addr) (cX10 : Nat) (b : Amd) (w : World) (hc00 : ((a).ws).length ≤ cX00) (hr00 : Cells w AX00 (strs (a).ws)) (hn00 : ((a).ws).length ≤ maxLen) (hs00 : ∀ s ∈ (a).ws, s.size ≤ maxLen) (wk0 : (Lit.int .i64 a.k).wf = true) (wp0 : (Lit.int .i64 a.p).wf = true) (wn0 : (Lit.int .i64 a.n).wf = true) (hc10 : ((b).ws).length ≤ cX10) (hr10 : Cells w AX10 (strs (b).ws)) (hn10 : ((b).ws).length ≤ maxLen) (hs10 : ∀ s ∈ (b).ws, s.size ≤ maxLen) (wk1 : (Lit.int .i64 b.k).wf = true) (wp1 : (Lit.int .i64 b.p).wf = true) (wn1 : (Lit.int .i64 b.n).wf = true) :
    Calls Try.prog 5 #[.agg #[.int .i64 (a).k, .int .i64 (a).p, .int .i64 (a).n, .slice AX00 ((a).ws).length cX00], .agg #[.int .i64 (b).k, .int .i64 (b).p, .int .i64 (b).n, .slice AX10 ((b).ws).length cX10]] w fun e w' => e = .returned (.bool true) ∧ Below w.heap.size w w' := by
  have fX00_i := Lib.hid (show RdS0 w.heap.size w AX00 cX00 (a).ws from ⟨hc00, CellsB.of_cells hr00, hn00, hs00⟩)
  have fX10_i := Lib.hid (show RdS0 w.heap.size w AX10 cX10 (b).ws from ⟨hc10, CellsB.of_cells hr10, hn10, hs10⟩)
  clear hc00 hr00 hn00 hs00 wk0 wp0 wn0 hc10 hr10 hn10 hs10 wk1 wp1 wn1
  go_enter Try.func5, Try.ntmps5
  have t0 : Below w.heap.size w ((w.alloc (.cells #[.int .i64 (a).k, .int .i64 (a).p, .int .i64 (a).n, .slice AX00 ((a).ws).length cX00] 28)).alloc (.cells #[.int .i64 (b).k, .int .i64 (b).p, .int .i64 (b).n, .slice AX10 ((b).ws).length cX10] 28)) := by go_grown
  have nb0 : BoxL ((w.alloc (.cells #[.int .i64 (a).k, .int .i64 (a).p, .int .i64 (a).n, .slice AX00 ((a).ws).length cX00] 28)).alloc (.cells #[.int .i64 (b).k, .int .i64 (b).p, .int .i64 (b).n, .slice AX10 ((b).ws).length cX10] 28)).heap.size ((w.alloc (.cells #[.int .i64 (a).k, .int .i64 (a).p, .int .i64 (a).n, .slice AX00 ((a).ws).length cX00] 28)).alloc (.cells #[.int .i64 (b).k, .int .i64 (b).p, .int .i64 (b).n, .slice AX10 ((b).ws).length cX10] 28)) (w.heap.size) (#[.int .i64 (a).k, .int .i64 (a).p, .int .i64 (a).n, .slice AX00 ((a).ws).length cX00] : Array Value).toList := by
    refine ⟨by simp only [World.size_alloc]; omega, fun i v hi => ?_⟩
    have h1 := (BoxL.new w #[.int .i64 (a).k, .int .i64 (a).p, .int .i64 (a).n, .slice AX00 ((a).ws).length cX00] 28).2 i v hi
    simpa [go_sem] using h1
  have nb1 : BoxL ((w.alloc (.cells #[.int .i64 (a).k, .int .i64 (a).p, .int .i64 (a).n, .slice AX00 ((a).ws).length cX00] 28)).alloc (.cells #[.int .i64 (b).k, .int .i64 (b).p, .int .i64 (b).n, .slice AX10 ((b).ws).length cX10] 28)).heap.size ((w.alloc (.cells #[.int .i64 (a).k, .int .i64 (a).p, .int .i64 (a).n, .slice AX00 ((a).ws).length cX00] 28)).alloc (.cells #[.int .i64 (b).k, .int .i64 (b).p, .int .i64 (b).n, .slice AX10 ((b).ws).length cX10] 28)) (w.heap.size + 1) (#[.int .i64 (b).k, .int .i64 (b).p, .int .i64 (b).n, .slice AX10 ((b).ws).length cX10] : Array Value).toList := by
    refine ⟨by simp only [World.size_alloc]; omega, fun i v hi => ?_⟩
    have h1 := (BoxL.new (w.alloc (.cells #[.int .i64 (a).k, .int .i64 (a).p, .int .i64 (a).n, .slice AX00 ((a).ws).length cX00] 28)) #[.int .i64 (b).k, .int .i64 (b).p, .int .i64 (b).n, .slice AX10 ((b).ws).length cX10] 28).2 i v hi
    simpa using h1
  go_wp2_with fail
  generalize ((w.alloc (.cells #[.int .i64 (a).k, .int .i64 (a).p, .int .i64 (a).n, .slice AX00 ((a).ws).length cX00] 28)).alloc (.cells #[.int .i64 (b).k, .int .i64 (b).p, .int .i64 (b).n, .slice AX10 ((b).ws).length cX10] 28)) = w0 at *
  have bX0_0 := Lib.hid nb0
  have bX1_0 := Lib.hid nb1
  have T0 := Lib.hid t0
  clear t0
  have t0 := T0
  have fX00_0 := Lib.hid (fX00_i.out.below t0.out (Nat.le_refl _))
  have fX10_0 := Lib.hid (fX10_i.out.below t0.out (Nat.le_refl _))
  clear nb0 nb1 T0 fX00_i fX10_i
  refine (szA_abs (1048576) fX00_0.out.2.1.cells fX00_0.out.2.2 (by omega) (by omega)).mono ?_
  rintro e w1 ⟨rfl, hb⟩
  have t1 := Lib.hid (after t0.out hb)
  have s1 := Lib.hid hb.size
  have fX00_1 := Lib.hid (fX00_0.out.below hb t0.out.size)
  have bX0_1 := Lib.hid (bX0_0.out.below hb (Nat.le_refl _))
  have fX10_1 := Lib.hid (fX10_0.out.below hb t0.out.size)
  have bX1_1 := Lib.hid (bX1_0.out.below hb (Nat.le_refl _))
  clear fX00_0 bX0_0 fX10_0 bX1_0 hb
  rcases Int.lt_or_le (szF (a).ws (1048576)) 0 with hz | hz
  · go_wp2_with fail
    go_ret
    exact ⟨rfl, t1.out⟩
  have hz0 : ¬ szF (a).ws (1048576) < 0 := by omega
  obtain ⟨fit0, lo0, hi0⟩ := fitS_of hz0 (by omega) fX00_1.out.2.2
  have FT0 := Lib.hid fit0
  clear fit0 hz
  have eX00 := bX0_1.out.2 0 _ rfl
  have eX01 := bX0_1.out.2 1 _ rfl
  have eX02 := bX0_1.out.2 2 _ rfl
  have eX03 := bX0_1.out.2 3 _ rfl
  have zX0 := Nat.lt_of_lt_of_le bX0_1.out.1 s1.out
  have eX10 := bX1_1.out.2 0 _ rfl
  have eX11 := bX1_1.out.2 1 _ rfl
  have eX12 := bX1_1.out.2 2 _ rfl
  have eX13 := bX1_1.out.2 3 _ rfl
  have zX1 := Nat.lt_of_lt_of_le bX1_1.out.1 s1.out
  go_wp2_with fail
  refine (szA_abs (szF (a).ws (1048576)) fX10_1.out.2.1.cells fX10_1.out.2.2 lo0 hi0).mono ?_
  rintro e w2 ⟨rfl, hb⟩
  have t2 := Lib.hid (after t1.out hb)
  have s2 := Lib.hid hb.size
  have fX00_2 := Lib.hid (fX00_1.out.below hb t1.out.size)
  have bX0_2 := Lib.hid (bX0_1.out.below hb s1.out)
  have fX10_2 := Lib.hid (fX10_1.out.below hb t1.out.size)
  have bX1_2 := Lib.hid (bX1_1.out.below hb s1.out)
  clear eX00 eX01 eX02 eX03 zX0 eX10 eX11 eX12 eX13 zX1 fX00_1 bX0_1 fX10_1 bX1_1 hb
  rcases Int.lt_or_le (szF (b).ws (szF (a).ws (1048576))) 0 with hz | hz
  · go_wp2_with fail
    go_ret
    exact ⟨rfl, t2.out⟩
  have hz1 : ¬ szF (b).ws (szF (a).ws (1048576)) < 0 := by omega
  obtain ⟨fit1, lo1, hi1⟩ := fitS_of hz1 (by omega) fX10_2.out.2.2
  have FT1 := Lib.hid fit1
  clear fit1 hz
  have fX00_2r := Lib.hid (fX00_2.out.up FT0.out)
  have fX10_2r := Lib.hid (fX10_2.out.up FT1.out)
  clear fX00_2 fX10_2
  have eX00 := bX0_2.out.2 0 _ rfl
  have eX01 := bX0_2.out.2 1 _ rfl
  have eX02 := bX0_2.out.2 2 _ rfl
  have eX03 := bX0_2.out.2 3 _ rfl
  have zX0 := Nat.lt_of_lt_of_le bX0_2.out.1 (Nat.le_trans s1.out s2.out)
  have eX10 := bX1_2.out.2 0 _ rfl
  have eX11 := bX1_2.out.2 1 _ rfl
  have eX12 := bX1_2.out.2 2 _ rfl
  have eX13 := bX1_2.out.2 3 _ rfl
  have zX1 := Nat.lt_of_lt_of_le bX1_2.out.1 (Nat.le_trans s1.out s2.out)
  go_wp2_with fail
  go_region_held3 (fun w' => Below w2.heap.size w2 w' ∧ (∀ b o, b < w2.heap.size → w'.cell? ⟨b, o, none⟩ = w2.cell? ⟨b, o, none⟩))
    ((first | (refine mkS ?_; assumption) | (refine drewS ?_; assumption) | (refine mkS ?_; go_grown)))
    (first
      | (go_at_call_of 22 (.agg #[.int .i64 (a).k, .int .i64 (a).p, .int .i64 (a).n, .slice AX00 ((a).ws).length cX00] : Value); refine (toA_abs (B := w.heap.size) ?_).mono ?_; exact fX00_2r.out.below (S1 (by assumption)) t2.out.size; rintro e u0 ⟨AWa00, cWa00, rfl, oWa00, hb⟩; obtain ⟨hB, hzz⟩ := callS (by assumption) (Nat.le_refl _) hb; have HB0 := Lib.hid hB; have FWa00 := Lib.hid oWa00.rd; clear oWa00; clear hb)
      | (go_at_call_of 22 (.agg #[.int .i64 (b).k, .int .i64 (b).p, .int .i64 (b).n, .slice AX10 ((b).ws).length cX10] : Value); refine (toA_abs (B := w.heap.size) ?_).mono ?_; exact fX10_2r.out.below (S1 (by assumption)) t2.out.size; rintro e u1 ⟨AWa10, cWa10, rfl, oWa10, hb⟩; obtain ⟨hB, hzz⟩ := callS (by assumption) (Nat.le_refl _) hb; have HB1 := Lib.hid hB; have FWa00x := Lib.hid (FWa00.out.below hb (by simp)); clear FWa00; have FWa10 := Lib.hid oWa10.rd; clear oWa10; clear hb)
      | (go_at_call 25; refine (sDoConflict_abs FWa00x.out FWa10.out).mono ?_; rintro e w3 ⟨rfl, hb⟩; obtain ⟨hB, hzz⟩ := callS (by assumption) (Nat.le_refl _) hb; have HBz := Lib.hid hB; have SZz := Lib.hid hzz; clear hb))
  have t3 := Lib.hid (after t2.out HBz.out)
  have s3 := Lib.hid HBz.out.size
  have fX00_3 := Lib.hid (fX00_2r.out.below HBz.out t2.out.size)
  have bX0_3 := Lib.hid (bX0_2.out.below HBz.out (Nat.le_trans s1.out s2.out))
  have fX10_3 := Lib.hid (fX10_2r.out.below HBz.out t2.out.size)
  have bX1_3 := Lib.hid (bX1_2.out.below HBz.out (Nat.le_trans s1.out s2.out))
  clear eX00 eX01 eX02 eX03 zX0 eX10 eX11 eX12 eX13 zX1 fX00_2r bX0_2 fX10_2r bX1_2
  have eX00 := bX0_3.out.2 0 _ rfl
  have eX01 := bX0_3.out.2 1 _ rfl
  have eX02 := bX0_3.out.2 2 _ rfl
  have eX03 := bX0_3.out.2 3 _ rfl
  have zX0 := Nat.lt_of_lt_of_le bX0_3.out.1 (Nat.le_trans s1.out (Nat.le_trans s2.out s3.out))
  have eX10 := bX1_3.out.2 0 _ rfl
  have eX11 := bX1_3.out.2 1 _ rfl
  have eX12 := bX1_3.out.2 2 _ rfl
  have eX13 := bX1_3.out.2 3 _ rfl
  have zX1 := Nat.lt_of_lt_of_le bX1_3.out.1 (Nat.le_trans s1.out (Nat.le_trans s2.out s3.out))
  go_wp2_with fail
  clear eX00 eX01 eX02 eX03 zX0 eX10 eX11 eX12 eX13 zX1
  refine (toA_abs fX00_3.out).mono ?_
  rintro e w4 ⟨AY00, cY00, rfl, oY00, hb⟩
  have t4 := Lib.hid (after t3.out hb)
  have s4 := Lib.hid hb.size
  have fX00_4 := Lib.hid (fX00_3.out.below hb t3.out.size)
  have bX0_4 := Lib.hid (bX0_3.out.below hb (Nat.le_trans s1.out (Nat.le_trans s2.out s3.out)))
  have fX10_4 := Lib.hid (fX10_3.out.below hb t3.out.size)
  have bX1_4 := Lib.hid (bX1_3.out.below hb (Nat.le_trans s1.out (Nat.le_trans s2.out s3.out)))
  have fY00_4 := Lib.hid oY00
  clear fX00_3 bX0_3 fX10_3 bX1_3 oY00 hb
  have nb := (BoxL.new w4 #[.int .i64 (a).k, .int .i64 (a).p, .int .i64 (a).n, .slice AY00 ((a).ws).length cY00] 31).mono (show w4.heap.size + 1 ≤ (w4.alloc (.cells #[.int .i64 (a).k, .int .i64 (a).p, .int .i64 (a).n, .slice AY00 ((a).ws).length cY00] 31)).heap.size by simp)
  have hb : Below w4.heap.size w4 (w4.alloc (.cells #[.int .i64 (a).k, .int .i64 (a).p, .int .i64 (a).n, .slice AY00 ((a).ws).length cY00] 31)) := by go_grown
  have eX00 := bX0_4.out.2 0 _ rfl
  have eX01 := bX0_4.out.2 1 _ rfl
  have eX02 := bX0_4.out.2 2 _ rfl
  have eX03 := bX0_4.out.2 3 _ rfl
  have zX0 := Nat.lt_of_lt_of_le bX0_4.out.1 (Nat.le_trans s1.out (Nat.le_trans s2.out (Nat.le_trans s3.out s4.out)))
  have eX10 := bX1_4.out.2 0 _ rfl
  have eX11 := bX1_4.out.2 1 _ rfl
  have eX12 := bX1_4.out.2 2 _ rfl
  have eX13 := bX1_4.out.2 3 _ rfl
  have zX1 := Nat.lt_of_lt_of_le bX1_4.out.1 (Nat.le_trans s1.out (Nat.le_trans s2.out (Nat.le_trans s3.out s4.out)))
  go_wp2_with fail
  clear eX00 eX01 eX02 eX03 zX0 eX10 eX11 eX12 eX13 zX1
  generalize w4.alloc (.cells #[.int .i64 (a).k, .int .i64 (a).p, .int .i64 (a).n, .slice AY00 ((a).ws).length cY00] 31) = w5 at *
  have t5 := Lib.hid (after t4.out hb)
  have s5 := Lib.hid hb.size
  have fX00_5 := Lib.hid (fX00_4.out.below hb t4.out.size)
  have bX0_5 := Lib.hid (bX0_4.out.below hb (Nat.le_trans s1.out (Nat.le_trans s2.out (Nat.le_trans s3.out s4.out))))
  have fX10_5 := Lib.hid (fX10_4.out.below hb t4.out.size)
  have bX1_5 := Lib.hid (bX1_4.out.below hb (Nat.le_trans s1.out (Nat.le_trans s2.out (Nat.le_trans s3.out s4.out))))
  have fY00_5 := Lib.hid (fY00_4.out.below hb (Nat.le_refl _))
  have bY0_5 := Lib.hid nb
  clear fX00_4 bX0_4 fX10_4 bX1_4 fY00_4 nb hb
  refine (toA_abs fX10_5.out).mono ?_
  rintro e w6 ⟨AY10, cY10, rfl, oY10, hb⟩
  have t6 := Lib.hid (after t5.out hb)
  have s6 := Lib.hid hb.size
  have fX00_6 := Lib.hid (fX00_5.out.below hb t5.out.size)
  have bX0_6 := Lib.hid (bX0_5.out.below hb (Nat.le_trans s1.out (Nat.le_trans s2.out (Nat.le_trans s3.out (Nat.le_trans s4.out s5.out)))))
  have fX10_6 := Lib.hid (fX10_5.out.below hb t5.out.size)
  have bX1_6 := Lib.hid (bX1_5.out.below hb (Nat.le_trans s1.out (Nat.le_trans s2.out (Nat.le_trans s3.out (Nat.le_trans s4.out s5.out)))))
  have fY00_6 := Lib.hid (fY00_5.out.below hb s5.out)
  have bY0_6 := Lib.hid (bY0_5.out.below hb (Nat.le_refl _))
  have fY10_6 := Lib.hid oY10
  clear fX00_5 bX0_5 fX10_5 bX1_5 fY00_5 bY0_5 oY10 hb
  have nb := (BoxL.new w6 #[.int .i64 (b).k, .int .i64 (b).p, .int .i64 (b).n, .slice AY10 ((b).ws).length cY10] 31).mono (show w6.heap.size + 1 ≤ (w6.alloc (.cells #[.int .i64 (b).k, .int .i64 (b).p, .int .i64 (b).n, .slice AY10 ((b).ws).length cY10] 31)).heap.size by simp)
  have hb : Below w6.heap.size w6 (w6.alloc (.cells #[.int .i64 (b).k, .int .i64 (b).p, .int .i64 (b).n, .slice AY10 ((b).ws).length cY10] 31)) := by go_grown
  have eX00 := bX0_6.out.2 0 _ rfl
  have eX01 := bX0_6.out.2 1 _ rfl
  have eX02 := bX0_6.out.2 2 _ rfl
  have eX03 := bX0_6.out.2 3 _ rfl
  have zX0 := Nat.lt_of_lt_of_le bX0_6.out.1 (Nat.le_trans s1.out (Nat.le_trans s2.out (Nat.le_trans s3.out (Nat.le_trans s4.out (Nat.le_trans s5.out s6.out)))))
  have eX10 := bX1_6.out.2 0 _ rfl
  have eX11 := bX1_6.out.2 1 _ rfl
  have eX12 := bX1_6.out.2 2 _ rfl
  have eX13 := bX1_6.out.2 3 _ rfl
  have zX1 := Nat.lt_of_lt_of_le bX1_6.out.1 (Nat.le_trans s1.out (Nat.le_trans s2.out (Nat.le_trans s3.out (Nat.le_trans s4.out (Nat.le_trans s5.out s6.out)))))
  have eY00 := bY0_6.out.2 0 _ rfl
  have eY01 := bY0_6.out.2 1 _ rfl
  have eY02 := bY0_6.out.2 2 _ rfl
  have eY03 := bY0_6.out.2 3 _ rfl
  have zY0 := Nat.lt_of_lt_of_le bY0_6.out.1 s6.out
  go_wp2_with fail
  clear eX00 eX01 eX02 eX03 zX0 eX10 eX11 eX12 eX13 zX1 eY00 eY01 eY02 eY03 zY0
  generalize w6.alloc (.cells #[.int .i64 (b).k, .int .i64 (b).p, .int .i64 (b).n, .slice AY10 ((b).ws).length cY10] 31) = w7 at *
  have t7 := Lib.hid (after t6.out hb)
  have s7 := Lib.hid hb.size
  have fX00_7 := Lib.hid (fX00_6.out.below hb t6.out.size)
  have bX0_7 := Lib.hid (bX0_6.out.below hb (Nat.le_trans s1.out (Nat.le_trans s2.out (Nat.le_trans s3.out (Nat.le_trans s4.out (Nat.le_trans s5.out s6.out))))))
  have fX10_7 := Lib.hid (fX10_6.out.below hb t6.out.size)
  have bX1_7 := Lib.hid (bX1_6.out.below hb (Nat.le_trans s1.out (Nat.le_trans s2.out (Nat.le_trans s3.out (Nat.le_trans s4.out (Nat.le_trans s5.out s6.out))))))
  have fY00_7 := Lib.hid (fY00_6.out.below hb (Nat.le_trans s5.out s6.out))
  have bY0_7 := Lib.hid (bY0_6.out.below hb s6.out)
  have fY10_7 := Lib.hid (fY10_6.out.below hb (Nat.le_refl _))
  have bY1_7 := Lib.hid nb
  clear fX00_6 bX0_6 fX10_6 bX1_6 fY00_6 bY0_6 fY10_6 nb hb
  refine (DoConflict_abs fY00_7.out.rd fY10_7.out.rd).mono ?_
  rintro e w8 ⟨rfl, hb⟩
  have t8 := Lib.hid (after t7.out hb)
  have s8 := Lib.hid hb.size
  have fX00_8 := Lib.hid (fX00_7.out.below hb t7.out.size)
  have bX0_8 := Lib.hid (bX0_7.out.below hb (Nat.le_trans s1.out (Nat.le_trans s2.out (Nat.le_trans s3.out (Nat.le_trans s4.out (Nat.le_trans s5.out (Nat.le_trans s6.out s7.out)))))))
  have fX10_8 := Lib.hid (fX10_7.out.below hb t7.out.size)
  have bX1_8 := Lib.hid (bX1_7.out.below hb (Nat.le_trans s1.out (Nat.le_trans s2.out (Nat.le_trans s3.out (Nat.le_trans s4.out (Nat.le_trans s5.out (Nat.le_trans s6.out s7.out)))))))
  have fY00_8 := Lib.hid (fY00_7.out.below hb (Nat.le_trans s5.out (Nat.le_trans s6.out s7.out)))
  have bY0_8 := Lib.hid (bY0_7.out.below hb (Nat.le_trans s6.out s7.out))
  have fY10_8 := Lib.hid (fY10_7.out.below hb s7.out)
  have bY1_8 := Lib.hid (bY1_7.out.below hb (Nat.le_refl _))
  clear fX00_7 bX0_7 fX10_7 bX1_7 fY00_7 bY0_7 fY10_7 bY1_7 hb
  have eX00 := bX0_8.out.2 0 _ rfl
  have eX01 := bX0_8.out.2 1 _ rfl
  have eX02 := bX0_8.out.2 2 _ rfl
  have eX03 := bX0_8.out.2 3 _ rfl
  have zX0 := Nat.lt_of_lt_of_le bX0_8.out.1 (Nat.le_trans s1.out (Nat.le_trans s2.out (Nat.le_trans s3.out (Nat.le_trans s4.out (Nat.le_trans s5.out (Nat.le_trans s6.out (Nat.le_trans s7.out s8.out)))))))
  have eX10 := bX1_8.out.2 0 _ rfl
  have eX11 := bX1_8.out.2 1 _ rfl
  have eX12 := bX1_8.out.2 2 _ rfl
  have eX13 := bX1_8.out.2 3 _ rfl
  have zX1 := Nat.lt_of_lt_of_le bX1_8.out.1 (Nat.le_trans s1.out (Nat.le_trans s2.out (Nat.le_trans s3.out (Nat.le_trans s4.out (Nat.le_trans s5.out (Nat.le_trans s6.out (Nat.le_trans s7.out s8.out)))))))
  have eY00 := bY0_8.out.2 0 _ rfl
  have eY01 := bY0_8.out.2 1 _ rfl
  have eY02 := bY0_8.out.2 2 _ rfl
  have eY03 := bY0_8.out.2 3 _ rfl
  have zY0 := Nat.lt_of_lt_of_le bY0_8.out.1 (Nat.le_trans s6.out (Nat.le_trans s7.out s8.out))
  have eY10 := bY1_8.out.2 0 _ rfl
  have eY11 := bY1_8.out.2 1 _ rfl
  have eY12 := bY1_8.out.2 2 _ rfl
  have eY13 := bY1_8.out.2 3 _ rfl
  have zY1 := Nat.lt_of_lt_of_le bY1_8.out.1 s8.out
  go_wp2_with fail
  go_region_held3 (fun w' => Below w8.heap.size w8 w' ∧ (∀ b o, b < w8.heap.size → w'.cell? ⟨b, o, none⟩ = w8.cell? ⟨b, o, none⟩))
    ((first | (refine mkS ?_; assumption) | (refine drewS ?_; assumption) | (refine mkS ?_; go_grown)))
    (first
      | (go_at_call 22; refine (toA_abs (B := w.heap.size) ?_).mono ?_; exact fX00_8.out.below (S1 (by assumption)) t8.out.size; rintro e v ⟨AZ00, cZ00, rfl, oZ00, hb⟩; obtain ⟨hB, hzz⟩ := callS (by assumption) (Nat.le_refl _) hb; have HBy := Lib.hid hB; clear hb)
      | (go_at_call 24; refine (eqA_abs (B := w4.heap.size) (B' := v.heap.size) ?_ ?_).mono ?_; exact fY00_8.out.rd.below HBy.out (Nat.le_trans s5.out (Nat.le_trans s6.out (Nat.le_trans s7.out s8.out))); exact oZ00.rd; rintro e w9 ⟨rfl, hb⟩; obtain ⟨hB, hzz⟩ := callS (by assumption) (Nat.le_refl _) hb; have HBz := Lib.hid hB; clear hb))
  have t9 := Lib.hid (after t8.out HBz.out)
  have s9 := Lib.hid HBz.out.size
  have fX00_9 := Lib.hid (fX00_8.out.below HBz.out t8.out.size)
  have bX0_9 := Lib.hid (bX0_8.out.below HBz.out (Nat.le_trans s1.out (Nat.le_trans s2.out (Nat.le_trans s3.out (Nat.le_trans s4.out (Nat.le_trans s5.out (Nat.le_trans s6.out (Nat.le_trans s7.out s8.out))))))))
  have fX10_9 := Lib.hid (fX10_8.out.below HBz.out t8.out.size)
  have bX1_9 := Lib.hid (bX1_8.out.below HBz.out (Nat.le_trans s1.out (Nat.le_trans s2.out (Nat.le_trans s3.out (Nat.le_trans s4.out (Nat.le_trans s5.out (Nat.le_trans s6.out (Nat.le_trans s7.out s8.out))))))))
  have fY00_9 := Lib.hid (fY00_8.out.below HBz.out (Nat.le_trans s5.out (Nat.le_trans s6.out (Nat.le_trans s7.out s8.out))))
  have bY0_9 := Lib.hid (bY0_8.out.below HBz.out (Nat.le_trans s6.out (Nat.le_trans s7.out s8.out)))
  have fY10_9 := Lib.hid (fY10_8.out.below HBz.out (Nat.le_trans s7.out s8.out))
  have bY1_9 := Lib.hid (bY1_8.out.below HBz.out s8.out)
  clear eX00 eX01 eX02 eX03 zX0 eX10 eX11 eX12 eX13 zX1 eY00 eY01 eY02 eY03 zY0 eY10 eY11 eY12 eY13 zY1 fX00_8 bX0_8 fX10_8 bX1_8 fY00_8 bY0_8 fY10_8 bY1_8
  have eX00 := bX0_9.out.2 0 _ rfl
  have eX01 := bX0_9.out.2 1 _ rfl
  have eX02 := bX0_9.out.2 2 _ rfl
  have eX03 := bX0_9.out.2 3 _ rfl
  have zX0 := Nat.lt_of_lt_of_le bX0_9.out.1 (Nat.le_trans s1.out (Nat.le_trans s2.out (Nat.le_trans s3.out (Nat.le_trans s4.out (Nat.le_trans s5.out (Nat.le_trans s6.out (Nat.le_trans s7.out (Nat.le_trans s8.out s9.out))))))))
  have eX10 := bX1_9.out.2 0 _ rfl
  have eX11 := bX1_9.out.2 1 _ rfl
  have eX12 := bX1_9.out.2 2 _ rfl
  have eX13 := bX1_9.out.2 3 _ rfl
  have zX1 := Nat.lt_of_lt_of_le bX1_9.out.1 (Nat.le_trans s1.out (Nat.le_trans s2.out (Nat.le_trans s3.out (Nat.le_trans s4.out (Nat.le_trans s5.out (Nat.le_trans s6.out (Nat.le_trans s7.out (Nat.le_trans s8.out s9.out))))))))
  have eY00 := bY0_9.out.2 0 _ rfl
  have eY01 := bY0_9.out.2 1 _ rfl
  have eY02 := bY0_9.out.2 2 _ rfl
  have eY03 := bY0_9.out.2 3 _ rfl
  have zY0 := Nat.lt_of_lt_of_le bY0_9.out.1 (Nat.le_trans s6.out (Nat.le_trans s7.out (Nat.le_trans s8.out s9.out)))
  have eY10 := bY1_9.out.2 0 _ rfl
  have eY11 := bY1_9.out.2 1 _ rfl
  have eY12 := bY1_9.out.2 2 _ rfl
  have eY13 := bY1_9.out.2 3 _ rfl
  have zY1 := Nat.lt_of_lt_of_le bY1_9.out.1 (Nat.le_trans s8.out s9.out)
  go_wp2_with fail
  go_region_held3 (fun w' => Below w9.heap.size w9 w' ∧ (∀ b o, b < w9.heap.size → w'.cell? ⟨b, o, none⟩ = w9.cell? ⟨b, o, none⟩))
    ((first | (refine mkS ?_; assumption) | (refine drewS ?_; assumption) | (refine mkS ?_; go_grown)))
    (first
      | (go_at_call 22; refine (toA_abs (B := w.heap.size) ?_).mono ?_; exact fX10_9.out.below (S1 (by assumption)) t9.out.size; rintro e v ⟨AZ10, cZ10, rfl, oZ10, hb⟩; obtain ⟨hB, hzz⟩ := callS (by assumption) (Nat.le_refl _) hb; have HBy := Lib.hid hB; clear hb)
      | (go_at_call 24; refine (eqA_abs (B := w6.heap.size) (B' := v.heap.size) ?_ ?_).mono ?_; exact fY10_9.out.rd.below HBy.out (Nat.le_trans s7.out (Nat.le_trans s8.out s9.out)); exact oZ10.rd; rintro e w10 ⟨rfl, hb⟩; obtain ⟨hB, hzz⟩ := callS (by assumption) (Nat.le_refl _) hb; have HBz := Lib.hid hB; clear hb))
  have t10 := Lib.hid (after t9.out HBz.out)
  have s10 := Lib.hid HBz.out.size
  have fX00_10 := Lib.hid (fX00_9.out.below HBz.out t9.out.size)
  have bX0_10 := Lib.hid (bX0_9.out.below HBz.out (Nat.le_trans s1.out (Nat.le_trans s2.out (Nat.le_trans s3.out (Nat.le_trans s4.out (Nat.le_trans s5.out (Nat.le_trans s6.out (Nat.le_trans s7.out (Nat.le_trans s8.out s9.out)))))))))
  have fX10_10 := Lib.hid (fX10_9.out.below HBz.out t9.out.size)
  have bX1_10 := Lib.hid (bX1_9.out.below HBz.out (Nat.le_trans s1.out (Nat.le_trans s2.out (Nat.le_trans s3.out (Nat.le_trans s4.out (Nat.le_trans s5.out (Nat.le_trans s6.out (Nat.le_trans s7.out (Nat.le_trans s8.out s9.out)))))))))
  have fY00_10 := Lib.hid (fY00_9.out.below HBz.out (Nat.le_trans s5.out (Nat.le_trans s6.out (Nat.le_trans s7.out (Nat.le_trans s8.out s9.out)))))
  have bY0_10 := Lib.hid (bY0_9.out.below HBz.out (Nat.le_trans s6.out (Nat.le_trans s7.out (Nat.le_trans s8.out s9.out))))
  have fY10_10 := Lib.hid (fY10_9.out.below HBz.out (Nat.le_trans s7.out (Nat.le_trans s8.out s9.out)))
  have bY1_10 := Lib.hid (bY1_9.out.below HBz.out (Nat.le_trans s8.out s9.out))
  clear eX00 eX01 eX02 eX03 zX0 eX10 eX11 eX12 eX13 zX1 eY00 eY01 eY02 eY03 zY0 eY10 eY11 eY12 eY13 zY1 fX00_9 bX0_9 fX10_9 bX1_9 fY00_9 bY0_9 fY10_9 bY1_9
  go_wp2
  go_ret
  exact ⟨rfl, t10.out⟩
end fnExactDoConflict
end Go.Proofs.Ytecdgnflikkhaaa
