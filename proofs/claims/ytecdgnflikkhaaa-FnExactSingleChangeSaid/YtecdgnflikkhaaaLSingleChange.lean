/- The walk of the law on SingleChange: it returns true. Conditions: none. -/
import Derived.Test.YtecdgnflikkhaaaSg
import Derived.Test.YtecdgnflikkhaaaMk
import Derived.Deep.DrawnRows
namespace Go.Proofs.Ytecdgnflikkhaaa
open Go.RowKit
set_option linter.unusedVariables false
theorem Fit.sg {ss ts : List ByteArray} (h : Fit ts) : Fit (sgR ss ts).ws := by
  unfold sgR
  split
  · refine ⟨?_, fun s hs => h.2 s (List.mem_of_mem_drop (List.mem_of_mem_take hs))⟩
    show (midW ss ts).length ≤ _
    unfold midW
    rw [List.length_take, List.length_drop]
    have := h.1
    omega
  · exact ⟨by simp [noA], fun s hs => by simp [noA] at hs⟩
section
variable {B B' : Nat} {w : World} {A A' : Option Addr} {c c' : Nat} {ss ts : List ByteArray}
theorem SingleChange_abs (h : RdS B w A c ss) (h' : RdS B' w A' c' ts) : Calls Try.prog 30 #[.slice A ss.length c, .slice A' ts.length c'] w (ToAB w (sgR ss ts) (sgOk ss ts)) :=
  (SingleChange_any A A' c c' ss ts w h.cells h.1 h.2.2 h'.cells h'.1 h'.2.2).mono fun _ _ h1 => h1.obj (Fit.sg h'.2.2)
theorem sSingleChange_abs (h : RdS B w A c ss) (h' : RdS B' w A' c' ts) : Calls Try.prog 29 #[.slice A ss.length c, .slice A' ts.length c'] w (ToAB w (sgR ss ts) (sgOk ss ts)) :=
  (sSingleChange_any A A' c c' ss ts w h.cells h.1 h.2.2 h'.cells h'.1 h'.2.2).mono fun _ _ h1 => h1.obj (Fit.sg h'.2.2)
end
namespace fnExactSingleChange
set_option maxRecDepth 100000 in
set_option maxHeartbeats 4000000 in
theorem walk (AX00 : Option Addr) (cX00 : Nat) (ss : List ByteArray) (AX10 : Option Addr) (cX10 : Nat) (ts : List ByteArray) (w : World) (hc00 : (ss).length ≤ cX00) (hr00 : Cells w AX00 (strs ss)) (hn00 : (ss).length ≤ maxLen) (hs00 : ∀ s ∈ ss, s.size ≤ maxLen) (hc10 : (ts).length ≤ cX10) (hr10 : Cells w AX10 (strs ts)) (hn10 : (ts).length ≤ maxLen) (hs10 : ∀ s ∈ ts, s.size ≤ maxLen) :
    Calls Try.prog 7 #[.slice AX00 (ss).length cX00, .slice AX10 (ts).length cX10] w fun e w' => e = .returned (.bool true) ∧ Below w.heap.size w w' := by
  have fX00_i := Lib.hid (show RdS0 w.heap.size w AX00 cX00 ss from ⟨hc00, CellsB.of_cells hr00, hn00, hs00⟩)
  have fX10_i := Lib.hid (show RdS0 w.heap.size w AX10 cX10 ts from ⟨hc10, CellsB.of_cells hr10, hn10, hs10⟩)
  clear hc00 hr00 hn00 hs00 hc10 hr10 hn10 hs10
  go_enter Try.func7, Try.ntmps7
  have t0 := Lib.hid (Below.refl w.heap.size w)
  have fX00_0 := Lib.hid (fX00_i.out.below t0.out (Nat.le_refl _))
  have fX10_0 := Lib.hid (fX10_i.out.below t0.out (Nat.le_refl _))
  clear fX00_i fX10_i
  go_wp2_with fail
  refine (szS_abs (1048576) fX00_0.out.2.1.cells fX00_0.out.2.2 (by omega) (by omega)).mono ?_
  rintro e w' ⟨rfl, rfl⟩
  rcases Int.lt_or_le (szF ss (1048576)) 0 with hz | hz
  · go_wp2_with fail
    go_ret
    exact ⟨rfl, t0.out⟩
  have hz0 : ¬ szF ss (1048576) < 0 := by omega
  obtain ⟨fit0, lo0, hi0⟩ := fitS_of hz0 (by omega) fX00_0.out.2.2
  have FT0 := Lib.hid fit0
  clear fit0 hz
  go_wp2_with fail
  refine (szS_abs (szF ss (1048576)) fX10_0.out.2.1.cells fX10_0.out.2.2 lo0 hi0).mono ?_
  rintro e w' ⟨rfl, rfl⟩
  rcases Int.lt_or_le (szF ts (szF ss (1048576))) 0 with hz | hz
  · go_wp2_with fail
    go_ret
    exact ⟨rfl, t0.out⟩
  have hz1 : ¬ szF ts (szF ss (1048576)) < 0 := by omega
  obtain ⟨fit1, lo1, hi1⟩ := fitS_of hz1 (by omega) fX10_0.out.2.2
  have FT1 := Lib.hid fit1
  clear fit1 hz
  have fX00_0r := Lib.hid (fX00_0.out.up FT0.out)
  have fX10_0r := Lib.hid (fX10_0.out.up FT1.out)
  clear fX00_0 fX10_0
  go_wp2_with fail
  refine (toS_abs fX00_0r.out).mono ?_
  rintro e w1 ⟨AWa00, cWa00, rfl, oWa00, hb⟩
  have t1 := Lib.hid (after t0.out hb)
  have s1 := Lib.hid hb.size
  have fX00_1 := Lib.hid (fX00_0r.out.below hb t0.out.size)
  have fX10_1 := Lib.hid (fX10_0r.out.below hb t0.out.size)
  have fWa00_1 := Lib.hid oWa00
  clear fX00_0r fX10_0r oWa00 hb
  go_wp2_with fail
  refine (toS_abs fX10_1.out).mono ?_
  rintro e w2 ⟨AWa10, cWa10, rfl, oWa10, hb⟩
  have t2 := Lib.hid (after t1.out hb)
  have s2 := Lib.hid hb.size
  have fX00_2 := Lib.hid (fX00_1.out.below hb t1.out.size)
  have fX10_2 := Lib.hid (fX10_1.out.below hb t1.out.size)
  have fWa00_2 := Lib.hid (fWa00_1.out.below hb (Nat.le_refl _))
  have fWa10_2 := Lib.hid oWa10
  clear fX00_1 fX10_1 fWa00_1 oWa10 hb
  go_wp2_with fail
  refine (sSingleChange_abs fWa00_2.out.rd fWa10_2.out.rd).mono ?_
  rintro e w3 ⟨AW0, cW0, rfl, oW0, hb⟩
  have t3 := Lib.hid (after t2.out hb)
  have s3 := Lib.hid hb.size
  have fX00_3 := Lib.hid (fX00_2.out.below hb t2.out.size)
  have fX10_3 := Lib.hid (fX10_2.out.below hb t2.out.size)
  have fWa00_3 := Lib.hid (fWa00_2.out.below hb s2.out)
  have fWa10_3 := Lib.hid (fWa10_2.out.below hb (Nat.le_refl _))
  have fW0_3 := Lib.hid oW0
  clear fX00_2 fX10_2 fWa00_2 fWa10_2 oW0 hb
  clear fWa00_3 fWa10_3
  have nb := (BoxL.new w3 #[.int .i64 ((sgR ss ts)).k, .int .i64 ((sgR ss ts)).p, .int .i64 ((sgR ss ts)).n, .slice AW0 (((sgR ss ts)).ws).length cW0] 31).mono (show w3.heap.size + 1 ≤ (w3.alloc (.cells #[.int .i64 ((sgR ss ts)).k, .int .i64 ((sgR ss ts)).p, .int .i64 ((sgR ss ts)).n, .slice AW0 (((sgR ss ts)).ws).length cW0] 31)).heap.size by simp)
  have hb : Below w3.heap.size w3 (w3.alloc (.cells #[.int .i64 ((sgR ss ts)).k, .int .i64 ((sgR ss ts)).p, .int .i64 ((sgR ss ts)).n, .slice AW0 (((sgR ss ts)).ws).length cW0] 31)) := by go_grown
  go_wp2_with fail
  generalize w3.alloc (.cells #[.int .i64 ((sgR ss ts)).k, .int .i64 ((sgR ss ts)).p, .int .i64 ((sgR ss ts)).n, .slice AW0 (((sgR ss ts)).ws).length cW0] 31) = w4 at *
  have t4 := Lib.hid (after t3.out hb)
  have s4 := Lib.hid hb.size
  have fX00_4 := Lib.hid (fX00_3.out.below hb t3.out.size)
  have fX10_4 := Lib.hid (fX10_3.out.below hb t3.out.size)
  have fW0_4 := Lib.hid (fW0_3.out.below hb (Nat.le_refl _))
  have bW_4 := Lib.hid nb
  clear fX00_3 fX10_3 fW0_3 nb hb
  have eW0 := bW_4.out.2 0 _ rfl
  have eW1 := bW_4.out.2 1 _ rfl
  have eW2 := bW_4.out.2 2 _ rfl
  have eW3 := bW_4.out.2 3 _ rfl
  have zW := Nat.lt_of_lt_of_le bW_4.out.1 (Nat.le_refl _)
  go_wp2_with fail
  clear eW0 eW1 eW2 eW3 zW
  refine (toS_abs fX00_4.out).mono ?_
  rintro e w5 ⟨AY00, cY00, rfl, oY00, hb⟩
  have t5 := Lib.hid (after t4.out hb)
  have s5 := Lib.hid hb.size
  have fX00_5 := Lib.hid (fX00_4.out.below hb t4.out.size)
  have fX10_5 := Lib.hid (fX10_4.out.below hb t4.out.size)
  have fW0_5 := Lib.hid (fW0_4.out.below hb s4.out)
  have bW_5 := Lib.hid (bW_4.out.below hb (Nat.le_refl _))
  have fY00_5 := Lib.hid oY00
  clear fX00_4 fX10_4 fW0_4 bW_4 oY00 hb
  have eW0 := bW_5.out.2 0 _ rfl
  have eW1 := bW_5.out.2 1 _ rfl
  have eW2 := bW_5.out.2 2 _ rfl
  have eW3 := bW_5.out.2 3 _ rfl
  have zW := Nat.lt_of_lt_of_le bW_5.out.1 s5.out
  go_wp2_with fail
  clear eW0 eW1 eW2 eW3 zW
  refine (toS_abs fX10_5.out).mono ?_
  rintro e w6 ⟨AY10, cY10, rfl, oY10, hb⟩
  have t6 := Lib.hid (after t5.out hb)
  have s6 := Lib.hid hb.size
  have fX00_6 := Lib.hid (fX00_5.out.below hb t5.out.size)
  have fX10_6 := Lib.hid (fX10_5.out.below hb t5.out.size)
  have fW0_6 := Lib.hid (fW0_5.out.below hb (Nat.le_trans s4.out s5.out))
  have bW_6 := Lib.hid (bW_5.out.below hb s5.out)
  have fY00_6 := Lib.hid (fY00_5.out.below hb (Nat.le_refl _))
  have fY10_6 := Lib.hid oY10
  clear fX00_5 fX10_5 fW0_5 bW_5 fY00_5 oY10 hb
  have eW0 := bW_6.out.2 0 _ rfl
  have eW1 := bW_6.out.2 1 _ rfl
  have eW2 := bW_6.out.2 2 _ rfl
  have eW3 := bW_6.out.2 3 _ rfl
  have zW := Nat.lt_of_lt_of_le bW_6.out.1 (Nat.le_trans s5.out s6.out)
  go_wp2_with fail
  clear eW0 eW1 eW2 eW3 zW
  refine (SingleChange_abs fY00_6.out.rd fY10_6.out.rd).mono ?_
  rintro e w7 ⟨AG0, cG0, rfl, oG0, hb⟩
  have t7 := Lib.hid (after t6.out hb)
  have s7 := Lib.hid hb.size
  have fX00_7 := Lib.hid (fX00_6.out.below hb t6.out.size)
  have fX10_7 := Lib.hid (fX10_6.out.below hb t6.out.size)
  have fW0_7 := Lib.hid (fW0_6.out.below hb (Nat.le_trans s4.out (Nat.le_trans s5.out s6.out)))
  have bW_7 := Lib.hid (bW_6.out.below hb (Nat.le_trans s5.out s6.out))
  have fY00_7 := Lib.hid (fY00_6.out.below hb s6.out)
  have fY10_7 := Lib.hid (fY10_6.out.below hb (Nat.le_refl _))
  have fG0_7 := Lib.hid oG0
  clear fX00_6 fX10_6 fW0_6 bW_6 fY00_6 fY10_6 oG0 hb
  have nb := (BoxL.new w7 #[.int .i64 ((sgR ss ts)).k, .int .i64 ((sgR ss ts)).p, .int .i64 ((sgR ss ts)).n, .slice AG0 (((sgR ss ts)).ws).length cG0] 31).mono (show w7.heap.size + 1 ≤ (w7.alloc (.cells #[.int .i64 ((sgR ss ts)).k, .int .i64 ((sgR ss ts)).p, .int .i64 ((sgR ss ts)).n, .slice AG0 (((sgR ss ts)).ws).length cG0] 31)).heap.size by simp)
  have hb : Below w7.heap.size w7 (w7.alloc (.cells #[.int .i64 ((sgR ss ts)).k, .int .i64 ((sgR ss ts)).p, .int .i64 ((sgR ss ts)).n, .slice AG0 (((sgR ss ts)).ws).length cG0] 31)) := by go_grown
  have eW0 := bW_7.out.2 0 _ rfl
  have eW1 := bW_7.out.2 1 _ rfl
  have eW2 := bW_7.out.2 2 _ rfl
  have eW3 := bW_7.out.2 3 _ rfl
  have zW := Nat.lt_of_lt_of_le bW_7.out.1 (Nat.le_trans s5.out (Nat.le_trans s6.out s7.out))
  go_wp2_with fail
  clear eW0 eW1 eW2 eW3 zW
  generalize w7.alloc (.cells #[.int .i64 ((sgR ss ts)).k, .int .i64 ((sgR ss ts)).p, .int .i64 ((sgR ss ts)).n, .slice AG0 (((sgR ss ts)).ws).length cG0] 31) = w8 at *
  have t8 := Lib.hid (after t7.out hb)
  have s8 := Lib.hid hb.size
  have fX00_8 := Lib.hid (fX00_7.out.below hb t7.out.size)
  have fX10_8 := Lib.hid (fX10_7.out.below hb t7.out.size)
  have fW0_8 := Lib.hid (fW0_7.out.below hb (Nat.le_trans s4.out (Nat.le_trans s5.out (Nat.le_trans s6.out s7.out))))
  have bW_8 := Lib.hid (bW_7.out.below hb (Nat.le_trans s5.out (Nat.le_trans s6.out s7.out)))
  have fY00_8 := Lib.hid (fY00_7.out.below hb (Nat.le_trans s6.out s7.out))
  have fY10_8 := Lib.hid (fY10_7.out.below hb s7.out)
  have fG0_8 := Lib.hid (fG0_7.out.below hb (Nat.le_refl _))
  have bG_8 := Lib.hid nb
  clear fX00_7 fX10_7 fW0_7 bW_7 fY00_7 fY10_7 fG0_7 nb hb
  refine (eqA_abs fG0_8.out.rd fW0_8.out.rd).mono ?_
  rintro e w9 ⟨rfl, hb⟩
  have t9 := Lib.hid (after t8.out hb)
  have s9 := Lib.hid hb.size
  have fX00_9 := Lib.hid (fX00_8.out.below hb t8.out.size)
  have fX10_9 := Lib.hid (fX10_8.out.below hb t8.out.size)
  have fW0_9 := Lib.hid (fW0_8.out.below hb (Nat.le_trans s4.out (Nat.le_trans s5.out (Nat.le_trans s6.out (Nat.le_trans s7.out s8.out)))))
  have bW_9 := Lib.hid (bW_8.out.below hb (Nat.le_trans s5.out (Nat.le_trans s6.out (Nat.le_trans s7.out s8.out))))
  have fY00_9 := Lib.hid (fY00_8.out.below hb (Nat.le_trans s6.out (Nat.le_trans s7.out s8.out)))
  have fY10_9 := Lib.hid (fY10_8.out.below hb (Nat.le_trans s7.out s8.out))
  have fG0_9 := Lib.hid (fG0_8.out.below hb s8.out)
  have bG_9 := Lib.hid (bG_8.out.below hb (Nat.le_refl _))
  clear fX00_8 fX10_8 fW0_8 bW_8 fY00_8 fY10_8 fG0_8 bG_8 hb
  have eW0 := bW_9.out.2 0 _ rfl
  have eW1 := bW_9.out.2 1 _ rfl
  have eW2 := bW_9.out.2 2 _ rfl
  have eW3 := bW_9.out.2 3 _ rfl
  have zW := Nat.lt_of_lt_of_le bW_9.out.1 (Nat.le_trans s5.out (Nat.le_trans s6.out (Nat.le_trans s7.out (Nat.le_trans s8.out s9.out))))
  have eG0 := bG_9.out.2 0 _ rfl
  have eG1 := bG_9.out.2 1 _ rfl
  have eG2 := bG_9.out.2 2 _ rfl
  have eG3 := bG_9.out.2 3 _ rfl
  have zG := Nat.lt_of_lt_of_le bG_9.out.1 s9.out
  go_wp2_with fail
  clear eW0 eW1 eW2 eW3 zW eG0 eG1 eG2 eG3 zG
  refine (toS_abs fX00_9.out).mono ?_
  rintro e w10 ⟨AZ00, cZ00, rfl, oZ00, hb⟩
  have t10 := Lib.hid (after t9.out hb)
  have s10 := Lib.hid hb.size
  have fX00_10 := Lib.hid (fX00_9.out.below hb t9.out.size)
  have fX10_10 := Lib.hid (fX10_9.out.below hb t9.out.size)
  have fW0_10 := Lib.hid (fW0_9.out.below hb (Nat.le_trans s4.out (Nat.le_trans s5.out (Nat.le_trans s6.out (Nat.le_trans s7.out (Nat.le_trans s8.out s9.out))))))
  have bW_10 := Lib.hid (bW_9.out.below hb (Nat.le_trans s5.out (Nat.le_trans s6.out (Nat.le_trans s7.out (Nat.le_trans s8.out s9.out)))))
  have fY00_10 := Lib.hid (fY00_9.out.below hb (Nat.le_trans s6.out (Nat.le_trans s7.out (Nat.le_trans s8.out s9.out))))
  have fY10_10 := Lib.hid (fY10_9.out.below hb (Nat.le_trans s7.out (Nat.le_trans s8.out s9.out)))
  have fG0_10 := Lib.hid (fG0_9.out.below hb (Nat.le_trans s8.out s9.out))
  have bG_10 := Lib.hid (bG_9.out.below hb s9.out)
  have fZ00_10 := Lib.hid oZ00
  clear fX00_9 fX10_9 fW0_9 bW_9 fY00_9 fY10_9 fG0_9 bG_9 oZ00 hb
  have eW0 := bW_10.out.2 0 _ rfl
  have eW1 := bW_10.out.2 1 _ rfl
  have eW2 := bW_10.out.2 2 _ rfl
  have eW3 := bW_10.out.2 3 _ rfl
  have zW := Nat.lt_of_lt_of_le bW_10.out.1 (Nat.le_trans s5.out (Nat.le_trans s6.out (Nat.le_trans s7.out (Nat.le_trans s8.out (Nat.le_trans s9.out s10.out)))))
  have eG0 := bG_10.out.2 0 _ rfl
  have eG1 := bG_10.out.2 1 _ rfl
  have eG2 := bG_10.out.2 2 _ rfl
  have eG3 := bG_10.out.2 3 _ rfl
  have zG := Nat.lt_of_lt_of_le bG_10.out.1 (Nat.le_trans s9.out s10.out)
  go_wp2_with fail
  clear eW0 eW1 eW2 eW3 zW eG0 eG1 eG2 eG3 zG
  refine (eqS_abs fY00_10.out.rd fZ00_10.out.rd).mono ?_
  rintro e w11 ⟨rfl, hb⟩
  have t11 := Lib.hid (after t10.out hb)
  have s11 := Lib.hid hb.size
  have fX00_11 := Lib.hid (fX00_10.out.below hb t10.out.size)
  have fX10_11 := Lib.hid (fX10_10.out.below hb t10.out.size)
  have fW0_11 := Lib.hid (fW0_10.out.below hb (Nat.le_trans s4.out (Nat.le_trans s5.out (Nat.le_trans s6.out (Nat.le_trans s7.out (Nat.le_trans s8.out (Nat.le_trans s9.out s10.out)))))))
  have bW_11 := Lib.hid (bW_10.out.below hb (Nat.le_trans s5.out (Nat.le_trans s6.out (Nat.le_trans s7.out (Nat.le_trans s8.out (Nat.le_trans s9.out s10.out))))))
  have fY00_11 := Lib.hid (fY00_10.out.below hb (Nat.le_trans s6.out (Nat.le_trans s7.out (Nat.le_trans s8.out (Nat.le_trans s9.out s10.out)))))
  have fY10_11 := Lib.hid (fY10_10.out.below hb (Nat.le_trans s7.out (Nat.le_trans s8.out (Nat.le_trans s9.out s10.out))))
  have fG0_11 := Lib.hid (fG0_10.out.below hb (Nat.le_trans s8.out (Nat.le_trans s9.out s10.out)))
  have bG_11 := Lib.hid (bG_10.out.below hb (Nat.le_trans s9.out s10.out))
  have fZ00_11 := Lib.hid (fZ00_10.out.below hb (Nat.le_refl _))
  clear fX00_10 fX10_10 fW0_10 bW_10 fY00_10 fY10_10 fG0_10 bG_10 fZ00_10 hb
  clear fZ00_11
  have eW0 := bW_11.out.2 0 _ rfl
  have eW1 := bW_11.out.2 1 _ rfl
  have eW2 := bW_11.out.2 2 _ rfl
  have eW3 := bW_11.out.2 3 _ rfl
  have zW := Nat.lt_of_lt_of_le bW_11.out.1 (Nat.le_trans s5.out (Nat.le_trans s6.out (Nat.le_trans s7.out (Nat.le_trans s8.out (Nat.le_trans s9.out (Nat.le_trans s10.out s11.out))))))
  have eG0 := bG_11.out.2 0 _ rfl
  have eG1 := bG_11.out.2 1 _ rfl
  have eG2 := bG_11.out.2 2 _ rfl
  have eG3 := bG_11.out.2 3 _ rfl
  have zG := Nat.lt_of_lt_of_le bG_11.out.1 (Nat.le_trans s9.out (Nat.le_trans s10.out s11.out))
  go_wp2_with fail
  clear eW0 eW1 eW2 eW3 zW eG0 eG1 eG2 eG3 zG
  refine (toS_abs fX10_11.out).mono ?_
  rintro e w12 ⟨AZ10, cZ10, rfl, oZ10, hb⟩
  have t12 := Lib.hid (after t11.out hb)
  have s12 := Lib.hid hb.size
  have fX00_12 := Lib.hid (fX00_11.out.below hb t11.out.size)
  have fX10_12 := Lib.hid (fX10_11.out.below hb t11.out.size)
  have fW0_12 := Lib.hid (fW0_11.out.below hb (Nat.le_trans s4.out (Nat.le_trans s5.out (Nat.le_trans s6.out (Nat.le_trans s7.out (Nat.le_trans s8.out (Nat.le_trans s9.out (Nat.le_trans s10.out s11.out))))))))
  have bW_12 := Lib.hid (bW_11.out.below hb (Nat.le_trans s5.out (Nat.le_trans s6.out (Nat.le_trans s7.out (Nat.le_trans s8.out (Nat.le_trans s9.out (Nat.le_trans s10.out s11.out)))))))
  have fY00_12 := Lib.hid (fY00_11.out.below hb (Nat.le_trans s6.out (Nat.le_trans s7.out (Nat.le_trans s8.out (Nat.le_trans s9.out (Nat.le_trans s10.out s11.out))))))
  have fY10_12 := Lib.hid (fY10_11.out.below hb (Nat.le_trans s7.out (Nat.le_trans s8.out (Nat.le_trans s9.out (Nat.le_trans s10.out s11.out)))))
  have fG0_12 := Lib.hid (fG0_11.out.below hb (Nat.le_trans s8.out (Nat.le_trans s9.out (Nat.le_trans s10.out s11.out))))
  have bG_12 := Lib.hid (bG_11.out.below hb (Nat.le_trans s9.out (Nat.le_trans s10.out s11.out)))
  have fZ10_12 := Lib.hid oZ10
  clear fX00_11 fX10_11 fW0_11 bW_11 fY00_11 fY10_11 fG0_11 bG_11 oZ10 hb
  have eW0 := bW_12.out.2 0 _ rfl
  have eW1 := bW_12.out.2 1 _ rfl
  have eW2 := bW_12.out.2 2 _ rfl
  have eW3 := bW_12.out.2 3 _ rfl
  have zW := Nat.lt_of_lt_of_le bW_12.out.1 (Nat.le_trans s5.out (Nat.le_trans s6.out (Nat.le_trans s7.out (Nat.le_trans s8.out (Nat.le_trans s9.out (Nat.le_trans s10.out (Nat.le_trans s11.out s12.out)))))))
  have eG0 := bG_12.out.2 0 _ rfl
  have eG1 := bG_12.out.2 1 _ rfl
  have eG2 := bG_12.out.2 2 _ rfl
  have eG3 := bG_12.out.2 3 _ rfl
  have zG := Nat.lt_of_lt_of_le bG_12.out.1 (Nat.le_trans s9.out (Nat.le_trans s10.out (Nat.le_trans s11.out s12.out)))
  go_wp2_with fail
  clear eW0 eW1 eW2 eW3 zW eG0 eG1 eG2 eG3 zG
  refine (eqS_abs fY10_12.out.rd fZ10_12.out.rd).mono ?_
  rintro e w13 ⟨rfl, hb⟩
  have t13 := Lib.hid (after t12.out hb)
  have s13 := Lib.hid hb.size
  have fX00_13 := Lib.hid (fX00_12.out.below hb t12.out.size)
  have fX10_13 := Lib.hid (fX10_12.out.below hb t12.out.size)
  have fW0_13 := Lib.hid (fW0_12.out.below hb (Nat.le_trans s4.out (Nat.le_trans s5.out (Nat.le_trans s6.out (Nat.le_trans s7.out (Nat.le_trans s8.out (Nat.le_trans s9.out (Nat.le_trans s10.out (Nat.le_trans s11.out s12.out)))))))))
  have bW_13 := Lib.hid (bW_12.out.below hb (Nat.le_trans s5.out (Nat.le_trans s6.out (Nat.le_trans s7.out (Nat.le_trans s8.out (Nat.le_trans s9.out (Nat.le_trans s10.out (Nat.le_trans s11.out s12.out))))))))
  have fY00_13 := Lib.hid (fY00_12.out.below hb (Nat.le_trans s6.out (Nat.le_trans s7.out (Nat.le_trans s8.out (Nat.le_trans s9.out (Nat.le_trans s10.out (Nat.le_trans s11.out s12.out)))))))
  have fY10_13 := Lib.hid (fY10_12.out.below hb (Nat.le_trans s7.out (Nat.le_trans s8.out (Nat.le_trans s9.out (Nat.le_trans s10.out (Nat.le_trans s11.out s12.out))))))
  have fG0_13 := Lib.hid (fG0_12.out.below hb (Nat.le_trans s8.out (Nat.le_trans s9.out (Nat.le_trans s10.out (Nat.le_trans s11.out s12.out)))))
  have bG_13 := Lib.hid (bG_12.out.below hb (Nat.le_trans s9.out (Nat.le_trans s10.out (Nat.le_trans s11.out s12.out))))
  have fZ10_13 := Lib.hid (fZ10_12.out.below hb (Nat.le_refl _))
  clear fX00_12 fX10_12 fW0_12 bW_12 fY00_12 fY10_12 fG0_12 bG_12 fZ10_12 hb
  clear fZ10_13
  have eW0 := bW_13.out.2 0 _ rfl
  have eW1 := bW_13.out.2 1 _ rfl
  have eW2 := bW_13.out.2 2 _ rfl
  have eW3 := bW_13.out.2 3 _ rfl
  have zW := Nat.lt_of_lt_of_le bW_13.out.1 (Nat.le_trans s5.out (Nat.le_trans s6.out (Nat.le_trans s7.out (Nat.le_trans s8.out (Nat.le_trans s9.out (Nat.le_trans s10.out (Nat.le_trans s11.out (Nat.le_trans s12.out s13.out))))))))
  have eG0 := bG_13.out.2 0 _ rfl
  have eG1 := bG_13.out.2 1 _ rfl
  have eG2 := bG_13.out.2 2 _ rfl
  have eG3 := bG_13.out.2 3 _ rfl
  have zG := Nat.lt_of_lt_of_le bG_13.out.1 (Nat.le_trans s9.out (Nat.le_trans s10.out (Nat.le_trans s11.out (Nat.le_trans s12.out s13.out))))
  go_wp2_with fail
  clear eW0 eW1 eW2 eW3 zW eG0 eG1 eG2 eG3 zG
  have lnY00 := fY00_13.out.2.2.1
  refine (markS_abs' 1 1 (by simp) fY00_13.out (by omega) (by omega)).mono ?_
  rintro e w14 ⟨rfl, oY00, ho⟩
  have t14 := Lib.hid (t13.out.trans (ho.below (Nat.le_trans s5.out (Nat.le_trans s6.out (Nat.le_trans s7.out (Nat.le_trans s8.out (Nat.le_trans s9.out (Nat.le_trans s10.out (Nat.le_trans s11.out (Nat.le_trans s12.out s13.out)))))))) |>.mono t4.out.size))
  have s14 := Lib.hid ho.size
  have fX00_14 := Lib.hid (fX00_13.out.below (ho.below (Nat.le_trans s5.out (Nat.le_trans s6.out (Nat.le_trans s7.out (Nat.le_trans s8.out (Nat.le_trans s9.out (Nat.le_trans s10.out (Nat.le_trans s11.out (Nat.le_trans s12.out s13.out))))))))) t4.out.size)
  have fX10_14 := Lib.hid (fX10_13.out.below (ho.below (Nat.le_trans s5.out (Nat.le_trans s6.out (Nat.le_trans s7.out (Nat.le_trans s8.out (Nat.le_trans s9.out (Nat.le_trans s10.out (Nat.le_trans s11.out (Nat.le_trans s12.out s13.out))))))))) t4.out.size)
  have fW0_14 := Lib.hid (fW0_13.out.only ho (.inl s4.out))
  have bW_14 := Lib.hid (bW_13.out.below (ho.below (Nat.le_trans s5.out (Nat.le_trans s6.out (Nat.le_trans s7.out (Nat.le_trans s8.out (Nat.le_trans s9.out (Nat.le_trans s10.out (Nat.le_trans s11.out (Nat.le_trans s12.out s13.out))))))))) (Nat.le_refl _))
  have fY10_14 := Lib.hid (fY10_13.out.only ho (.inr (Nat.le_refl _)))
  have fG0_14 := Lib.hid (fG0_13.out.only ho (.inr s6.out))
  have bG_14 := Lib.hid (bG_13.out.only ho (Nat.le_trans s6.out s7.out) (Nat.lt_of_lt_of_le bG_13.out.1 (Nat.le_trans s9.out (Nat.le_trans s10.out (Nat.le_trans s11.out (Nat.le_trans s12.out s13.out))))))
  have fY00_14 := Lib.hid oY00
  clear fX00_13 fX10_13 fW0_13 bW_13 fY10_13 fG0_13 bG_13 fY00_13 oY00 ho
  have eW0 := bW_14.out.2 0 _ rfl
  have eW1 := bW_14.out.2 1 _ rfl
  have eW2 := bW_14.out.2 2 _ rfl
  have eW3 := bW_14.out.2 3 _ rfl
  have zW := Nat.lt_of_lt_of_le bW_14.out.1 (Nat.le_trans s5.out (Nat.le_trans s6.out (Nat.le_trans s7.out (Nat.le_trans s8.out (Nat.le_trans s9.out (Nat.le_trans s10.out (Nat.le_trans s11.out (Nat.le_trans s12.out (Nat.le_trans s13.out s14.out)))))))))
  have eG0 := bG_14.out.2 0 _ rfl
  have eG1 := bG_14.out.2 1 _ rfl
  have eG2 := bG_14.out.2 2 _ rfl
  have eG3 := bG_14.out.2 3 _ rfl
  have zG := Nat.lt_of_lt_of_le bG_14.out.1 (Nat.le_trans s9.out (Nat.le_trans s10.out (Nat.le_trans s11.out (Nat.le_trans s12.out (Nat.le_trans s13.out s14.out)))))
  go_wp2_with fail
  clear eW0 eW1 eW2 eW3 zW eG0 eG1 eG2 eG3 zG
  have lnY10 := fY10_14.out.2.2.1
  refine (markS_abs' (1 + (ss).length) (1 + ((ss).length : Int)) (by simp) fY10_14.out (by omega) (by omega)).mono ?_
  rintro e w15 ⟨rfl, oY10, ho⟩
  have t15 := Lib.hid (t14.out.trans (ho.below (Nat.le_trans s6.out (Nat.le_trans s7.out (Nat.le_trans s8.out (Nat.le_trans s9.out (Nat.le_trans s10.out (Nat.le_trans s11.out (Nat.le_trans s12.out (Nat.le_trans s13.out s14.out)))))))) |>.mono t5.out.size))
  have s15 := Lib.hid ho.size
  have fX00_15 := Lib.hid (fX00_14.out.below (ho.below (Nat.le_trans s6.out (Nat.le_trans s7.out (Nat.le_trans s8.out (Nat.le_trans s9.out (Nat.le_trans s10.out (Nat.le_trans s11.out (Nat.le_trans s12.out (Nat.le_trans s13.out s14.out))))))))) t5.out.size)
  have fX10_15 := Lib.hid (fX10_14.out.below (ho.below (Nat.le_trans s6.out (Nat.le_trans s7.out (Nat.le_trans s8.out (Nat.le_trans s9.out (Nat.le_trans s10.out (Nat.le_trans s11.out (Nat.le_trans s12.out (Nat.le_trans s13.out s14.out))))))))) t5.out.size)
  have fW0_15 := Lib.hid (fW0_14.out.only ho (.inl (Nat.le_trans s4.out s5.out)))
  have bW_15 := Lib.hid (bW_14.out.below (ho.below (Nat.le_trans s6.out (Nat.le_trans s7.out (Nat.le_trans s8.out (Nat.le_trans s9.out (Nat.le_trans s10.out (Nat.le_trans s11.out (Nat.le_trans s12.out (Nat.le_trans s13.out s14.out))))))))) s5.out)
  have fY00_15 := Lib.hid (fY00_14.out.only ho (.inl (Nat.le_refl _)))
  have fG0_15 := Lib.hid (fG0_14.out.only ho (.inr (Nat.le_refl _)))
  have bG_15 := Lib.hid (bG_14.out.only ho s7.out (Nat.lt_of_lt_of_le bG_14.out.1 (Nat.le_trans s9.out (Nat.le_trans s10.out (Nat.le_trans s11.out (Nat.le_trans s12.out (Nat.le_trans s13.out s14.out)))))))
  have fY10_15 := Lib.hid oY10
  clear fX00_14 fX10_14 fW0_14 bW_14 fY00_14 fG0_14 bG_14 fY10_14 oY10 ho
  clear fY00_15 fY10_15
  have eW0 := bW_15.out.2 0 _ rfl
  have eW1 := bW_15.out.2 1 _ rfl
  have eW2 := bW_15.out.2 2 _ rfl
  have eW3 := bW_15.out.2 3 _ rfl
  have zW := Nat.lt_of_lt_of_le bW_15.out.1 (Nat.le_trans s5.out (Nat.le_trans s6.out (Nat.le_trans s7.out (Nat.le_trans s8.out (Nat.le_trans s9.out (Nat.le_trans s10.out (Nat.le_trans s11.out (Nat.le_trans s12.out (Nat.le_trans s13.out (Nat.le_trans s14.out s15.out))))))))))
  have eG0 := bG_15.out.2 0 _ rfl
  have eG1 := bG_15.out.2 1 _ rfl
  have eG2 := bG_15.out.2 2 _ rfl
  have eG3 := bG_15.out.2 3 _ rfl
  have zG := Nat.lt_of_lt_of_le bG_15.out.1 (Nat.le_trans s9.out (Nat.le_trans s10.out (Nat.le_trans s11.out (Nat.le_trans s12.out (Nat.le_trans s13.out (Nat.le_trans s14.out s15.out))))))
  go_wp2_with fail
  clear eW0 eW1 eW2 eW3 zW eG0 eG1 eG2 eG3 zG
  refine (eqA_abs fG0_15.out.rd fW0_15.out.rd).mono ?_
  rintro e w16 ⟨rfl, hb⟩
  have t16 := Lib.hid (after t15.out hb)
  have s16 := Lib.hid hb.size
  have fX00_16 := Lib.hid (fX00_15.out.below hb t15.out.size)
  have fX10_16 := Lib.hid (fX10_15.out.below hb t15.out.size)
  have fW0_16 := Lib.hid (fW0_15.out.below hb (Nat.le_trans s4.out (Nat.le_trans s5.out (Nat.le_trans s6.out (Nat.le_trans s7.out (Nat.le_trans s8.out (Nat.le_trans s9.out (Nat.le_trans s10.out (Nat.le_trans s11.out (Nat.le_trans s12.out (Nat.le_trans s13.out (Nat.le_trans s14.out s15.out))))))))))))
  have bW_16 := Lib.hid (bW_15.out.below hb (Nat.le_trans s5.out (Nat.le_trans s6.out (Nat.le_trans s7.out (Nat.le_trans s8.out (Nat.le_trans s9.out (Nat.le_trans s10.out (Nat.le_trans s11.out (Nat.le_trans s12.out (Nat.le_trans s13.out (Nat.le_trans s14.out s15.out)))))))))))
  have fG0_16 := Lib.hid (fG0_15.out.below hb (Nat.le_trans s8.out (Nat.le_trans s9.out (Nat.le_trans s10.out (Nat.le_trans s11.out (Nat.le_trans s12.out (Nat.le_trans s13.out (Nat.le_trans s14.out s15.out))))))))
  have bG_16 := Lib.hid (bG_15.out.below hb (Nat.le_trans s9.out (Nat.le_trans s10.out (Nat.le_trans s11.out (Nat.le_trans s12.out (Nat.le_trans s13.out (Nat.le_trans s14.out s15.out)))))))
  clear fX00_15 fX10_15 fW0_15 bW_15 fG0_15 bG_15 hb
  have eW0 := bW_16.out.2 0 _ rfl
  have eW1 := bW_16.out.2 1 _ rfl
  have eW2 := bW_16.out.2 2 _ rfl
  have eW3 := bW_16.out.2 3 _ rfl
  have zW := Nat.lt_of_lt_of_le bW_16.out.1 (Nat.le_trans s5.out (Nat.le_trans s6.out (Nat.le_trans s7.out (Nat.le_trans s8.out (Nat.le_trans s9.out (Nat.le_trans s10.out (Nat.le_trans s11.out (Nat.le_trans s12.out (Nat.le_trans s13.out (Nat.le_trans s14.out (Nat.le_trans s15.out s16.out)))))))))))
  have eG0 := bG_16.out.2 0 _ rfl
  have eG1 := bG_16.out.2 1 _ rfl
  have eG2 := bG_16.out.2 2 _ rfl
  have eG3 := bG_16.out.2 3 _ rfl
  have zG := Nat.lt_of_lt_of_le bG_16.out.1 (Nat.le_trans s9.out (Nat.le_trans s10.out (Nat.le_trans s11.out (Nat.le_trans s12.out (Nat.le_trans s13.out (Nat.le_trans s14.out (Nat.le_trans s15.out s16.out)))))))
  go_wp2_with fail
  clear eW0 eW1 eW2 eW3 zW eG0 eG1 eG2 eG3 zG
  have lnG0 := fG0_16.out.2.2.1
  refine (markA_abs' 1 1 (by simp) fG0_16.out (by omega) (by omega)).mono ?_
  rintro e w17 ⟨rfl, oG0, ho⟩
  have t17 := Lib.hid (t16.out.trans (ho.below (Nat.le_trans s7.out (Nat.le_trans s8.out (Nat.le_trans s9.out (Nat.le_trans s10.out (Nat.le_trans s11.out (Nat.le_trans s12.out (Nat.le_trans s13.out (Nat.le_trans s14.out (Nat.le_trans s15.out s16.out))))))))) |>.mono t6.out.size))
  have s17 := Lib.hid ho.size
  have fX00_17 := Lib.hid (fX00_16.out.below (ho.below (Nat.le_trans s7.out (Nat.le_trans s8.out (Nat.le_trans s9.out (Nat.le_trans s10.out (Nat.le_trans s11.out (Nat.le_trans s12.out (Nat.le_trans s13.out (Nat.le_trans s14.out (Nat.le_trans s15.out s16.out)))))))))) t6.out.size)
  have fX10_17 := Lib.hid (fX10_16.out.below (ho.below (Nat.le_trans s7.out (Nat.le_trans s8.out (Nat.le_trans s9.out (Nat.le_trans s10.out (Nat.le_trans s11.out (Nat.le_trans s12.out (Nat.le_trans s13.out (Nat.le_trans s14.out (Nat.le_trans s15.out s16.out)))))))))) t6.out.size)
  have fW0_17 := Lib.hid (fW0_16.out.only ho (.inl (Nat.le_trans s4.out (Nat.le_trans s5.out s6.out))))
  have bW_17 := Lib.hid (bW_16.out.below (ho.below (Nat.le_trans s7.out (Nat.le_trans s8.out (Nat.le_trans s9.out (Nat.le_trans s10.out (Nat.le_trans s11.out (Nat.le_trans s12.out (Nat.le_trans s13.out (Nat.le_trans s14.out (Nat.le_trans s15.out s16.out)))))))))) (Nat.le_trans s5.out s6.out))
  have bG_17 := Lib.hid (bG_16.out.only ho (Nat.le_refl _) (Nat.lt_of_lt_of_le bG_16.out.1 (Nat.le_trans s9.out (Nat.le_trans s10.out (Nat.le_trans s11.out (Nat.le_trans s12.out (Nat.le_trans s13.out (Nat.le_trans s14.out (Nat.le_trans s15.out s16.out)))))))))
  have fG0_17 := Lib.hid oG0
  clear fX00_16 fX10_16 fW0_16 bW_16 bG_16 fG0_16 oG0 ho
  have eW0 := bW_17.out.2 0 _ rfl
  have eW1 := bW_17.out.2 1 _ rfl
  have eW2 := bW_17.out.2 2 _ rfl
  have eW3 := bW_17.out.2 3 _ rfl
  have zW := Nat.lt_of_lt_of_le bW_17.out.1 (Nat.le_trans s5.out (Nat.le_trans s6.out (Nat.le_trans s7.out (Nat.le_trans s8.out (Nat.le_trans s9.out (Nat.le_trans s10.out (Nat.le_trans s11.out (Nat.le_trans s12.out (Nat.le_trans s13.out (Nat.le_trans s14.out (Nat.le_trans s15.out (Nat.le_trans s16.out s17.out))))))))))))
  have eG0 := bG_17.out.2 0 _ rfl
  have eG1 := bG_17.out.2 1 _ rfl
  have eG2 := bG_17.out.2 2 _ rfl
  have eG3 := bG_17.out.2 3 _ rfl
  have zG := Nat.lt_of_lt_of_le bG_17.out.1 (Nat.le_trans s9.out (Nat.le_trans s10.out (Nat.le_trans s11.out (Nat.le_trans s12.out (Nat.le_trans s13.out (Nat.le_trans s14.out (Nat.le_trans s15.out (Nat.le_trans s16.out s17.out))))))))
  go_wp2_with fail
  clear eW0 eW1 eW2 eW3 zW eG0 eG1 eG2 eG3 zG
  refine (heldA_abs' 1 1 (by simp) fG0_17.out.rd (by omega) (by omega)).mono ?_
  rintro e w18 ⟨rfl, hb⟩
  have t18 := Lib.hid (after t17.out hb)
  have s18 := Lib.hid hb.size
  have fX00_18 := Lib.hid (fX00_17.out.below hb t17.out.size)
  have fX10_18 := Lib.hid (fX10_17.out.below hb t17.out.size)
  have fW0_18 := Lib.hid (fW0_17.out.below hb (Nat.le_trans s4.out (Nat.le_trans s5.out (Nat.le_trans s6.out (Nat.le_trans s7.out (Nat.le_trans s8.out (Nat.le_trans s9.out (Nat.le_trans s10.out (Nat.le_trans s11.out (Nat.le_trans s12.out (Nat.le_trans s13.out (Nat.le_trans s14.out (Nat.le_trans s15.out (Nat.le_trans s16.out s17.out))))))))))))))
  have bW_18 := Lib.hid (bW_17.out.below hb (Nat.le_trans s5.out (Nat.le_trans s6.out (Nat.le_trans s7.out (Nat.le_trans s8.out (Nat.le_trans s9.out (Nat.le_trans s10.out (Nat.le_trans s11.out (Nat.le_trans s12.out (Nat.le_trans s13.out (Nat.le_trans s14.out (Nat.le_trans s15.out (Nat.le_trans s16.out s17.out)))))))))))))
  have fG0_18 := Lib.hid (fG0_17.out.below hb (Nat.le_trans s8.out (Nat.le_trans s9.out (Nat.le_trans s10.out (Nat.le_trans s11.out (Nat.le_trans s12.out (Nat.le_trans s13.out (Nat.le_trans s14.out (Nat.le_trans s15.out (Nat.le_trans s16.out s17.out))))))))))
  have bG_18 := Lib.hid (bG_17.out.below hb (Nat.le_trans s9.out (Nat.le_trans s10.out (Nat.le_trans s11.out (Nat.le_trans s12.out (Nat.le_trans s13.out (Nat.le_trans s14.out (Nat.le_trans s15.out (Nat.le_trans s16.out s17.out)))))))))
  clear fX00_17 fX10_17 fW0_17 bW_17 fG0_17 bG_17 hb
  have eW0 := bW_18.out.2 0 _ rfl
  have eW1 := bW_18.out.2 1 _ rfl
  have eW2 := bW_18.out.2 2 _ rfl
  have eW3 := bW_18.out.2 3 _ rfl
  have zW := Nat.lt_of_lt_of_le bW_18.out.1 (Nat.le_trans s5.out (Nat.le_trans s6.out (Nat.le_trans s7.out (Nat.le_trans s8.out (Nat.le_trans s9.out (Nat.le_trans s10.out (Nat.le_trans s11.out (Nat.le_trans s12.out (Nat.le_trans s13.out (Nat.le_trans s14.out (Nat.le_trans s15.out (Nat.le_trans s16.out (Nat.le_trans s17.out s18.out)))))))))))))
  have eG0 := bG_18.out.2 0 _ rfl
  have eG1 := bG_18.out.2 1 _ rfl
  have eG2 := bG_18.out.2 2 _ rfl
  have eG3 := bG_18.out.2 3 _ rfl
  have zG := Nat.lt_of_lt_of_le bG_18.out.1 (Nat.le_trans s9.out (Nat.le_trans s10.out (Nat.le_trans s11.out (Nat.le_trans s12.out (Nat.le_trans s13.out (Nat.le_trans s14.out (Nat.le_trans s15.out (Nat.le_trans s16.out (Nat.le_trans s17.out s18.out)))))))))
  go_wp2_with fail
  clear eW0 eW1 eW2 eW3 zW eG0 eG1 eG2 eG3 zG
  refine (toS_abs fX00_18.out).mono ?_
  rintro e w19 ⟨AHa00, cHa00, rfl, oHa00, hb⟩
  have t19 := Lib.hid (after t18.out hb)
  have s19 := Lib.hid hb.size
  have fX00_19 := Lib.hid (fX00_18.out.below hb t18.out.size)
  have fX10_19 := Lib.hid (fX10_18.out.below hb t18.out.size)
  have fW0_19 := Lib.hid (fW0_18.out.below hb (Nat.le_trans s4.out (Nat.le_trans s5.out (Nat.le_trans s6.out (Nat.le_trans s7.out (Nat.le_trans s8.out (Nat.le_trans s9.out (Nat.le_trans s10.out (Nat.le_trans s11.out (Nat.le_trans s12.out (Nat.le_trans s13.out (Nat.le_trans s14.out (Nat.le_trans s15.out (Nat.le_trans s16.out (Nat.le_trans s17.out s18.out)))))))))))))))
  have bW_19 := Lib.hid (bW_18.out.below hb (Nat.le_trans s5.out (Nat.le_trans s6.out (Nat.le_trans s7.out (Nat.le_trans s8.out (Nat.le_trans s9.out (Nat.le_trans s10.out (Nat.le_trans s11.out (Nat.le_trans s12.out (Nat.le_trans s13.out (Nat.le_trans s14.out (Nat.le_trans s15.out (Nat.le_trans s16.out (Nat.le_trans s17.out s18.out))))))))))))))
  have fG0_19 := Lib.hid (fG0_18.out.below hb (Nat.le_trans s8.out (Nat.le_trans s9.out (Nat.le_trans s10.out (Nat.le_trans s11.out (Nat.le_trans s12.out (Nat.le_trans s13.out (Nat.le_trans s14.out (Nat.le_trans s15.out (Nat.le_trans s16.out (Nat.le_trans s17.out s18.out)))))))))))
  have bG_19 := Lib.hid (bG_18.out.below hb (Nat.le_trans s9.out (Nat.le_trans s10.out (Nat.le_trans s11.out (Nat.le_trans s12.out (Nat.le_trans s13.out (Nat.le_trans s14.out (Nat.le_trans s15.out (Nat.le_trans s16.out (Nat.le_trans s17.out s18.out))))))))))
  have fHa00_19 := Lib.hid oHa00
  clear fX00_18 fX10_18 fW0_18 bW_18 fG0_18 bG_18 oHa00 hb
  have eW0 := bW_19.out.2 0 _ rfl
  have eW1 := bW_19.out.2 1 _ rfl
  have eW2 := bW_19.out.2 2 _ rfl
  have eW3 := bW_19.out.2 3 _ rfl
  have zW := Nat.lt_of_lt_of_le bW_19.out.1 (Nat.le_trans s5.out (Nat.le_trans s6.out (Nat.le_trans s7.out (Nat.le_trans s8.out (Nat.le_trans s9.out (Nat.le_trans s10.out (Nat.le_trans s11.out (Nat.le_trans s12.out (Nat.le_trans s13.out (Nat.le_trans s14.out (Nat.le_trans s15.out (Nat.le_trans s16.out (Nat.le_trans s17.out (Nat.le_trans s18.out s19.out))))))))))))))
  have eG0 := bG_19.out.2 0 _ rfl
  have eG1 := bG_19.out.2 1 _ rfl
  have eG2 := bG_19.out.2 2 _ rfl
  have eG3 := bG_19.out.2 3 _ rfl
  have zG := Nat.lt_of_lt_of_le bG_19.out.1 (Nat.le_trans s9.out (Nat.le_trans s10.out (Nat.le_trans s11.out (Nat.le_trans s12.out (Nat.le_trans s13.out (Nat.le_trans s14.out (Nat.le_trans s15.out (Nat.le_trans s16.out (Nat.le_trans s17.out (Nat.le_trans s18.out s19.out))))))))))
  go_wp2_with fail
  clear eW0 eW1 eW2 eW3 zW eG0 eG1 eG2 eG3 zG
  refine (toS_abs fX10_19.out).mono ?_
  rintro e w20 ⟨AHa10, cHa10, rfl, oHa10, hb⟩
  have t20 := Lib.hid (after t19.out hb)
  have s20 := Lib.hid hb.size
  have fX00_20 := Lib.hid (fX00_19.out.below hb t19.out.size)
  have fX10_20 := Lib.hid (fX10_19.out.below hb t19.out.size)
  have fW0_20 := Lib.hid (fW0_19.out.below hb (Nat.le_trans s4.out (Nat.le_trans s5.out (Nat.le_trans s6.out (Nat.le_trans s7.out (Nat.le_trans s8.out (Nat.le_trans s9.out (Nat.le_trans s10.out (Nat.le_trans s11.out (Nat.le_trans s12.out (Nat.le_trans s13.out (Nat.le_trans s14.out (Nat.le_trans s15.out (Nat.le_trans s16.out (Nat.le_trans s17.out (Nat.le_trans s18.out s19.out))))))))))))))))
  have bW_20 := Lib.hid (bW_19.out.below hb (Nat.le_trans s5.out (Nat.le_trans s6.out (Nat.le_trans s7.out (Nat.le_trans s8.out (Nat.le_trans s9.out (Nat.le_trans s10.out (Nat.le_trans s11.out (Nat.le_trans s12.out (Nat.le_trans s13.out (Nat.le_trans s14.out (Nat.le_trans s15.out (Nat.le_trans s16.out (Nat.le_trans s17.out (Nat.le_trans s18.out s19.out)))))))))))))))
  have fG0_20 := Lib.hid (fG0_19.out.below hb (Nat.le_trans s8.out (Nat.le_trans s9.out (Nat.le_trans s10.out (Nat.le_trans s11.out (Nat.le_trans s12.out (Nat.le_trans s13.out (Nat.le_trans s14.out (Nat.le_trans s15.out (Nat.le_trans s16.out (Nat.le_trans s17.out (Nat.le_trans s18.out s19.out))))))))))))
  have bG_20 := Lib.hid (bG_19.out.below hb (Nat.le_trans s9.out (Nat.le_trans s10.out (Nat.le_trans s11.out (Nat.le_trans s12.out (Nat.le_trans s13.out (Nat.le_trans s14.out (Nat.le_trans s15.out (Nat.le_trans s16.out (Nat.le_trans s17.out (Nat.le_trans s18.out s19.out)))))))))))
  have fHa00_20 := Lib.hid (fHa00_19.out.below hb (Nat.le_refl _))
  have fHa10_20 := Lib.hid oHa10
  clear fX00_19 fX10_19 fW0_19 bW_19 fG0_19 bG_19 fHa00_19 oHa10 hb
  have eW0 := bW_20.out.2 0 _ rfl
  have eW1 := bW_20.out.2 1 _ rfl
  have eW2 := bW_20.out.2 2 _ rfl
  have eW3 := bW_20.out.2 3 _ rfl
  have zW := Nat.lt_of_lt_of_le bW_20.out.1 (Nat.le_trans s5.out (Nat.le_trans s6.out (Nat.le_trans s7.out (Nat.le_trans s8.out (Nat.le_trans s9.out (Nat.le_trans s10.out (Nat.le_trans s11.out (Nat.le_trans s12.out (Nat.le_trans s13.out (Nat.le_trans s14.out (Nat.le_trans s15.out (Nat.le_trans s16.out (Nat.le_trans s17.out (Nat.le_trans s18.out (Nat.le_trans s19.out s20.out)))))))))))))))
  have eG0 := bG_20.out.2 0 _ rfl
  have eG1 := bG_20.out.2 1 _ rfl
  have eG2 := bG_20.out.2 2 _ rfl
  have eG3 := bG_20.out.2 3 _ rfl
  have zG := Nat.lt_of_lt_of_le bG_20.out.1 (Nat.le_trans s9.out (Nat.le_trans s10.out (Nat.le_trans s11.out (Nat.le_trans s12.out (Nat.le_trans s13.out (Nat.le_trans s14.out (Nat.le_trans s15.out (Nat.le_trans s16.out (Nat.le_trans s17.out (Nat.le_trans s18.out (Nat.le_trans s19.out s20.out)))))))))))
  go_wp2_with fail
  clear eW0 eW1 eW2 eW3 zW eG0 eG1 eG2 eG3 zG
  refine (SingleChange_abs fHa00_20.out.rd fHa10_20.out.rd).mono ?_
  rintro e w21 ⟨AH0, cH0, rfl, oH0, hb⟩
  have t21 := Lib.hid (after t20.out hb)
  have s21 := Lib.hid hb.size
  have fX00_21 := Lib.hid (fX00_20.out.below hb t20.out.size)
  have fX10_21 := Lib.hid (fX10_20.out.below hb t20.out.size)
  have fW0_21 := Lib.hid (fW0_20.out.below hb (Nat.le_trans s4.out (Nat.le_trans s5.out (Nat.le_trans s6.out (Nat.le_trans s7.out (Nat.le_trans s8.out (Nat.le_trans s9.out (Nat.le_trans s10.out (Nat.le_trans s11.out (Nat.le_trans s12.out (Nat.le_trans s13.out (Nat.le_trans s14.out (Nat.le_trans s15.out (Nat.le_trans s16.out (Nat.le_trans s17.out (Nat.le_trans s18.out (Nat.le_trans s19.out s20.out)))))))))))))))))
  have bW_21 := Lib.hid (bW_20.out.below hb (Nat.le_trans s5.out (Nat.le_trans s6.out (Nat.le_trans s7.out (Nat.le_trans s8.out (Nat.le_trans s9.out (Nat.le_trans s10.out (Nat.le_trans s11.out (Nat.le_trans s12.out (Nat.le_trans s13.out (Nat.le_trans s14.out (Nat.le_trans s15.out (Nat.le_trans s16.out (Nat.le_trans s17.out (Nat.le_trans s18.out (Nat.le_trans s19.out s20.out))))))))))))))))
  have fG0_21 := Lib.hid (fG0_20.out.below hb (Nat.le_trans s8.out (Nat.le_trans s9.out (Nat.le_trans s10.out (Nat.le_trans s11.out (Nat.le_trans s12.out (Nat.le_trans s13.out (Nat.le_trans s14.out (Nat.le_trans s15.out (Nat.le_trans s16.out (Nat.le_trans s17.out (Nat.le_trans s18.out (Nat.le_trans s19.out s20.out)))))))))))))
  have bG_21 := Lib.hid (bG_20.out.below hb (Nat.le_trans s9.out (Nat.le_trans s10.out (Nat.le_trans s11.out (Nat.le_trans s12.out (Nat.le_trans s13.out (Nat.le_trans s14.out (Nat.le_trans s15.out (Nat.le_trans s16.out (Nat.le_trans s17.out (Nat.le_trans s18.out (Nat.le_trans s19.out s20.out))))))))))))
  have fHa00_21 := Lib.hid (fHa00_20.out.below hb s20.out)
  have fHa10_21 := Lib.hid (fHa10_20.out.below hb (Nat.le_refl _))
  have fH0_21 := Lib.hid oH0
  clear fX00_20 fX10_20 fW0_20 bW_20 fG0_20 bG_20 fHa00_20 fHa10_20 oH0 hb
  clear fHa00_21 fHa10_21
  have nb := (BoxL.new w21 #[.int .i64 ((sgR ss ts)).k, .int .i64 ((sgR ss ts)).p, .int .i64 ((sgR ss ts)).n, .slice AH0 (((sgR ss ts)).ws).length cH0] 31).mono (show w21.heap.size + 1 ≤ (w21.alloc (.cells #[.int .i64 ((sgR ss ts)).k, .int .i64 ((sgR ss ts)).p, .int .i64 ((sgR ss ts)).n, .slice AH0 (((sgR ss ts)).ws).length cH0] 31)).heap.size by simp)
  have hb : Below w21.heap.size w21 (w21.alloc (.cells #[.int .i64 ((sgR ss ts)).k, .int .i64 ((sgR ss ts)).p, .int .i64 ((sgR ss ts)).n, .slice AH0 (((sgR ss ts)).ws).length cH0] 31)) := by go_grown
  have eW0 := bW_21.out.2 0 _ rfl
  have eW1 := bW_21.out.2 1 _ rfl
  have eW2 := bW_21.out.2 2 _ rfl
  have eW3 := bW_21.out.2 3 _ rfl
  have zW := Nat.lt_of_lt_of_le bW_21.out.1 (Nat.le_trans s5.out (Nat.le_trans s6.out (Nat.le_trans s7.out (Nat.le_trans s8.out (Nat.le_trans s9.out (Nat.le_trans s10.out (Nat.le_trans s11.out (Nat.le_trans s12.out (Nat.le_trans s13.out (Nat.le_trans s14.out (Nat.le_trans s15.out (Nat.le_trans s16.out (Nat.le_trans s17.out (Nat.le_trans s18.out (Nat.le_trans s19.out (Nat.le_trans s20.out s21.out))))))))))))))))
  have eG0 := bG_21.out.2 0 _ rfl
  have eG1 := bG_21.out.2 1 _ rfl
  have eG2 := bG_21.out.2 2 _ rfl
  have eG3 := bG_21.out.2 3 _ rfl
  have zG := Nat.lt_of_lt_of_le bG_21.out.1 (Nat.le_trans s9.out (Nat.le_trans s10.out (Nat.le_trans s11.out (Nat.le_trans s12.out (Nat.le_trans s13.out (Nat.le_trans s14.out (Nat.le_trans s15.out (Nat.le_trans s16.out (Nat.le_trans s17.out (Nat.le_trans s18.out (Nat.le_trans s19.out (Nat.le_trans s20.out s21.out))))))))))))
  go_wp2_with fail
  clear eW0 eW1 eW2 eW3 zW eG0 eG1 eG2 eG3 zG
  generalize w21.alloc (.cells #[.int .i64 ((sgR ss ts)).k, .int .i64 ((sgR ss ts)).p, .int .i64 ((sgR ss ts)).n, .slice AH0 (((sgR ss ts)).ws).length cH0] 31) = w22 at *
  have t22 := Lib.hid (after t21.out hb)
  have s22 := Lib.hid hb.size
  have fX00_22 := Lib.hid (fX00_21.out.below hb t21.out.size)
  have fX10_22 := Lib.hid (fX10_21.out.below hb t21.out.size)
  have fW0_22 := Lib.hid (fW0_21.out.below hb (Nat.le_trans s4.out (Nat.le_trans s5.out (Nat.le_trans s6.out (Nat.le_trans s7.out (Nat.le_trans s8.out (Nat.le_trans s9.out (Nat.le_trans s10.out (Nat.le_trans s11.out (Nat.le_trans s12.out (Nat.le_trans s13.out (Nat.le_trans s14.out (Nat.le_trans s15.out (Nat.le_trans s16.out (Nat.le_trans s17.out (Nat.le_trans s18.out (Nat.le_trans s19.out (Nat.le_trans s20.out s21.out))))))))))))))))))
  have bW_22 := Lib.hid (bW_21.out.below hb (Nat.le_trans s5.out (Nat.le_trans s6.out (Nat.le_trans s7.out (Nat.le_trans s8.out (Nat.le_trans s9.out (Nat.le_trans s10.out (Nat.le_trans s11.out (Nat.le_trans s12.out (Nat.le_trans s13.out (Nat.le_trans s14.out (Nat.le_trans s15.out (Nat.le_trans s16.out (Nat.le_trans s17.out (Nat.le_trans s18.out (Nat.le_trans s19.out (Nat.le_trans s20.out s21.out)))))))))))))))))
  have fG0_22 := Lib.hid (fG0_21.out.below hb (Nat.le_trans s8.out (Nat.le_trans s9.out (Nat.le_trans s10.out (Nat.le_trans s11.out (Nat.le_trans s12.out (Nat.le_trans s13.out (Nat.le_trans s14.out (Nat.le_trans s15.out (Nat.le_trans s16.out (Nat.le_trans s17.out (Nat.le_trans s18.out (Nat.le_trans s19.out (Nat.le_trans s20.out s21.out))))))))))))))
  have bG_22 := Lib.hid (bG_21.out.below hb (Nat.le_trans s9.out (Nat.le_trans s10.out (Nat.le_trans s11.out (Nat.le_trans s12.out (Nat.le_trans s13.out (Nat.le_trans s14.out (Nat.le_trans s15.out (Nat.le_trans s16.out (Nat.le_trans s17.out (Nat.le_trans s18.out (Nat.le_trans s19.out (Nat.le_trans s20.out s21.out)))))))))))))
  have fH0_22 := Lib.hid (fH0_21.out.below hb (Nat.le_refl _))
  have bH_22 := Lib.hid nb
  clear fX00_21 fX10_21 fW0_21 bW_21 fG0_21 bG_21 fH0_21 nb hb
  have eW0 := bW_22.out.2 0 _ rfl
  have eW1 := bW_22.out.2 1 _ rfl
  have eW2 := bW_22.out.2 2 _ rfl
  have eW3 := bW_22.out.2 3 _ rfl
  have zW := Nat.lt_of_lt_of_le bW_22.out.1 (Nat.le_trans s5.out (Nat.le_trans s6.out (Nat.le_trans s7.out (Nat.le_trans s8.out (Nat.le_trans s9.out (Nat.le_trans s10.out (Nat.le_trans s11.out (Nat.le_trans s12.out (Nat.le_trans s13.out (Nat.le_trans s14.out (Nat.le_trans s15.out (Nat.le_trans s16.out (Nat.le_trans s17.out (Nat.le_trans s18.out (Nat.le_trans s19.out (Nat.le_trans s20.out (Nat.le_trans s21.out s22.out)))))))))))))))))
  have eG0 := bG_22.out.2 0 _ rfl
  have eG1 := bG_22.out.2 1 _ rfl
  have eG2 := bG_22.out.2 2 _ rfl
  have eG3 := bG_22.out.2 3 _ rfl
  have zG := Nat.lt_of_lt_of_le bG_22.out.1 (Nat.le_trans s9.out (Nat.le_trans s10.out (Nat.le_trans s11.out (Nat.le_trans s12.out (Nat.le_trans s13.out (Nat.le_trans s14.out (Nat.le_trans s15.out (Nat.le_trans s16.out (Nat.le_trans s17.out (Nat.le_trans s18.out (Nat.le_trans s19.out (Nat.le_trans s20.out (Nat.le_trans s21.out s22.out)))))))))))))
  have eH0 := bH_22.out.2 0 _ rfl
  have eH1 := bH_22.out.2 1 _ rfl
  have eH2 := bH_22.out.2 2 _ rfl
  have eH3 := bH_22.out.2 3 _ rfl
  have zH := Nat.lt_of_lt_of_le bH_22.out.1 (Nat.le_refl _)
  go_wp2_with fail
  clear eW0 eW1 eW2 eW3 zW eG0 eG1 eG2 eG3 zG eH0 eH1 eH2 eH3 zH
  refine (eqA_abs fH0_22.out.rd fW0_22.out.rd).mono ?_
  rintro e w23 ⟨rfl, hb⟩
  have t23 := Lib.hid (after t22.out hb)
  have s23 := Lib.hid hb.size
  have fX00_23 := Lib.hid (fX00_22.out.below hb t22.out.size)
  have fX10_23 := Lib.hid (fX10_22.out.below hb t22.out.size)
  have fW0_23 := Lib.hid (fW0_22.out.below hb (Nat.le_trans s4.out (Nat.le_trans s5.out (Nat.le_trans s6.out (Nat.le_trans s7.out (Nat.le_trans s8.out (Nat.le_trans s9.out (Nat.le_trans s10.out (Nat.le_trans s11.out (Nat.le_trans s12.out (Nat.le_trans s13.out (Nat.le_trans s14.out (Nat.le_trans s15.out (Nat.le_trans s16.out (Nat.le_trans s17.out (Nat.le_trans s18.out (Nat.le_trans s19.out (Nat.le_trans s20.out (Nat.le_trans s21.out s22.out)))))))))))))))))))
  have bW_23 := Lib.hid (bW_22.out.below hb (Nat.le_trans s5.out (Nat.le_trans s6.out (Nat.le_trans s7.out (Nat.le_trans s8.out (Nat.le_trans s9.out (Nat.le_trans s10.out (Nat.le_trans s11.out (Nat.le_trans s12.out (Nat.le_trans s13.out (Nat.le_trans s14.out (Nat.le_trans s15.out (Nat.le_trans s16.out (Nat.le_trans s17.out (Nat.le_trans s18.out (Nat.le_trans s19.out (Nat.le_trans s20.out (Nat.le_trans s21.out s22.out))))))))))))))))))
  have fG0_23 := Lib.hid (fG0_22.out.below hb (Nat.le_trans s8.out (Nat.le_trans s9.out (Nat.le_trans s10.out (Nat.le_trans s11.out (Nat.le_trans s12.out (Nat.le_trans s13.out (Nat.le_trans s14.out (Nat.le_trans s15.out (Nat.le_trans s16.out (Nat.le_trans s17.out (Nat.le_trans s18.out (Nat.le_trans s19.out (Nat.le_trans s20.out (Nat.le_trans s21.out s22.out)))))))))))))))
  have bG_23 := Lib.hid (bG_22.out.below hb (Nat.le_trans s9.out (Nat.le_trans s10.out (Nat.le_trans s11.out (Nat.le_trans s12.out (Nat.le_trans s13.out (Nat.le_trans s14.out (Nat.le_trans s15.out (Nat.le_trans s16.out (Nat.le_trans s17.out (Nat.le_trans s18.out (Nat.le_trans s19.out (Nat.le_trans s20.out (Nat.le_trans s21.out s22.out))))))))))))))
  have fH0_23 := Lib.hid (fH0_22.out.below hb s22.out)
  have bH_23 := Lib.hid (bH_22.out.below hb (Nat.le_refl _))
  clear fX00_22 fX10_22 fW0_22 bW_22 fG0_22 bG_22 fH0_22 bH_22 hb
  have eW0 := bW_23.out.2 0 _ rfl
  have eW1 := bW_23.out.2 1 _ rfl
  have eW2 := bW_23.out.2 2 _ rfl
  have eW3 := bW_23.out.2 3 _ rfl
  have zW := Nat.lt_of_lt_of_le bW_23.out.1 (Nat.le_trans s5.out (Nat.le_trans s6.out (Nat.le_trans s7.out (Nat.le_trans s8.out (Nat.le_trans s9.out (Nat.le_trans s10.out (Nat.le_trans s11.out (Nat.le_trans s12.out (Nat.le_trans s13.out (Nat.le_trans s14.out (Nat.le_trans s15.out (Nat.le_trans s16.out (Nat.le_trans s17.out (Nat.le_trans s18.out (Nat.le_trans s19.out (Nat.le_trans s20.out (Nat.le_trans s21.out (Nat.le_trans s22.out s23.out))))))))))))))))))
  have eG0 := bG_23.out.2 0 _ rfl
  have eG1 := bG_23.out.2 1 _ rfl
  have eG2 := bG_23.out.2 2 _ rfl
  have eG3 := bG_23.out.2 3 _ rfl
  have zG := Nat.lt_of_lt_of_le bG_23.out.1 (Nat.le_trans s9.out (Nat.le_trans s10.out (Nat.le_trans s11.out (Nat.le_trans s12.out (Nat.le_trans s13.out (Nat.le_trans s14.out (Nat.le_trans s15.out (Nat.le_trans s16.out (Nat.le_trans s17.out (Nat.le_trans s18.out (Nat.le_trans s19.out (Nat.le_trans s20.out (Nat.le_trans s21.out (Nat.le_trans s22.out s23.out))))))))))))))
  have eH0 := bH_23.out.2 0 _ rfl
  have eH1 := bH_23.out.2 1 _ rfl
  have eH2 := bH_23.out.2 2 _ rfl
  have eH3 := bH_23.out.2 3 _ rfl
  have zH := Nat.lt_of_lt_of_le bH_23.out.1 s23.out
  go_wp2_with fail
  clear eW0 eW1 eW2 eW3 zW eG0 eG1 eG2 eG3 zG eH0 eH1 eH2 eH3 zH
  refine (heldA_abs' 1 1 (by simp) fG0_23.out.rd (by omega) (by omega)).mono ?_
  rintro e w24 ⟨rfl, hb⟩
  have t24 := Lib.hid (after t23.out hb)
  have s24 := Lib.hid hb.size
  have fX00_24 := Lib.hid (fX00_23.out.below hb t23.out.size)
  have fX10_24 := Lib.hid (fX10_23.out.below hb t23.out.size)
  have fW0_24 := Lib.hid (fW0_23.out.below hb (Nat.le_trans s4.out (Nat.le_trans s5.out (Nat.le_trans s6.out (Nat.le_trans s7.out (Nat.le_trans s8.out (Nat.le_trans s9.out (Nat.le_trans s10.out (Nat.le_trans s11.out (Nat.le_trans s12.out (Nat.le_trans s13.out (Nat.le_trans s14.out (Nat.le_trans s15.out (Nat.le_trans s16.out (Nat.le_trans s17.out (Nat.le_trans s18.out (Nat.le_trans s19.out (Nat.le_trans s20.out (Nat.le_trans s21.out (Nat.le_trans s22.out s23.out))))))))))))))))))))
  have bW_24 := Lib.hid (bW_23.out.below hb (Nat.le_trans s5.out (Nat.le_trans s6.out (Nat.le_trans s7.out (Nat.le_trans s8.out (Nat.le_trans s9.out (Nat.le_trans s10.out (Nat.le_trans s11.out (Nat.le_trans s12.out (Nat.le_trans s13.out (Nat.le_trans s14.out (Nat.le_trans s15.out (Nat.le_trans s16.out (Nat.le_trans s17.out (Nat.le_trans s18.out (Nat.le_trans s19.out (Nat.le_trans s20.out (Nat.le_trans s21.out (Nat.le_trans s22.out s23.out)))))))))))))))))))
  have fG0_24 := Lib.hid (fG0_23.out.below hb (Nat.le_trans s8.out (Nat.le_trans s9.out (Nat.le_trans s10.out (Nat.le_trans s11.out (Nat.le_trans s12.out (Nat.le_trans s13.out (Nat.le_trans s14.out (Nat.le_trans s15.out (Nat.le_trans s16.out (Nat.le_trans s17.out (Nat.le_trans s18.out (Nat.le_trans s19.out (Nat.le_trans s20.out (Nat.le_trans s21.out (Nat.le_trans s22.out s23.out))))))))))))))))
  have bG_24 := Lib.hid (bG_23.out.below hb (Nat.le_trans s9.out (Nat.le_trans s10.out (Nat.le_trans s11.out (Nat.le_trans s12.out (Nat.le_trans s13.out (Nat.le_trans s14.out (Nat.le_trans s15.out (Nat.le_trans s16.out (Nat.le_trans s17.out (Nat.le_trans s18.out (Nat.le_trans s19.out (Nat.le_trans s20.out (Nat.le_trans s21.out (Nat.le_trans s22.out s23.out)))))))))))))))
  have fH0_24 := Lib.hid (fH0_23.out.below hb (Nat.le_trans s22.out s23.out))
  have bH_24 := Lib.hid (bH_23.out.below hb s23.out)
  clear fX00_23 fX10_23 fW0_23 bW_23 fG0_23 bG_23 fH0_23 bH_23 hb
  go_wp2
  go_ret
  exact ⟨rfl, t24.out⟩
end fnExactSingleChange
end Go.Proofs.Ytecdgnflikkhaaa
