/- Whether a floor is valid, of the C. Conditions: the ranges named. -/
import Derived.Test.YtbpikbcnpmplfaaFlB
namespace Go.Proofs.Ytbpikbcnpmplfaa
open Go.RowKit
set_option linter.unusedVariables false

set_option maxHeartbeats 3000000 in
set_option maxRecDepth 100000 in
theorem l8Good_any (A D : Option Addr) (c d : Nat) (f : Flr) (w : World) (ha : Cells w A (IntK.row f.wt)) (hm0 : f.wt.length ≤ 1048576) (hcc : f.wt.length ≤ c) (hd : Cells w D (ShareK.row f.sh)) (hn : f.sh.length ≤ 1048576) :
    Calls Try.prog 44 #[.agg #[.int .i64 f.t, .int .i64 f.s, .int .i64 f.sp, .slice A f.wt.length c, .slice D f.sh.length d]] w fun e w' => e = .returned (.bool (vldF f)) ∧ Below w.heap.size w w' := by
  rcases Bool.eq_false_or_eq_true (inB f.t 1 3) with h1 | h1
  · rcases Bool.eq_false_or_eq_true (inB f.s 1 3600) with h2 | h2
    · rcases Bool.eq_false_or_eq_true (shsB f) with h5 | h5
      · by_cases h4 : f.wt.length ≤ 10
        · go_enter Try.func44, Try.ntmps44
          go_wp2_with (first | (go_at_call 56; refine (l1In_any _ _ _ _).mono ?_; rintro e w1 ⟨rfl, rfl⟩) | (go_at_call 80; refine (l8Shares_any A D c d f _ (hd.alloc_ _) hn).mono ?_; rintro e w1 ⟨rfl, hb⟩; have HBg := Lib.hid (bmono hb); have HBh := Lib.hid hb; have z0 := fun o => hb.cell (p := ⟨w.heap.size, o, none⟩) (by simp); have zz : w.heap.size < w1.heap.size := (by have := hb.size; simp at this; omega); clear hb))
          clear z0 zz
          go_loopw [3] (fun i wr => ∃ k : Nat, k ≤ f.wt.length ∧ i = .int .i64 k ∧ Hid (allN (okWt f) k = true) ∧ Below (w.alloc (.cells #[.int .i64 f.t, .int .i64 f.s, .int .i64 f.sp, .slice A f.wt.length c, .slice D f.sh.length d] 29)).heap.size (w.alloc (.cells #[.int .i64 f.t, .int .i64 f.s, .int .i64 f.sp, .slice A f.wt.length c, .slice D f.sh.length d] 29)) wr) (fun i _ => f.wt.length - (intOf i).toNat)
          case atStart => exact ⟨0, Nat.zero_le _, rfl, rfl, HBh.out⟩
          case round =>
            have g1 := Lib.hid h1
            have g2 := Lib.hid h2
            have g4 := Lib.hid (decide_eq_true h4)
            have g5 := Lib.hid h5
            clear h1 h2 h5 HBg HBh
            obtain ⟨k, hk, rfl, hq, hB⟩ := hrel
            have e0 := fun o => hB.cell (p := ⟨w.heap.size, o, none⟩) (by simp)
            have hz : w.heap.size < wr.heap.size := by have := hB.size; simp at this; omega
            have HB := Lib.hid hB
            by_cases hlt : k < f.wt.length
            · obtain ⟨a, rfl, hca⟩ := int_at (ha.below (bmono HB.out)) hlt
              have i1 : (k : Int) < (f.wt.length : Int) := by omega
              have i2 : (k : Int) ≤ (c : Int) := by omega
              have HK := Lib.hid (okWt_eq hlt)
              have HT := Lib.hid (show k = (f.wt.take k).length by rw [List.length_take]; omega)
              have HW := Lib.hid (cells_take (n := k) (ha.below (bmono HB.out)))
              have HD := Lib.hid (hd.below (bmono HB.out))
              obtain ⟨x, hx⟩ : ∃ x, Hid (f.wt[k] = x) := ⟨_, Lib.hid rfl⟩
              rw [hx.out] at hca HK
              clear hB
              rcases Bool.eq_false_or_eq_true (memB x) with hm | hm
              · rcases Bool.eq_false_or_eq_true (hasB x (f.wt.take k)) with hh | hh
                · have HF := Lib.hid (show vldF f = false from vldF_wt <| allN_no hlt (show okWt f k = false by rw [HK.out, hm, hh]; simp))
                  clear hq HK
                  go_wp2_with (first | (go_at_call 76; refine (l7Member_any _ _).mono ?_; rintro e w1 ⟨rfl, rfl⟩) | (go_at_call 73; refine (l1Has_any _ _ _ (f.wt.take k) _ _ HT.out HW.out (by have := HT.out; omega)).mono ?_; rintro e w1 ⟨rfl, rfl⟩) | (go_at_call 77; refine (l8Entitled_any _ _ c d f x _ HD.out hn).mono ?_; rintro e w1 ⟨rfl, hb⟩; have HB1 := Lib.hid (after1 HB.out (Nat.le_refl _) hb); clear hb))
                  go_ret
                  exact ⟨ret_bool HF.out.symm, by first | (have hbm := bmono HB.out; go_grown; done) | (refine below_drewN ?_ _; have hbm := bmono HB.out; go_grown)⟩
                · rcases Bool.eq_false_or_eq_true (x == f.sp) with hs | hs
                  · have HF := Lib.hid (show vldF f = false from vldF_wt <| allN_no hlt (show okWt f k = false by rw [HK.out, hm, hh, hs]; simp))
                    clear hq HK
                    go_wp2_with (first | (go_at_call 76; refine (l7Member_any _ _).mono ?_; rintro e w1 ⟨rfl, rfl⟩) | (go_at_call 73; refine (l1Has_any _ _ _ (f.wt.take k) _ _ HT.out HW.out (by have := HT.out; omega)).mono ?_; rintro e w1 ⟨rfl, rfl⟩) | (go_at_call 77; refine (l8Entitled_any _ _ c d f x _ HD.out hn).mono ?_; rintro e w1 ⟨rfl, hb⟩; have HB1 := Lib.hid (after1 HB.out (Nat.le_refl _) hb); clear hb))
                    go_ret
                    exact ⟨ret_bool HF.out.symm, by first | (have hbm := bmono HB.out; go_grown; done) | (refine below_drewN ?_ _; have hbm := bmono HB.out; go_grown)⟩
                  · rcases Bool.eq_false_or_eq_true (entB f x) with he | he
                    · have HA := Lib.hid (allN_step hq.out (show okWt f k = true by rw [HK.out, hm, hh, hs, he]; rfl))
                      clear hq HK
                      go_wp2_with (first | (go_at_call 76; refine (l7Member_any _ _).mono ?_; rintro e w1 ⟨rfl, rfl⟩) | (go_at_call 73; refine (l1Has_any _ _ _ (f.wt.take k) _ _ HT.out HW.out (by have := HT.out; omega)).mono ?_; rintro e w1 ⟨rfl, rfl⟩) | (go_at_call 77; refine (l8Entitled_any _ _ c d f x _ HD.out hn).mono ?_; rintro e w1 ⟨rfl, hb⟩; have HB1 := Lib.hid (after1 HB.out (Nat.le_refl _) hb); clear hb))
                      go_roundw
                      case rel => exact ⟨k + 1, by omega, by go_num, HA.out, HB1.out⟩
                      case measure => simp [intOf]; omega
                    · have HF := Lib.hid (show vldF f = false from vldF_wt <| allN_no hlt (show okWt f k = false by rw [HK.out, hm, hh, hs, he]; simp))
                      clear hq HK
                      go_wp2_with (first | (go_at_call 76; refine (l7Member_any _ _).mono ?_; rintro e w1 ⟨rfl, rfl⟩) | (go_at_call 73; refine (l1Has_any _ _ _ (f.wt.take k) _ _ HT.out HW.out (by have := HT.out; omega)).mono ?_; rintro e w1 ⟨rfl, rfl⟩) | (go_at_call 77; refine (l8Entitled_any _ _ c d f x _ HD.out hn).mono ?_; rintro e w1 ⟨rfl, hb⟩; have HB1 := Lib.hid (after1 HB.out (Nat.le_refl _) hb); clear hb))
                      go_ret
                      exact ⟨ret_bool HF.out.symm, by first | (have hbm := bmono HB1.out; go_grown; done) | (refine below_drewN ?_ _; have hbm := bmono HB.out; go_grown)⟩
              · have HF := Lib.hid (show vldF f = false from vldF_wt <| allN_no hlt (show okWt f k = false by rw [HK.out, hm]; simp))
                clear hq HK
                go_wp2_with (first | (go_at_call 76; refine (l7Member_any _ _).mono ?_; rintro e w1 ⟨rfl, rfl⟩) | (go_at_call 73; refine (l1Has_any _ _ _ (f.wt.take k) _ _ HT.out HW.out (by have := HT.out; omega)).mono ?_; rintro e w1 ⟨rfl, rfl⟩) | (go_at_call 77; refine (l8Entitled_any _ _ c d f x _ HD.out hn).mono ?_; rintro e w1 ⟨rfl, hb⟩; have HB1 := Lib.hid (after1 HB.out (Nat.le_refl _) hb); clear hb))
                go_ret
                exact ⟨ret_bool HF.out.symm, by first | (have hbm := bmono HB.out; go_grown; done) | (refine below_drewN ?_ _; have hbm := bmono HB.out; go_grown)⟩
            · obtain rfl : k = f.wt.length := by omega
              have HD := Lib.hid (hd.below (bmono HB.out))
              have HWT : Hid (wtsB f = true) := hq
              clear hB hq
              rcases Bool.eq_false_or_eq_true (f.sp == 0) with hs | hs
              · have HF := Lib.hid (show vldF f = true by unfold vldF; rw [g1.out, g2.out, g4.out, g5.out, HWT.out, hs]; rfl)
                go_wp2
                go_quiet (fail)
                go_wp2
                go_ret
                exact ⟨ret_bool HF.out.symm, by first | (have hbm := bmono HB.out; go_grown; done) | (refine below_drewN ?_ _; have hbm := bmono HB.out; go_grown)⟩
              · obtain ⟨S, hS⟩ : ∃ S, Hid (shOf f.sp f.sh = S) := ⟨_, Lib.hid rfl⟩
                rcases Bool.eq_false_or_eq_true (memB f.sp) with hm | hm
                · have HF := Lib.hid (show vldF f = decide (S.t < f.t) by unfold vldF; rw [g1.out, g2.out, g4.out, g5.out, HWT.out, hs, hm, hS.out]; simp)
                  have hfl := fld_t
                  go_wp2
                  go_region_held3 (fun w' => Below wr.heap.size wr w' ∧ (∀ b o, b < wr.heap.size → w'.cell? ⟨b, o, none⟩ = wr.cell? ⟨b, o, none⟩))
                    ((first | (refine mkS ?_; assumption) | (refine drewS ?_; assumption) | (refine mkS ?_; go_grown)))
                    (first | (go_at_call 76; refine (l7Member_any _ _).mono ?_; rintro e w1 ⟨rfl, rfl⟩; rw [hm]) | (go_at_call 57; refine (l8Share_any _ _ c d f f.sp _ (HD.out.below (S1 (by assumption))) hn).mono ?_; rintro e w1 ⟨rfl, hb⟩; rw [hS.out]; obtain ⟨hB1, hzz⟩ := callS (by assumption) (Nat.le_refl _) hb; have HB1 := Lib.hid hB1; clear hb))
                  go_wp2
                  go_ret
                  exact ⟨ret_bool HF.out.symm, by have := (bmono HB.out).trans (HB1.out.mono (by omega)); go_grown⟩
                · have HF := Lib.hid (show vldF f = false by unfold vldF; rw [hs, hm]; simp)
                  have HN := Lib.hid (fun W => l7_no f.sp W hm)
                  go_wp2
                  go_quiet ((go_at_call 76; first | exact quiet_left (HN.out _) | exact quiet_add_left (HN.out _)))
                  go_wp2
                  go_ret
                  exact ⟨ret_bool HF.out.symm, by first | (have hbm := bmono HB.out; go_grown; done) | (refine below_drewN ?_ _; have hbm := bmono HB.out; go_grown)⟩
        · have HF := Lib.hid (show vldF f = false by unfold vldF; rw [decide_eq_false h4]; simp)
          go_enter Try.func44, Try.ntmps44
          go_wp2_with (first | (go_at_call 56; refine (l1In_any _ _ _ _).mono ?_; rintro e w1 ⟨rfl, rfl⟩) | (go_at_call 80; refine (l8Shares_any A D c d f _ (hd.alloc_ _) hn).mono ?_; rintro e w1 ⟨rfl, hb⟩; have HBg := Lib.hid (bmono hb); have HBh := Lib.hid hb; have z0 := fun o => hb.cell (p := ⟨w.heap.size, o, none⟩) (by simp); have zz : w.heap.size < w1.heap.size := (by have := hb.size; simp at this; omega); clear hb))
          go_ret
          exact ⟨ret_bool HF.out.symm, by first | (have := HBg.out; go_grown; done) | (go_grown; done)⟩
      · have HF := Lib.hid (show vldF f = false by unfold vldF; rw [h5]; simp)
        go_enter Try.func44, Try.ntmps44
        go_wp2_with (first | (go_at_call 56; refine (l1In_any _ _ _ _).mono ?_; rintro e w1 ⟨rfl, rfl⟩) | (go_at_call 80; refine (l8Shares_any A D c d f _ (hd.alloc_ _) hn).mono ?_; rintro e w1 ⟨rfl, hb⟩; have HBg := Lib.hid (bmono hb); have HBh := Lib.hid hb; have z0 := fun o => hb.cell (p := ⟨w.heap.size, o, none⟩) (by simp); have zz : w.heap.size < w1.heap.size := (by have := hb.size; simp at this; omega); clear hb))
        go_ret
        exact ⟨ret_bool HF.out.symm, by first | (have := HBg.out; go_grown; done) | (go_grown; done)⟩
    · have HF := Lib.hid (show vldF f = false by unfold vldF; rw [h2]; simp)
      go_enter Try.func44, Try.ntmps44
      go_wp2_with (first | (go_at_call 56; refine (l1In_any _ _ _ _).mono ?_; rintro e w1 ⟨rfl, rfl⟩) | (go_at_call 80; refine (l8Shares_any A D c d f _ (hd.alloc_ _) hn).mono ?_; rintro e w1 ⟨rfl, hb⟩; have HBg := Lib.hid (bmono hb); have HBh := Lib.hid hb; have z0 := fun o => hb.cell (p := ⟨w.heap.size, o, none⟩) (by simp); have zz : w.heap.size < w1.heap.size := (by have := hb.size; simp at this; omega); clear hb))
      go_ret
      exact ⟨ret_bool HF.out.symm, by first | (have := HBg.out; go_grown; done) | (go_grown; done)⟩
  · have HF := Lib.hid (show vldF f = false by unfold vldF; rw [h1]; simp)
    go_enter Try.func44, Try.ntmps44
    go_wp2_with (first | (go_at_call 56; refine (l1In_any _ _ _ _).mono ?_; rintro e w1 ⟨rfl, rfl⟩) | (go_at_call 80; refine (l8Shares_any A D c d f _ (hd.alloc_ _) hn).mono ?_; rintro e w1 ⟨rfl, hb⟩; have HBg := Lib.hid (bmono hb); have HBh := Lib.hid hb; have z0 := fun o => hb.cell (p := ⟨w.heap.size, o, none⟩) (by simp); have zz : w.heap.size < w1.heap.size := (by have := hb.size; simp at this; omega); clear hb))
    go_ret
    exact ⟨ret_bool HF.out.symm, by first | (have := HBg.out; go_grown; done) | (go_grown; done)⟩
end Go.Proofs.Ytbpikbcnpmplfaa
