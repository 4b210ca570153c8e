/- Whether a floor is valid, of the D. Conditions: the ranges named. -/
import Derived.Test.YtbpikbcnpmplfaaFlB
namespace Go.Proofs.Ytbpikbcnpmplfaa
open Go.RowKit
set_option linter.unusedVariables false

set_option maxHeartbeats 4000000 in
set_option maxRecDepth 100000 in
theorem IsValidFloor_any (A D : Option Addr) (c d : Nat) (f : Flr) (w : World) (ha : Cells w A (IntK.row f.wt)) (hm0 : f.wt.length ≤ 1048576) (hcc : f.wt.length ≤ c) (hd : Cells w D (ShareK.row f.sh)) (hn : f.sh.length ≤ 1048576) :
    Calls Try.prog 19 #[.agg #[.int .i64 f.t, .int .i64 f.s, .int .i64 f.sp, .slice A f.wt.length c, .slice D f.sh.length d]] w fun e w' => e = .returned (.bool (vldF f)) ∧ Below w.heap.size w w' := by
  rcases Bool.eq_false_or_eq_true (inB f.t 1 3) with h1 | h1
  · rcases Bool.eq_false_or_eq_true (inB f.s 1 3600) with h2 | h2
    · rcases Bool.eq_false_or_eq_true (f.sp == 0 || memB f.sp) with h3 | h3
      · by_cases h4 : f.wt.length ≤ 10
        · have g3 := Lib.hid h3
          rcases Bool.eq_false_or_eq_true (f.sp == 0) with hs0 | hs0
          · have hs1 : (f.sp != 0) = false := by simpa using hs0
            clear hs0 h3
            go_enter Try.func19, Try.ntmps19
            go_wp2_with (first | (go_at_call 60; refine (inside_any _ _ _ _).mono ?_; rintro e w1 ⟨rfl, rfl⟩) | (go_at_call 63; refine (isMember_any _ _).mono ?_; rintro e w1 ⟨rfl, rfl⟩))
            go_loopw [37] (fun i wr => ∃ k : Nat, k ≤ f.sh.length ∧ i = .int .i64 k ∧ Hid (allN (okSh f) k = true) ∧ Below (w.alloc (.cells #[.int .i64 f.t, .int .i64 f.s, .int .i64 f.sp, .slice A f.wt.length c, .slice D f.sh.length d] 29)).heap.size (w.alloc (.cells #[.int .i64 f.t, .int .i64 f.s, .int .i64 f.sp, .slice A f.wt.length c, .slice D f.sh.length d] 29)) wr) (fun i _ => f.sh.length - (intOf i).toNat)
            case atStart => exact ⟨0, Nat.zero_le _, rfl, rfl, Below.refl _ _⟩
            case round =>
              have g1 := Lib.hid h1
              have g2 := Lib.hid h2
              have g4 := Lib.hid (decide_eq_true h4)
              clear h1 h2
              obtain ⟨k, hk, rfl, hq, hB⟩ := hrel
              have e0 := fun o => hB.cell (p := ⟨w.heap.size, o, none⟩) (by simp)
              have hz : w.heap.size < wr.heap.size := by have := hB.size; simp at this; omega
              have HB := Lib.hid hB
              by_cases hlt : k < f.sh.length
              · obtain ⟨a, rfl, hc0, hc1, hc2⟩ := share_at (hd.below (bmono HB.out)) hlt
                have i1 : (k : Int) < (f.sh.length : Int) := by omega
                have HK := Lib.hid (okSh_eq hlt)
                obtain ⟨x, hx⟩ : ∃ x, Hid (f.sh[k] = x) := ⟨_, Lib.hid rfl⟩
                rw [hx.out] at hc0 hc1 hc2 HK
                clear hB
                rcases Bool.eq_false_or_eq_true (memB x.m) with hm | hm
                · rcases Bool.eq_false_or_eq_true (inB x.t 0 f.t) with ht | ht
                  · rcases Bool.eq_false_or_eq_true (inB x.s 0 f.s) with hs | hs
                    · by_cases hk0 : k = 0
                      · have q6 : (k == 0) = true := by simp [hk0]
                        have HA := Lib.hid (allN_step hq.out (show okSh f k = true by rw [HK.out, hm, ht, hs, q6]; rfl))
                        have q5 : decide (0 < k) = false := decide_eq_false (by omega)
                        clear hq HK hk0 q6
                        go_wp2
                        go_quiet ((first | (go_at_call 63; first | exact quiet_left (isMember_any _ _) | exact quiet_add_left (isMember_any _ _)) | (go_at_call 60; first | exact quiet_left (inside_any _ _ _ _) | exact quiet_add_left (inside_any _ _ _ _))))
                        go_wp2
                        go_roundw
                        case rel => exact ⟨k + 1, by omega, by go_num, HA.out, by first | (have hbm := HB.out; go_grown; done) | (refine below_drewN ?_ _; have hbm := HB.out; go_grown)⟩
                        case measure => simp [intOf]; omega
                      · have hk1 : 0 < k := by omega
                        obtain ⟨a', ha', hp0, hp1, hp2⟩ := share_at (hd.below (bmono HB.out)) (show k - 1 < f.sh.length by omega)
                        obtain rfl : a' = a := by simpa using ha'.symm
                        have q1 : IntKind.i64.wrap ((k : Int) - 1) = (k : Int) - 1 := by rw [IntKind.wrap_i64]; omega
                        have q2 : ((k : Int) - 1).toNat = k - 1 := by omega
                        have q3 : (0 : Int) ≤ (k : Int) - 1 := by omega
                        have q4 : (k : Int) - 1 < (f.sh.length : Int) := by omega
                        have q5 : decide (0 < k) = true := decide_eq_true (by omega)
                        have q7 : (1 : Int) ≤ (k : Int) := by omega
                        have q8 : (k : Int) ≤ (f.sh.length : Int) := by omega
                        have q6 : (k == 0) = false := by simp; omega
                        obtain ⟨y, hy⟩ : ∃ y, Hid (f.sh[k - 1] = y) := ⟨_, Lib.hid rfl⟩
                        rw [hy.out] at hp0 HK
                        have hp3 := cell_alloc hp0 (.cells #[.int .i64 x.m, .int .i64 x.t, .int .i64 x.s] 43)
                        clear hp0 hp1 hp2 ha' hk0
                        by_cases hlt2 : y.m < x.m
                        · have hg : decide (x.m ≤ y.m) = false := decide_eq_false (by omega)
                          have HA := Lib.hid (allN_step hq.out (show okSh f k = true by rw [HK.out, hm, ht, hs, q6, decide_eq_true hlt2]; rfl))
                          clear hq HK q6 hlt2
                          go_wp2
                          go_quiet ((first | (go_at_call 63; first | exact quiet_left (isMember_any _ _) | exact quiet_add_left (isMember_any _ _)) | (go_at_call 60; first | exact quiet_left (inside_any _ _ _ _) | exact quiet_add_left (inside_any _ _ _ _))))
                          clear hy q1
                          go_wp2
                          go_roundw
                          case rel => exact ⟨k + 1, by omega, by go_num, HA.out, by first | (have hbm := HB.out; go_grown; done) | (refine below_drewN ?_ _; have hbm := HB.out; go_grown)⟩
                          case measure => simp [intOf]; omega
                        · have hg : decide (x.m ≤ y.m) = true := decide_eq_true (by omega)
                          have HF := Lib.hid (show vldF f = false from vldF_sh <| allN_no hlt (show okSh f k = false by rw [HK.out, hm, ht, hs, q6, decide_eq_false hlt2]; simp))
                          clear hq HK q6 hlt2
                          go_wp2
                          go_quiet ((first | (go_at_call 63; first | exact quiet_left (isMember_any _ _) | exact quiet_add_left (isMember_any _ _)) | (go_at_call 60; first | exact quiet_left (inside_any _ _ _ _) | exact quiet_add_left (inside_any _ _ _ _))))
                          clear hy q1
                          go_wp2
                          go_ret
                          exact ⟨ret_bool HF.out.symm, by first | (have hbm := bmono HB.out; go_grown; done) | (refine below_drewN ?_ _; have hbm := bmono HB.out; go_grown)⟩
                    · have HF := Lib.hid (show vldF f = false from vldF_sh <| allN_no hlt (show okSh f k = false by rw [HK.out, hm, ht, hs]; simp))
                      clear hq HK
                      go_wp2
                      go_quiet ((first | (go_at_call 63; first | exact quiet_left (isMember_any _ _) | exact quiet_add_left (isMember_any _ _)) | (go_at_call 60; first | exact quiet_left (inside_any _ _ _ _) | exact quiet_add_left (inside_any _ _ _ _))))
                      go_wp2
                      go_ret
                      exact ⟨ret_bool HF.out.symm, by first | (have hbm := bmono HB.out; go_grown; done) | (refine below_drewN ?_ _; have hbm := bmono HB.out; go_grown)⟩
                  · have HF := Lib.hid (show vldF f = false from vldF_sh <| allN_no hlt (show okSh f k = false by rw [HK.out, hm, ht]; simp))
                    clear hq HK
                    go_wp2
                    go_quiet ((first | (go_at_call 63; first | exact quiet_left (isMember_any _ _) | exact quiet_add_left (isMember_any _ _)) | (go_at_call 60; first | exact quiet_left (inside_any _ _ _ _) | exact quiet_add_left (inside_any _ _ _ _))))
                    go_wp2
                    go_ret
                    exact ⟨ret_bool HF.out.symm, by first | (have hbm := bmono HB.out; go_grown; done) | (refine below_drewN ?_ _; have hbm := bmono HB.out; go_grown)⟩
                · have HF := Lib.hid (show vldF f = false from vldF_sh <| allN_no hlt (show okSh f k = false by rw [HK.out, hm]; simp))
                  clear hq HK
                  go_wp2
                  go_quiet ((first | (go_at_call 63; first | exact quiet_left (isMember_any _ _) | exact quiet_add_left (isMember_any _ _)) | (go_at_call 60; first | exact quiet_left (inside_any _ _ _ _) | exact quiet_add_left (inside_any _ _ _ _))))
                  go_wp2
                  go_ret
                  exact ⟨ret_bool HF.out.symm, by first | (have hbm := bmono HB.out; go_grown; done) | (refine below_drewN ?_ _; have hbm := bmono HB.out; go_grown)⟩
              · obtain rfl : k = f.sh.length := by omega
                have g5 : Hid (shsB f = true) := hq
                clear hB hq
                go_wp2
                clear e0 hz hlt hk
                go_loopw [82] (fun i wr => ∃ k : Nat, k ≤ f.wt.length ∧ i = .int .i64 k ∧ Hid (allN (okWt f) k = true) ∧ Below (w.alloc (.cells #[.int .i64 f.t, .int .i64 f.s, .int .i64 f.sp, .slice A f.wt.length c, .slice D f.sh.length d] 29)).heap.size (w.alloc (.cells #[.int .i64 f.t, .int .i64 f.s, .int .i64 f.sp, .slice A f.wt.length c, .slice D f.sh.length d] 29)) wr) (fun i _ => f.wt.length - (intOf i).toNat)
                case atStart => exact ⟨0, Nat.zero_le _, rfl, rfl, HB.out⟩
                case round =>
                  obtain ⟨k, hk, rfl, hq, hB⟩ := hrel
                  have e0 := fun o => hB.cell (p := ⟨w.heap.size, o, none⟩) (by simp)
                  have hz : w.heap.size < wr.heap.size := by have := hB.size; simp at this; omega
                  have HB := Lib.hid hB
                  by_cases hlt : k < f.wt.length
                  · obtain ⟨a, rfl, hca⟩ := int_at (ha.below (bmono HB.out)) hlt
                    have i1 : (k : Int) < (f.wt.length : Int) := by omega
                    have i2 : (k : Int) ≤ (c : Int) := by omega
                    have HK := Lib.hid (okWt_eq hlt)
                    have HT := Lib.hid (show k = (f.wt.take k).length by rw [List.length_take]; omega)
                    have HW := Lib.hid (cells_take (n := k) (ha.below (bmono HB.out)))
                    have HD := Lib.hid (hd.below (bmono HB.out))
                    obtain ⟨x, hx⟩ : ∃ x, Hid (f.wt[k] = x) := ⟨_, Lib.hid rfl⟩
                    rw [hx.out] at hca HK
                    clear hB
                    rcases Bool.eq_false_or_eq_true (memB x) with hm | hm
                    · rcases Bool.eq_false_or_eq_true (x == f.sp) with hs | hs
                      · have HF := Lib.hid (show vldF f = false from vldF_wt <| allN_no hlt (show okWt f k = false by rw [HK.out, hm, hs]; simp))
                        clear hq HK
                        go_wp2_with (first | (go_at_call 63; refine (isMember_any _ _).mono ?_; rintro e w1 ⟨rfl, rfl⟩) | (go_at_call 64; refine (containsInt_any _ _ _ (f.wt.take k) _ _ HT.out HW.out (by have := HT.out; omega)).mono ?_; rintro e w1 ⟨rfl, rfl⟩) | (go_at_call 65; refine (isEntitled_any _ _ c d f x _ HD.out hn).mono ?_; rintro e w1 ⟨rfl, hb⟩; have HB1 := Lib.hid (after1 HB.out (Nat.le_refl _) hb); clear hb))
                        go_ret
                        exact ⟨ret_bool HF.out.symm, by first | (have hbm := bmono HB.out; go_grown; done) | (refine below_drewN ?_ _; have hbm := bmono HB.out; go_grown)⟩
                      · rcases Bool.eq_false_or_eq_true (hasB x (f.wt.take k)) with hh | hh
                        · have HF := Lib.hid (show vldF f = false from vldF_wt <| allN_no hlt (show okWt f k = false by rw [HK.out, hm, hs, hh]; simp))
                          clear hq HK
                          go_wp2_with (first | (go_at_call 63; refine (isMember_any _ _).mono ?_; rintro e w1 ⟨rfl, rfl⟩) | (go_at_call 64; refine (containsInt_any _ _ _ (f.wt.take k) _ _ HT.out HW.out (by have := HT.out; omega)).mono ?_; rintro e w1 ⟨rfl, rfl⟩) | (go_at_call 65; refine (isEntitled_any _ _ c d f x _ HD.out hn).mono ?_; rintro e w1 ⟨rfl, hb⟩; have HB1 := Lib.hid (after1 HB.out (Nat.le_refl _) hb); clear hb))
                          go_ret
                          exact ⟨ret_bool HF.out.symm, by first | (have hbm := bmono HB.out; go_grown; done) | (refine below_drewN ?_ _; have hbm := bmono HB.out; go_grown)⟩
                        · rcases Bool.eq_false_or_eq_true (entB f x) with he | he
                          · have HA := Lib.hid (allN_step hq.out (show okWt f k = true by rw [HK.out, hm, hs, hh, he]; rfl))
                            clear hq HK
                            go_wp2_with (first | (go_at_call 63; refine (isMember_any _ _).mono ?_; rintro e w1 ⟨rfl, rfl⟩) | (go_at_call 64; refine (containsInt_any _ _ _ (f.wt.take k) _ _ HT.out HW.out (by have := HT.out; omega)).mono ?_; rintro e w1 ⟨rfl, rfl⟩) | (go_at_call 65; refine (isEntitled_any _ _ c d f x _ HD.out hn).mono ?_; rintro e w1 ⟨rfl, hb⟩; have HB1 := Lib.hid (after1 HB.out (Nat.le_refl _) hb); clear hb))
                            go_roundw
                            case rel => exact ⟨k + 1, by omega, by go_num, HA.out, HB1.out⟩
                            case measure => simp [intOf]; omega
                          · have HF := Lib.hid (show vldF f = false from vldF_wt <| allN_no hlt (show okWt f k = false by rw [HK.out, hm, hs, hh, he]; simp))
                            clear hq HK
                            go_wp2_with (first | (go_at_call 63; refine (isMember_any _ _).mono ?_; rintro e w1 ⟨rfl, rfl⟩) | (go_at_call 64; refine (containsInt_any _ _ _ (f.wt.take k) _ _ HT.out HW.out (by have := HT.out; omega)).mono ?_; rintro e w1 ⟨rfl, rfl⟩) | (go_at_call 65; refine (isEntitled_any _ _ c d f x _ HD.out hn).mono ?_; rintro e w1 ⟨rfl, hb⟩; have HB1 := Lib.hid (after1 HB.out (Nat.le_refl _) hb); clear hb))
                            go_ret
                            exact ⟨ret_bool HF.out.symm, by first | (have hbm := bmono HB1.out; go_grown; done) | (refine below_drewN ?_ _; have hbm := bmono HB.out; go_grown)⟩
                    · have HF := Lib.hid (show vldF f = false from vldF_wt <| allN_no hlt (show okWt f k = false by rw [HK.out, hm]; simp))
                      clear hq HK
                      go_wp2_with (first | (go_at_call 63; refine (isMember_any _ _).mono ?_; rintro e w1 ⟨rfl, rfl⟩) | (go_at_call 64; refine (containsInt_any _ _ _ (f.wt.take k) _ _ HT.out HW.out (by have := HT.out; omega)).mono ?_; rintro e w1 ⟨rfl, rfl⟩) | (go_at_call 65; refine (isEntitled_any _ _ c d f x _ HD.out hn).mono ?_; rintro e w1 ⟨rfl, hb⟩; have HB1 := Lib.hid (after1 HB.out (Nat.le_refl _) hb); clear hb))
                      go_ret
                      exact ⟨ret_bool HF.out.symm, by first | (have hbm := bmono HB.out; go_grown; done) | (refine below_drewN ?_ _; have hbm := bmono HB.out; go_grown)⟩
                  · obtain rfl : k = f.wt.length := by omega
                    have HD := Lib.hid (hd.below (bmono HB.out))
                    have HWT : Hid (wtsB f = true) := hq
                    clear hB hq
                    rcases Bool.eq_false_or_eq_true (f.sp == 0) with hs | hs
                    · have HF := Lib.hid (show vldF f = true by unfold vldF; rw [g1.out, g2.out, g4.out, g5.out, HWT.out, hs]; rfl)
                      go_wp2
                      go_quiet (fail)
                      go_wp2
                      go_ret
                      exact ⟨ret_bool HF.out.symm, by first | (have hbm := bmono HB.out; go_grown; done) | (refine below_drewN ?_ _; have hbm := bmono HB.out; go_grown)⟩
                    · obtain ⟨S, hS⟩ : ∃ S, Hid (shOf f.sp f.sh = S) := ⟨_, Lib.hid rfl⟩
                      have hm : memB f.sp = true := by have := g3.out; rw [hs] at this; simpa using this
                      have HF := Lib.hid (show vldF f = decide (S.t < f.t) by unfold vldF; rw [g1.out, g2.out, g4.out, g5.out, HWT.out, hs, hm, hS.out]; simp)
                      have hfl := fld_t
                      go_wp2
                      go_region_held3 (fun w' => Below wr.heap.size wr w' ∧ (∀ b o, b < wr.heap.size → w'.cell? ⟨b, o, none⟩ = wr.cell? ⟨b, o, none⟩))
                        ((first | (refine mkS ?_; assumption) | (refine drewS ?_; assumption) | (refine mkS ?_; go_grown)))
                        (first  | (go_at_call 61; refine (shareOf_any _ _ c d f f.sp _ (HD.out.below (S1 (by assumption))) hn).mono ?_; rintro e w1 ⟨rfl, hb⟩; rw [hS.out]; obtain ⟨hB1, hzz⟩ := callS (by assumption) (Nat.le_refl _) hb; have HB1 := Lib.hid hB1; clear hb))
                      go_wp2
                      go_ret
                      exact ⟨ret_bool HF.out.symm, by have := (bmono HB.out).trans (HB1.out.mono (by omega)); go_grown⟩
          · have hs1 : (f.sp != 0) = true := by simpa using hs0
            have hm0 : memB f.sp = true := by rw [hs0] at h3; simpa using h3
            clear hs0 h3
            go_enter Try.func19, Try.ntmps19
            go_wp2_with (first | (go_at_call 60; refine (inside_any _ _ _ _).mono ?_; rintro e w1 ⟨rfl, rfl⟩) | (go_at_call 63; refine (isMember_any _ _).mono ?_; rintro e w1 ⟨rfl, rfl⟩))
            go_loopw [37] (fun i wr => ∃ k : Nat, k ≤ f.sh.length ∧ i = .int .i64 k ∧ Hid (allN (okSh f) k = true) ∧ Below (w.alloc (.cells #[.int .i64 f.t, .int .i64 f.s, .int .i64 f.sp, .slice A f.wt.length c, .slice D f.sh.length d] 29)).heap.size (w.alloc (.cells #[.int .i64 f.t, .int .i64 f.s, .int .i64 f.sp, .slice A f.wt.length c, .slice D f.sh.length d] 29)) wr) (fun i _ => f.sh.length - (intOf i).toNat)
            case atStart => exact ⟨0, Nat.zero_le _, rfl, rfl, Below.refl _ _⟩
            case round =>
              have g1 := Lib.hid h1
              have g2 := Lib.hid h2
              have g4 := Lib.hid (decide_eq_true h4)
              clear h1 h2
              obtain ⟨k, hk, rfl, hq, hB⟩ := hrel
              have e0 := fun o => hB.cell (p := ⟨w.heap.size, o, none⟩) (by simp)
              have hz : w.heap.size < wr.heap.size := by have := hB.size; simp at this; omega
              have HB := Lib.hid hB
              by_cases hlt : k < f.sh.length
              · obtain ⟨a, rfl, hc0, hc1, hc2⟩ := share_at (hd.below (bmono HB.out)) hlt
                have i1 : (k : Int) < (f.sh.length : Int) := by omega
                have HK := Lib.hid (okSh_eq hlt)
                obtain ⟨x, hx⟩ : ∃ x, Hid (f.sh[k] = x) := ⟨_, Lib.hid rfl⟩
                rw [hx.out] at hc0 hc1 hc2 HK
                clear hB
                rcases Bool.eq_false_or_eq_true (memB x.m) with hm | hm
                · rcases Bool.eq_false_or_eq_true (inB x.t 0 f.t) with ht | ht
                  · rcases Bool.eq_false_or_eq_true (inB x.s 0 f.s) with hs | hs
                    · by_cases hk0 : k = 0
                      · have q6 : (k == 0) = true := by simp [hk0]
                        have HA := Lib.hid (allN_step hq.out (show okSh f k = true by rw [HK.out, hm, ht, hs, q6]; rfl))
                        have q5 : decide (0 < k) = false := decide_eq_false (by omega)
                        clear hq HK hk0 q6
                        go_wp2
                        go_quiet ((first | (go_at_call 63; first | exact quiet_left (isMember_any _ _) | exact quiet_add_left (isMember_any _ _)) | (go_at_call 60; first | exact quiet_left (inside_any _ _ _ _) | exact quiet_add_left (inside_any _ _ _ _))))
                        go_wp2
                        go_roundw
                        case rel => exact ⟨k + 1, by omega, by go_num, HA.out, by first | (have hbm := HB.out; go_grown; done) | (refine below_drewN ?_ _; have hbm := HB.out; go_grown)⟩
                        case measure => simp [intOf]; omega
                      · have hk1 : 0 < k := by omega
                        obtain ⟨a', ha', hp0, hp1, hp2⟩ := share_at (hd.below (bmono HB.out)) (show k - 1 < f.sh.length by omega)
                        obtain rfl : a' = a := by simpa using ha'.symm
                        have q1 : IntKind.i64.wrap ((k : Int) - 1) = (k : Int) - 1 := by rw [IntKind.wrap_i64]; omega
                        have q2 : ((k : Int) - 1).toNat = k - 1 := by omega
                        have q3 : (0 : Int) ≤ (k : Int) - 1 := by omega
                        have q4 : (k : Int) - 1 < (f.sh.length : Int) := by omega
                        have q5 : decide (0 < k) = true := decide_eq_true (by omega)
                        have q7 : (1 : Int) ≤ (k : Int) := by omega
                        have q8 : (k : Int) ≤ (f.sh.length : Int) := by omega
                        have q6 : (k == 0) = false := by simp; omega
                        obtain ⟨y, hy⟩ : ∃ y, Hid (f.sh[k - 1] = y) := ⟨_, Lib.hid rfl⟩
                        rw [hy.out] at hp0 HK
                        have hp3 := cell_alloc hp0 (.cells #[.int .i64 x.m, .int .i64 x.t, .int .i64 x.s] 43)
                        clear hp0 hp1 hp2 ha' hk0
                        by_cases hlt2 : y.m < x.m
                        · have hg : decide (x.m ≤ y.m) = false := decide_eq_false (by omega)
                          have HA := Lib.hid (allN_step hq.out (show okSh f k = true by rw [HK.out, hm, ht, hs, q6, decide_eq_true hlt2]; rfl))
                          clear hq HK q6 hlt2
                          go_wp2
                          go_quiet ((first | (go_at_call 63; first | exact quiet_left (isMember_any _ _) | exact quiet_add_left (isMember_any _ _)) | (go_at_call 60; first | exact quiet_left (inside_any _ _ _ _) | exact quiet_add_left (inside_any _ _ _ _))))
                          clear hy q1
                          go_wp2
                          go_roundw
                          case rel => exact ⟨k + 1, by omega, by go_num, HA.out, by first | (have hbm := HB.out; go_grown; done) | (refine below_drewN ?_ _; have hbm := HB.out; go_grown)⟩
                          case measure => simp [intOf]; omega
                        · have hg : decide (x.m ≤ y.m) = true := decide_eq_true (by omega)
                          have HF := Lib.hid (show vldF f = false from vldF_sh <| allN_no hlt (show okSh f k = false by rw [HK.out, hm, ht, hs, q6, decide_eq_false hlt2]; simp))
                          clear hq HK q6 hlt2
                          go_wp2
                          go_quiet ((first | (go_at_call 63; first | exact quiet_left (isMember_any _ _) | exact quiet_add_left (isMember_any _ _)) | (go_at_call 60; first | exact quiet_left (inside_any _ _ _ _) | exact quiet_add_left (inside_any _ _ _ _))))
                          clear hy q1
                          go_wp2
                          go_ret
                          exact ⟨ret_bool HF.out.symm, by first | (have hbm := bmono HB.out; go_grown; done) | (refine below_drewN ?_ _; have hbm := bmono HB.out; go_grown)⟩
                    · have HF := Lib.hid (show vldF f = false from vldF_sh <| allN_no hlt (show okSh f k = false by rw [HK.out, hm, ht, hs]; simp))
                      clear hq HK
                      go_wp2
                      go_quiet ((first | (go_at_call 63; first | exact quiet_left (isMember_any _ _) | exact quiet_add_left (isMember_any _ _)) | (go_at_call 60; first | exact quiet_left (inside_any _ _ _ _) | exact quiet_add_left (inside_any _ _ _ _))))
                      go_wp2
                      go_ret
                      exact ⟨ret_bool HF.out.symm, by first | (have hbm := bmono HB.out; go_grown; done) | (refine below_drewN ?_ _; have hbm := bmono HB.out; go_grown)⟩
                  · have HF := Lib.hid (show vldF f = false from vldF_sh <| allN_no hlt (show okSh f k = false by rw [HK.out, hm, ht]; simp))
                    clear hq HK
                    go_wp2
                    go_quiet ((first | (go_at_call 63; first | exact quiet_left (isMember_any _ _) | exact quiet_add_left (isMember_any _ _)) | (go_at_call 60; first | exact quiet_left (inside_any _ _ _ _) | exact quiet_add_left (inside_any _ _ _ _))))
                    go_wp2
                    go_ret
                    exact ⟨ret_bool HF.out.symm, by first | (have hbm := bmono HB.out; go_grown; done) | (refine below_drewN ?_ _; have hbm := bmono HB.out; go_grown)⟩
                · have HF := Lib.hid (show vldF f = false from vldF_sh <| allN_no hlt (show okSh f k = false by rw [HK.out, hm]; simp))
                  clear hq HK
                  go_wp2
                  go_quiet ((first | (go_at_call 63; first | exact quiet_left (isMember_any _ _) | exact quiet_add_left (isMember_any _ _)) | (go_at_call 60; first | exact quiet_left (inside_any _ _ _ _) | exact quiet_add_left (inside_any _ _ _ _))))
                  go_wp2
                  go_ret
                  exact ⟨ret_bool HF.out.symm, by first | (have hbm := bmono HB.out; go_grown; done) | (refine below_drewN ?_ _; have hbm := bmono HB.out; go_grown)⟩
              · obtain rfl : k = f.sh.length := by omega
                have g5 : Hid (shsB f = true) := hq
                clear hB hq
                go_wp2
                clear e0 hz hlt hk
                go_loopw [82] (fun i wr => ∃ k : Nat, k ≤ f.wt.length ∧ i = .int .i64 k ∧ Hid (allN (okWt f) k = true) ∧ Below (w.alloc (.cells #[.int .i64 f.t, .int .i64 f.s, .int .i64 f.sp, .slice A f.wt.length c, .slice D f.sh.length d] 29)).heap.size (w.alloc (.cells #[.int .i64 f.t, .int .i64 f.s, .int .i64 f.sp, .slice A f.wt.length c, .slice D f.sh.length d] 29)) wr) (fun i _ => f.wt.length - (intOf i).toNat)
                case atStart => exact ⟨0, Nat.zero_le _, rfl, rfl, HB.out⟩
                case round =>
                  obtain ⟨k, hk, rfl, hq, hB⟩ := hrel
                  have e0 := fun o => hB.cell (p := ⟨w.heap.size, o, none⟩) (by simp)
                  have hz : w.heap.size < wr.heap.size := by have := hB.size; simp at this; omega
                  have HB := Lib.hid hB
                  by_cases hlt : k < f.wt.length
                  · obtain ⟨a, rfl, hca⟩ := int_at (ha.below (bmono HB.out)) hlt
                    have i1 : (k : Int) < (f.wt.length : Int) := by omega
                    have i2 : (k : Int) ≤ (c : Int) := by omega
                    have HK := Lib.hid (okWt_eq hlt)
                    have HT := Lib.hid (show k = (f.wt.take k).length by rw [List.length_take]; omega)
                    have HW := Lib.hid (cells_take (n := k) (ha.below (bmono HB.out)))
                    have HD := Lib.hid (hd.below (bmono HB.out))
                    obtain ⟨x, hx⟩ : ∃ x, Hid (f.wt[k] = x) := ⟨_, Lib.hid rfl⟩
                    rw [hx.out] at hca HK
                    clear hB
                    rcases Bool.eq_false_or_eq_true (memB x) with hm | hm
                    · rcases Bool.eq_false_or_eq_true (x == f.sp) with hs | hs
                      · have HF := Lib.hid (show vldF f = false from vldF_wt <| allN_no hlt (show okWt f k = false by rw [HK.out, hm, hs]; simp))
                        clear hq HK
                        go_wp2_with (first | (go_at_call 63; refine (isMember_any _ _).mono ?_; rintro e w1 ⟨rfl, rfl⟩) | (go_at_call 64; refine (containsInt_any _ _ _ (f.wt.take k) _ _ HT.out HW.out (by have := HT.out; omega)).mono ?_; rintro e w1 ⟨rfl, rfl⟩) | (go_at_call 65; refine (isEntitled_any _ _ c d f x _ HD.out hn).mono ?_; rintro e w1 ⟨rfl, hb⟩; have HB1 := Lib.hid (after1 HB.out (Nat.le_refl _) hb); clear hb))
                        go_ret
                        exact ⟨ret_bool HF.out.symm, by first | (have hbm := bmono HB.out; go_grown; done) | (refine below_drewN ?_ _; have hbm := bmono HB.out; go_grown)⟩
                      · rcases Bool.eq_false_or_eq_true (hasB x (f.wt.take k)) with hh | hh
                        · have HF := Lib.hid (show vldF f = false from vldF_wt <| allN_no hlt (show okWt f k = false by rw [HK.out, hm, hs, hh]; simp))
                          clear hq HK
                          go_wp2_with (first | (go_at_call 63; refine (isMember_any _ _).mono ?_; rintro e w1 ⟨rfl, rfl⟩) | (go_at_call 64; refine (containsInt_any _ _ _ (f.wt.take k) _ _ HT.out HW.out (by have := HT.out; omega)).mono ?_; rintro e w1 ⟨rfl, rfl⟩) | (go_at_call 65; refine (isEntitled_any _ _ c d f x _ HD.out hn).mono ?_; rintro e w1 ⟨rfl, hb⟩; have HB1 := Lib.hid (after1 HB.out (Nat.le_refl _) hb); clear hb))
                          go_ret
                          exact ⟨ret_bool HF.out.symm, by first | (have hbm := bmono HB.out; go_grown; done) | (refine below_drewN ?_ _; have hbm := bmono HB.out; go_grown)⟩
                        · rcases Bool.eq_false_or_eq_true (entB f x) with he | he
                          · have HA := Lib.hid (allN_step hq.out (show okWt f k = true by rw [HK.out, hm, hs, hh, he]; rfl))
                            clear hq HK
                            go_wp2_with (first | (go_at_call 63; refine (isMember_any _ _).mono ?_; rintro e w1 ⟨rfl, rfl⟩) | (go_at_call 64; refine (containsInt_any _ _ _ (f.wt.take k) _ _ HT.out HW.out (by have := HT.out; omega)).mono ?_; rintro e w1 ⟨rfl, rfl⟩) | (go_at_call 65; refine (isEntitled_any _ _ c d f x _ HD.out hn).mono ?_; rintro e w1 ⟨rfl, hb⟩; have HB1 := Lib.hid (after1 HB.out (Nat.le_refl _) hb); clear hb))
                            go_roundw
                            case rel => exact ⟨k + 1, by omega, by go_num, HA.out, HB1.out⟩
                            case measure => simp [intOf]; omega
                          · have HF := Lib.hid (show vldF f = false from vldF_wt <| allN_no hlt (show okWt f k = false by rw [HK.out, hm, hs, hh, he]; simp))
                            clear hq HK
                            go_wp2_with (first | (go_at_call 63; refine (isMember_any _ _).mono ?_; rintro e w1 ⟨rfl, rfl⟩) | (go_at_call 64; refine (containsInt_any _ _ _ (f.wt.take k) _ _ HT.out HW.out (by have := HT.out; omega)).mono ?_; rintro e w1 ⟨rfl, rfl⟩) | (go_at_call 65; refine (isEntitled_any _ _ c d f x _ HD.out hn).mono ?_; rintro e w1 ⟨rfl, hb⟩; have HB1 := Lib.hid (after1 HB.out (Nat.le_refl _) hb); clear hb))
                            go_ret
                            exact ⟨ret_bool HF.out.symm, by first | (have hbm := bmono HB1.out; go_grown; done) | (refine below_drewN ?_ _; have hbm := bmono HB.out; go_grown)⟩
                    · have HF := Lib.hid (show vldF f = false from vldF_wt <| allN_no hlt (show okWt f k = false by rw [HK.out, hm]; simp))
                      clear hq HK
                      go_wp2_with (first | (go_at_call 63; refine (isMember_any _ _).mono ?_; rintro e w1 ⟨rfl, rfl⟩) | (go_at_call 64; refine (containsInt_any _ _ _ (f.wt.take k) _ _ HT.out HW.out (by have := HT.out; omega)).mono ?_; rintro e w1 ⟨rfl, rfl⟩) | (go_at_call 65; refine (isEntitled_any _ _ c d f x _ HD.out hn).mono ?_; rintro e w1 ⟨rfl, hb⟩; have HB1 := Lib.hid (after1 HB.out (Nat.le_refl _) hb); clear hb))
                      go_ret
                      exact ⟨ret_bool HF.out.symm, by first | (have hbm := bmono HB.out; go_grown; done) | (refine below_drewN ?_ _; have hbm := bmono HB.out; go_grown)⟩
                  · obtain rfl : k = f.wt.length := by omega
                    have HD := Lib.hid (hd.below (bmono HB.out))
                    have HWT : Hid (wtsB f = true) := hq
                    clear hB hq
                    rcases Bool.eq_false_or_eq_true (f.sp == 0) with hs | hs
                    · have HF := Lib.hid (show vldF f = true by unfold vldF; rw [g1.out, g2.out, g4.out, g5.out, HWT.out, hs]; rfl)
                      go_wp2
                      go_quiet (fail)
                      go_wp2
                      go_ret
                      exact ⟨ret_bool HF.out.symm, by first | (have hbm := bmono HB.out; go_grown; done) | (refine below_drewN ?_ _; have hbm := bmono HB.out; go_grown)⟩
                    · obtain ⟨S, hS⟩ : ∃ S, Hid (shOf f.sp f.sh = S) := ⟨_, Lib.hid rfl⟩
                      have hm : memB f.sp = true := by have := g3.out; rw [hs] at this; simpa using this
                      have HF := Lib.hid (show vldF f = decide (S.t < f.t) by unfold vldF; rw [g1.out, g2.out, g4.out, g5.out, HWT.out, hs, hm, hS.out]; simp)
                      have hfl := fld_t
                      go_wp2
                      go_region_held3 (fun w' => Below wr.heap.size wr w' ∧ (∀ b o, b < wr.heap.size → w'.cell? ⟨b, o, none⟩ = wr.cell? ⟨b, o, none⟩))
                        ((first | (refine mkS ?_; assumption) | (refine drewS ?_; assumption) | (refine mkS ?_; go_grown)))
                        (first  | (go_at_call 61; refine (shareOf_any _ _ c d f f.sp _ (HD.out.below (S1 (by assumption))) hn).mono ?_; rintro e w1 ⟨rfl, hb⟩; rw [hS.out]; obtain ⟨hB1, hzz⟩ := callS (by assumption) (Nat.le_refl _) hb; have HB1 := Lib.hid hB1; clear hb))
                      go_wp2
                      go_ret
                      exact ⟨ret_bool HF.out.symm, by have := (bmono HB.out).trans (HB1.out.mono (by omega)); go_grown⟩
        · have HF := Lib.hid (show vldF f = false by unfold vldF; rw [decide_eq_false h4]; simp)
          go_enter Try.func19, Try.ntmps19
          go_wp2_with (first | (go_at_call 60; refine (inside_any _ _ _ _).mono ?_; rintro e w1 ⟨rfl, rfl⟩) | (go_at_call 63; refine (isMember_any _ _).mono ?_; rintro e w1 ⟨rfl, rfl⟩))
          all_goals (go_ret; exact ⟨ret_bool HF.out.symm, by first | (have := HBgg.out; go_grown; done) | (go_grown; done)⟩)
      · have HF := Lib.hid (show vldF f = false by unfold vldF; rw [h3]; simp)
        obtain ⟨hs0, hm0⟩ : (f.sp != 0) = true ∧ memB f.sp = false := by simp at h3; exact ⟨by simpa using h3.1, by simpa using h3.2⟩
        clear h3
        go_enter Try.func19, Try.ntmps19
        go_wp2_with (first | (go_at_call 60; refine (inside_any _ _ _ _).mono ?_; rintro e w1 ⟨rfl, rfl⟩) | (go_at_call 63; refine (isMember_any _ _).mono ?_; rintro e w1 ⟨rfl, rfl⟩))
        all_goals (go_ret; exact ⟨ret_bool HF.out.symm, by first | (have := HBgg.out; go_grown; done) | (go_grown; done)⟩)
    · have HF := Lib.hid (show vldF f = false by unfold vldF; rw [h2]; simp)
      go_enter Try.func19, Try.ntmps19
      go_wp2_with (first | (go_at_call 60; refine (inside_any _ _ _ _).mono ?_; rintro e w1 ⟨rfl, rfl⟩) | (go_at_call 63; refine (isMember_any _ _).mono ?_; rintro e w1 ⟨rfl, rfl⟩))
      all_goals (go_ret; exact ⟨ret_bool HF.out.symm, by first | (have := HBgg.out; go_grown; done) | (go_grown; done)⟩)
  · have HF := Lib.hid (show vldF f = false by unfold vldF; rw [h1]; simp)
    go_enter Try.func19, Try.ntmps19
    go_wp2_with (first | (go_at_call 60; refine (inside_any _ _ _ _).mono ?_; rintro e w1 ⟨rfl, rfl⟩) | (go_at_call 63; refine (isMember_any _ _).mono ?_; rintro e w1 ⟨rfl, rfl⟩))
    all_goals (go_ret; exact ⟨ret_bool HF.out.symm, by first | (have := HBgg.out; go_grown; done) | (go_grown; done)⟩)
end Go.Proofs.Ytbpikbcnpmplfaa
