/- Lists of pending questions, in the reference. Conditions: the ranges named. -/
import Derived.Test.YtifahgdalgjgfaaPd
import Derived.Test.YtifahgdalgjgfaaRu3
import Derived.Deep.DrawnRows
namespace Go.Proofs.Ytifahgdalgjgfaa
open Go.RowKit
set_option linter.unusedVariables false
attribute [local go_sem ↓] Go.wp_at_zero Go.wp_at_succ
set_option maxHeartbeats 4000000 in
set_option maxRecDepth 100000 in
theorem l7Good_any (A : Option Addr) (c : Nat) (xs : List Rul) (D : Option Addr) (d : Nat) (qs : List Qst) (w : World) (ha : Cells w A (RuleK.row xs)) (hm : xs.length ≤ 1048576) (hcc : xs.length ≤ c) (hf : ∀ x ∈ xs, RuleK.fit x) (hd : Cells w D (QuestionK.row qs)) (hn : qs.length ≤ 1048576) :
    Calls Try.prog 72 #[.slice A xs.length c, .slice D qs.length d] w fun e w' => e = .returned (.bool (pendB xs qs)) ∧ Below w.heap.size w w' := by
  have HA := Lib.hid ha
  have HD := Lib.hid hd
  have HV := Lib.hid (fun W hW => l2Good_any A c xs W hW hm hcc hf)
  clear ha hd hf
  rcases Bool.eq_false_or_eq_true (rulesB xs) with hr | hr
  · by_cases h6 : (qs.length : Int) ≤ 6
    · have HR := Lib.hid (show pendB xs qs = allN (okQ xs qs) qs.length by unfold pendB; rw [hr, decide_eq_true h6]; simp)
      go_enter Try.func72, Try.ntmps72
      go_wp2_with (go_at_call 97; refine (HV.out _ HA.out).mono ?_; rintro e w1 ⟨rfl, hb⟩; rw [hr]; have HB0 := Lib.hid hb; clear hb)
      go_loopw [5] (fun i wr => ∃ k : Nat, k ≤ qs.length ∧ i = .int .i64 k ∧ Hid (allN (okQ xs qs) k = true) ∧ Below w.heap.size w wr) (fun i _ => qs.length - (intOf i).toNat)
      case atStart => exact ⟨0, Nat.zero_le _, rfl, rfl, HB0.out⟩
      case round =>
        obtain ⟨k, hk, rfl, hq, hB⟩ := hrel
        have HB := Lib.hid hB
        clear hB HB0
        by_cases hlt : k < qs.length
        · obtain ⟨a, rfl, hc0, hc1, hc2⟩ := question_at (HD.out.below HB.out) hlt
          have i1 : (k : Int) < (qs.length : Int) := by omega
          obtain ⟨q, hqq⟩ : ∃ q, Hid (qs[k] = q) := ⟨_, Lib.hid rfl⟩
          have HK := Lib.hid (okQ_eq hlt (rs := xs))
          rw [hqq.out] at hc0 hc1 hc2 HK
          go_wp2_with fail
          refine (l2Find_any A c xs q.r _ (HA.out.below (by first | exact HB.out | exact HB.out.drew)) hm).mono ?_
          rintro e w1 ⟨rfl, hb⟩
          have q1 := (hb.cell (World.block_lt_of_cell? _ _ hc1)).trans hc1
          have q2 := (hb.cell (World.block_lt_of_cell? _ _ hc2)).trans hc2
          have HW1 := Lib.hid (HB.out.trans (hb.mono HB.out.size))
          clear hb hc0 hc1 hc2
          by_cases hix : 0 ≤ ixR xs q.r
          · have hix2 : ¬ ixR xs q.r < 0 := by omega
            have HIX := Lib.hid hix
            obtain ⟨j, hj, hjl⟩ := ixR_at hix
            obtain ⟨b, rfl, x0, x1, x2, x3, x4, x5, x6⟩ := rule_at (HA.out.below HW1.out) hjl
            have j1 : (j : Int) < (xs.length : Int) := by omega
            have HRA := Lib.hid (ruleAt_of hj hjl)
            obtain ⟨x, hx⟩ : ∃ x, Hid (xs[j] = x) := ⟨_, Lib.hid rfl⟩
            rw [hx.out] at x0 x1 x2 x3 x4 x5 x6 HRA
            rw [hj]
            have HJ := Lib.hid hj
            clear hix hix2 x0 x1 x4 x5 x6 hj
            rcases Bool.eq_false_or_eq_true (memB q.m) with hmm | hmm
            · go_wp2_with fail
              refine (l7Member_any q.m _).mono ?_
              rintro e w2 ⟨rfl, rfl⟩
              rw [hmm]
              rcases Bool.eq_false_or_eq_true q.s with hs | hs
              · rw [hs] at q2
                rcases Bool.eq_false_or_eq_true x.sc with hc | hc
                · rw [hc] at x3
                  go_wp2
                  have HK2 : okQ xs qs k = (k == 0 || !(lackB xs (qs[k - 1]'(by omega)) || decide ((ruleAt xs q).rk ≤ (ruleAt xs (qs[k - 1]'(by omega))).rk))) := by rw [HK.out, decide_eq_true HIX.out, hmm, hs, HRA.out, hc]; simp
                  rw [HRA.out] at HK2
                  clear hs hc q1 q2 x3 HRA
                  by_cases hk0 : k = 0
                  · have HS := Lib.hid (allN_step hq.out (show okQ xs qs k = true by rw [HK2]; simp [hk0]))
                    have q9 : decide ((0 : Int) < (k : Int)) = false := decide_eq_false (by omega)
                    have q5 : decide (0 < k) = false := decide_eq_false (by omega)
                    clear hq HK HK2 hk0
                    refine wp_region_noPanic ?_
                    refine wp_region_held_drew (S := (fun w' => Below w1.heap.size w1 w')) (by kernel_rfl) ?_ (fun hHeld => ?_)
                    · ((try dsimp only); (exact (Below.refl _ _).drew))
                    refine take_yes (i := 0) (d := 54) (v := ?_) rfl rfl (by kernel_rfl) (by kernel_rfl) (by kernel_rfl) (fun _ _ _ h => h) (by kernel_rfl) ?_ hHeld ?_
                    rotate_left
                    · (intro w hSw; (try dsimp only at hSw); go_simp; try (with_reducible rfl))
                    try simp only [Act.put, List.setIfInBounds_toArray, List.set_cons_zero, List.set_cons_succ]
                    refine take_yes (i := 1) (d := 55) (v := ?_) rfl rfl (by kernel_rfl) (by kernel_rfl) (by kernel_rfl) (fun _ _ _ h => h) (by kernel_rfl) ?_ hHeld ?_
                    rotate_left
                    · (intro w hSw; (try dsimp only at hSw); go_simp; try (with_reducible rfl))
                    try simp only [Act.put, List.setIfInBounds_toArray, List.set_cons_zero, List.set_cons_succ]
                    refine take_yes (i := 2) (d := 56) (v := ?_) rfl rfl (by kernel_rfl) (by kernel_rfl) (by kernel_rfl) (fun _ _ _ h => h) (by kernel_rfl) ?_ hHeld ?_
                    rotate_left
                    · (intro w hSw; (try dsimp only at hSw); go_simp; try (with_reducible rfl))
                    try simp only [Act.put, List.setIfInBounds_toArray, List.set_cons_zero, List.set_cons_succ]
                    refine take_no (i := 3) (d := 57) rfl rfl (by kernel_rfl) (by kernel_rfl) (by kernel_rfl) (fun _ _ _ h => h) (by kernel_rfl) hHeld ?_
                    try simp only [Act.put, List.setIfInBounds_toArray, List.set_cons_zero, List.set_cons_succ]
                    refine take_no (i := 4) (d := 58) rfl rfl (by kernel_rfl) (by kernel_rfl) (by kernel_rfl) (fun _ _ _ h => h) (by kernel_rfl) hHeld ?_
                    try simp only [Act.put, List.setIfInBounds_toArray, List.set_cons_zero, List.set_cons_succ]
                    refine take_no (i := 5) (d := 59) rfl rfl (by kernel_rfl) (by kernel_rfl) (by kernel_rfl) (fun _ _ _ h => h) (by kernel_rfl) hHeld ?_
                    try simp only [Act.put, List.setIfInBounds_toArray, List.set_cons_zero, List.set_cons_succ]
                    refine take_no (i := 6) (d := 60) rfl rfl (by kernel_rfl) (by kernel_rfl) (by kernel_rfl) (fun _ _ _ h => h) (by kernel_rfl) hHeld ?_
                    try simp only [Act.put, List.setIfInBounds_toArray, List.set_cons_zero, List.set_cons_succ]
                    refine take_no (i := 7) (d := 61) rfl rfl (by kernel_rfl) (by kernel_rfl) (by kernel_rfl) (fun _ _ _ h => h) (by kernel_rfl) hHeld ?_
                    try simp only [Act.put, List.setIfInBounds_toArray, List.set_cons_zero, List.set_cons_succ]
                    refine take_no (i := 8) (d := 62) rfl rfl (by kernel_rfl) (by kernel_rfl) (by kernel_rfl) (fun _ _ _ h => h) (by kernel_rfl) hHeld ?_
                    try simp only [Act.put, List.setIfInBounds_toArray, List.set_cons_zero, List.set_cons_succ]
                    refine take_no (i := 9) (d := 63) rfl rfl (by kernel_rfl) (by kernel_rfl) (by kernel_rfl) (fun _ _ _ h => h) (by kernel_rfl) hHeld ?_
                    try simp only [Act.put, List.setIfInBounds_toArray, List.set_cons_zero, List.set_cons_succ]
                    refine take_no (i := 10) (d := 64) rfl rfl (by kernel_rfl) (by kernel_rfl) (by kernel_rfl) (fun _ _ _ h => h) (by kernel_rfl) hHeld ?_
                    try simp only [Act.put, List.setIfInBounds_toArray, List.set_cons_zero, List.set_cons_succ]
                    refine take_no (i := 11) (d := 65) rfl rfl (by kernel_rfl) (by kernel_rfl) (by kernel_rfl) (fun _ _ _ h => h) (by kernel_rfl) hHeld ?_
                    try simp only [Act.put, List.setIfInBounds_toArray, List.set_cons_zero, List.set_cons_succ]
                    refine take_no (i := 12) (d := 66) rfl rfl (by kernel_rfl) (by kernel_rfl) (by kernel_rfl) (fun _ _ _ h => h) (by kernel_rfl) hHeld ?_
                    try simp only [Act.put, List.setIfInBounds_toArray, List.set_cons_zero, List.set_cons_succ]
                    refine take_no (i := 13) (d := 67) rfl rfl (by kernel_rfl) (by kernel_rfl) (by kernel_rfl) (fun _ _ _ h => h) (by kernel_rfl) hHeld ?_
                    try simp only [Act.put, List.setIfInBounds_toArray, List.set_cons_zero, List.set_cons_succ]
                    refine take_no (i := 14) (d := 68) rfl rfl (by kernel_rfl) (by kernel_rfl) (by kernel_rfl) (fun _ _ _ h => h) (by kernel_rfl) hHeld ?_
                    try simp only [Act.put, List.setIfInBounds_toArray, List.set_cons_zero, List.set_cons_succ]
                    refine take_no (i := 15) (d := 69) rfl rfl (by kernel_rfl) (by kernel_rfl) (by kernel_rfl) (fun _ _ _ h => h) (by kernel_rfl) hHeld ?_
                    try simp only [Act.put, List.setIfInBounds_toArray, List.set_cons_zero, List.set_cons_succ]
                    refine take_no (i := 16) (d := 70) rfl rfl (by kernel_rfl) (by kernel_rfl) (by kernel_rfl) (fun _ _ _ h => h) (by kernel_rfl) hHeld ?_
                    try simp only [Act.put, List.setIfInBounds_toArray, List.set_cons_zero, List.set_cons_succ]
                    refine take_no (i := 17) (d := 71) rfl rfl (by kernel_rfl) (by kernel_rfl) (by kernel_rfl) (fun _ _ _ h => h) (by kernel_rfl) hHeld ?_
                    try simp only [Act.put, List.setIfInBounds_toArray, List.set_cons_zero, List.set_cons_succ]
                    refine take_no (i := 18) (d := 72) rfl rfl (by kernel_rfl) (by kernel_rfl) (by kernel_rfl) (fun _ _ _ h => h) (by kernel_rfl) hHeld ?_
                    try simp only [Act.put, List.setIfInBounds_toArray, List.set_cons_zero, List.set_cons_succ]
                    refine take_no (i := 19) (d := 73) rfl rfl (by kernel_rfl) (by kernel_rfl) (by kernel_rfl) (fun _ _ _ h => h) (by kernel_rfl) hHeld ?_
                    try simp only [Act.put, List.setIfInBounds_toArray, List.set_cons_zero, List.set_cons_succ]
                    refine take_no (i := 20) (d := 74) rfl rfl (by kernel_rfl) (by kernel_rfl) (by kernel_rfl) (fun _ _ _ h => h) (by kernel_rfl) hHeld ?_
                    try simp only [Act.put, List.setIfInBounds_toArray, List.set_cons_zero, List.set_cons_succ]
                    refine take_no (i := 21) (d := 75) rfl rfl (by kernel_rfl) (by kernel_rfl) (by kernel_rfl) (fun _ _ _ h => h) (by kernel_rfl) hHeld ?_
                    try simp only [Act.put, List.setIfInBounds_toArray, List.set_cons_zero, List.set_cons_succ]
                    refine take_no (i := 22) (d := 76) rfl rfl (by kernel_rfl) (by kernel_rfl) (by kernel_rfl) (fun _ _ _ h => h) (by kernel_rfl) hHeld ?_
                    try simp only [Act.put, List.setIfInBounds_toArray, List.set_cons_zero, List.set_cons_succ]
                    refine take_no (i := 23) (d := 77) rfl rfl (by kernel_rfl) (by kernel_rfl) (by kernel_rfl) (fun _ _ _ h => h) (by kernel_rfl) hHeld ?_
                    try simp only [Act.put, List.setIfInBounds_toArray, List.set_cons_zero, List.set_cons_succ]
                    refine take_no (i := 24) (d := 78) rfl rfl (by kernel_rfl) (by kernel_rfl) (by kernel_rfl) (fun _ _ _ h => h) (by kernel_rfl) hHeld ?_
                    try simp only [Act.put, List.setIfInBounds_toArray, List.set_cons_zero, List.set_cons_succ]
                    refine take_yes (i := 25) (d := 79) (v := ?_) rfl rfl (by kernel_rfl) (by kernel_rfl) (by kernel_rfl) (fun _ _ _ h => h) (by kernel_rfl) ?_ hHeld ?_
                    rotate_left
                    · (intro w hSw; (try dsimp only at hSw); go_simp; try (with_reducible rfl))
                    try simp only [Act.put, List.setIfInBounds_toArray, List.set_cons_zero, List.set_cons_succ]
                    refine wpAnyH_done (by kernel_rfl) ?_ _
                    refine NoPanic.normal ?_
                    go_wp2
                    go_roundw
                    case rel => exact ⟨k + 1, by omega, by go_num, HS.out, HW1.out.trans (hHeld.mono HW1.out.size)⟩
                    case measure => simp [intOf]; omega
                  · have hk1 : 0 < k := by omega
                    obtain ⟨a', ha', p0, p1, p2⟩ := question_at (HD.out.below HW1.out) (show k - 1 < qs.length by omega)
                    obtain rfl : a = a' := by simpa using ha'
                    have t1 : IntKind.i64.wrap ((k : Int) - 1) = (k : Int) - 1 := by rw [IntKind.wrap_i64]; omega
                    have t2 : ((k : Int) - 1).toNat = k - 1 := by omega
                    have t3 : (0 : Int) ≤ (k : Int) - 1 := by omega
                    have t4 : (k : Int) - 1 < (qs.length : Int) := by omega
                    have t9 : decide ((0 : Int) < (k : Int)) = true := decide_eq_true (by omega)
                    have t5 : decide (0 < k) = true := decide_eq_true (by omega)
                    have t7 : (1 : Int) ≤ (k : Int) := by omega
                    have t8 : (k : Int) ≤ (qs.length : Int) := by omega
                    have HP := Lib.hid (okQ_ix (show k - 1 < qs.length by omega) (allN_yes.1 hq.out (k - 1) (by omega)))
                    rw [show (k == 0) = false by simp; omega] at HK2
                    obtain ⟨p, hp⟩ : ∃ p, Hid (qs[k - 1] = p) := ⟨_, Lib.hid rfl⟩
                    rw [hp.out] at p0 p1 p2 HP HK2
                    clear ha' hk0 hp
                    rcases Bool.eq_false_or_eq_true (lackB xs p) with hl | hl
                    · have HN := Lib.hid (pendB_no (rs := xs) hlt (show okQ xs qs k = false by rw [HK2, hl]; rfl))
                      clear hq HK HK2
                      refine wp_region_noPanic ?_
                      refine wp_region_held_drew (S := (fun w' => Below w1.heap.size w1 w' ∧ w'.cell? (a.add ((k - 1) * 3)) = some (.int .i64 p.r) ∧ w'.cell? ⟨(a.add ((k - 1) * 3)).block, (a.add ((k - 1) * 3)).off + 1, none⟩ = some (.int .i64 p.m) ∧ w'.cell? ⟨(a.add ((k - 1) * 3)).block, (a.add ((k - 1) * 3)).off + 2, none⟩ = some (.bool p.s) ∧ w'.cell? ⟨(b.add (j * 7)).block, (b.add (j * 7)).off + 2, none⟩ = some (.int .i64 x.rk))) (by kernel_rfl) ?_ (fun hHeld => ?_)
                      · ((try dsimp only); (first | exact ⟨HB2.out, (HB2.out.cell (World.block_lt_of_cell? _ _ p0)).trans p0, (HB2.out.cell (World.block_lt_of_cell? _ _ p1)).trans p1, (HB2.out.cell (World.block_lt_of_cell? _ _ p2)).trans p2, (HB2.out.cell (World.block_lt_of_cell? _ _ x2)).trans x2⟩ | exact ⟨HB1.out, (HB1.out.cell (World.block_lt_of_cell? _ _ p0)).trans p0, (HB1.out.cell (World.block_lt_of_cell? _ _ p1)).trans p1, (HB1.out.cell (World.block_lt_of_cell? _ _ p2)).trans p2, (HB1.out.cell (World.block_lt_of_cell? _ _ x2)).trans x2⟩ | exact ⟨(Below.refl _ _).drew, p0, p1, p2, x2⟩))
                      refine take_yes (i := 0) (d := 54) (v := ?_) rfl rfl (by kernel_rfl) (by kernel_rfl) (by kernel_rfl) (fun _ _ _ h => h) (by kernel_rfl) ?_ hHeld ?_
                      rotate_left
                      · (intro w hSw; (try dsimp only at hSw); go_simp; try (with_reducible rfl))
                      try simp only [Act.put, List.setIfInBounds_toArray, List.set_cons_zero, List.set_cons_succ]
                      refine take_yes (i := 1) (d := 55) (v := ?_) rfl rfl (by kernel_rfl) (by kernel_rfl) (by kernel_rfl) (fun _ _ _ h => h) (by kernel_rfl) ?_ hHeld ?_
                      rotate_left
                      · (intro w hSw; (try dsimp only at hSw); go_simp; try (with_reducible rfl))
                      try simp only [Act.put, List.setIfInBounds_toArray, List.set_cons_zero, List.set_cons_succ]
                      refine take_yes (i := 2) (d := 56) (v := ?_) rfl rfl (by kernel_rfl) (by kernel_rfl) (by kernel_rfl) (fun _ _ _ h => h) (by kernel_rfl) ?_ hHeld ?_
                      rotate_left
                      · (intro w hSw; (try dsimp only at hSw); go_simp; try (with_reducible rfl))
                      try simp only [Act.put, List.setIfInBounds_toArray, List.set_cons_zero, List.set_cons_succ]
                      refine take_yes (i := 3) (d := 57) (v := ?_) rfl rfl (by kernel_rfl) (by kernel_rfl) (by kernel_rfl) (fun _ _ _ h => h) (by kernel_rfl) ?_ hHeld ?_
                      rotate_left
                      · (intro w hSw; (try dsimp only at hSw); go_simp; try (with_reducible rfl))
                      try simp only [Act.put, List.setIfInBounds_toArray, List.set_cons_zero, List.set_cons_succ]
                      refine take_yes (i := 4) (d := 58) (v := ?_) rfl rfl (by kernel_rfl) (by kernel_rfl) (by kernel_rfl) (fun _ _ _ h => h) (by kernel_rfl) ?_ hHeld ?_
                      rotate_left
                      · (intro w hSw; (try dsimp only at hSw); go_simp; try (with_reducible rfl))
                      try simp only [Act.put, List.setIfInBounds_toArray, List.set_cons_zero, List.set_cons_succ]
                      refine take_yes (i := 5) (d := 59) (v := ?_) rfl rfl (by kernel_rfl) (by kernel_rfl) (by kernel_rfl) (fun _ _ _ h => h) (by kernel_rfl) ?_ hHeld ?_
                      rotate_left
                      · (intro w hSw; (try dsimp only at hSw); go_simp; try (with_reducible rfl))
                      try simp only [Act.put, List.setIfInBounds_toArray, List.set_cons_zero, List.set_cons_succ]
                      refine take_yes (i := 6) (d := 60) (v := ?_) rfl rfl (by kernel_rfl) (by kernel_rfl) (by kernel_rfl) (fun _ _ _ h => h) (by kernel_rfl) ?_ hHeld ?_
                      rotate_left
                      · (intro w hSw; (try dsimp only at hSw); go_simp; try (with_reducible rfl))
                      try simp only [Act.put, List.setIfInBounds_toArray, List.set_cons_zero, List.set_cons_succ]
                      refine take_yes (i := 7) (d := 61) (v := ?_) rfl rfl (by kernel_rfl) (by kernel_rfl) (by kernel_rfl) (fun _ _ _ h => h) (by kernel_rfl) ?_ hHeld ?_
                      rotate_left
                      · (intro w hSw; (try dsimp only at hSw); go_simp; try (with_reducible rfl))
                      try simp only [Act.put, List.setIfInBounds_toArray, List.set_cons_zero, List.set_cons_succ]
                      refine take_yes (i := 8) (d := 62) (v := ?_) rfl rfl (by kernel_rfl) (by kernel_rfl) (by kernel_rfl) (fun _ _ _ h => h) (by kernel_rfl) ?_ hHeld ?_
                      rotate_left
                      · (intro w hSw; (try dsimp only at hSw); go_simp; try (with_reducible rfl))
                      try simp only [Act.put, List.setIfInBounds_toArray, List.set_cons_zero, List.set_cons_succ]
                      refine wpAnyH_ready (rs := [9]) (by kernel_rfl) (by simp) ?_
                      refine AllReadyH.cons rfl (fun K hK => ?_) AllReadyH.nil
                      go_simp
                      (go_at_call 74; refine (l7Lacks_at (some b) c xs p _ (HA.out.below (below_drewN HW1.out 1)) hm HP.out).mono ?_; rintro e w4 ⟨rfl, hb⟩; rw [hl]; have HB1 := Lib.hid ((below_drewN (Below.refl w1.heap.size w1) 1).trans hb); clear hb)
                      (first | refine hK.out _ _ ?_ (fun hHeld1 => ?_) | (go_wp2_with fail; refine hK.out _ _ ?_ (fun hHeld1 => ?_)))
                      · ((try dsimp only); (first | exact ⟨HB2.out, (HB2.out.cell (World.block_lt_of_cell? _ _ p0)).trans p0, (HB2.out.cell (World.block_lt_of_cell? _ _ p1)).trans p1, (HB2.out.cell (World.block_lt_of_cell? _ _ p2)).trans p2, (HB2.out.cell (World.block_lt_of_cell? _ _ x2)).trans x2⟩ | exact ⟨HB1.out, (HB1.out.cell (World.block_lt_of_cell? _ _ p0)).trans p0, (HB1.out.cell (World.block_lt_of_cell? _ _ p1)).trans p1, (HB1.out.cell (World.block_lt_of_cell? _ _ p2)).trans p2, (HB1.out.cell (World.block_lt_of_cell? _ _ x2)).trans x2⟩ | exact ⟨(Below.refl _ _).drew, p0, p1, p2, x2⟩))
                      clear hK K hHeld
                      have hHeld := hHeld1
                      clear hHeld1
                      try simp only [Act.put, List.setIfInBounds_toArray, List.set_cons_zero, List.set_cons_succ]
                      refine take_yes (i := 10) (d := 64) (v := ?_) rfl rfl (by kernel_rfl) (by kernel_rfl) (by kernel_rfl) (fun _ _ _ h => h) (by kernel_rfl) ?_ hHeld ?_
                      rotate_left
                      · (intro w hSw; (try dsimp only at hSw); go_simp; try (with_reducible rfl))
                      try simp only [Act.put, List.setIfInBounds_toArray, List.set_cons_zero, List.set_cons_succ]
                      refine take_no (i := 11) (d := 65) rfl rfl (by kernel_rfl) (by kernel_rfl) (by kernel_rfl) (fun _ _ _ h => h) (by kernel_rfl) hHeld ?_
                      try simp only [Act.put, List.setIfInBounds_toArray, List.set_cons_zero, List.set_cons_succ]
                      refine take_no (i := 12) (d := 66) rfl rfl (by kernel_rfl) (by kernel_rfl) (by kernel_rfl) (fun _ _ _ h => h) (by kernel_rfl) hHeld ?_
                      try simp only [Act.put, List.setIfInBounds_toArray, List.set_cons_zero, List.set_cons_succ]
                      refine take_no (i := 13) (d := 67) rfl rfl (by kernel_rfl) (by kernel_rfl) (by kernel_rfl) (fun _ _ _ h => h) (by kernel_rfl) hHeld ?_
                      try simp only [Act.put, List.setIfInBounds_toArray, List.set_cons_zero, List.set_cons_succ]
                      refine take_no (i := 14) (d := 68) rfl rfl (by kernel_rfl) (by kernel_rfl) (by kernel_rfl) (fun _ _ _ h => h) (by kernel_rfl) hHeld ?_
                      try simp only [Act.put, List.setIfInBounds_toArray, List.set_cons_zero, List.set_cons_succ]
                      refine take_no (i := 15) (d := 69) rfl rfl (by kernel_rfl) (by kernel_rfl) (by kernel_rfl) (fun _ _ _ h => h) (by kernel_rfl) hHeld ?_
                      try simp only [Act.put, List.setIfInBounds_toArray, List.set_cons_zero, List.set_cons_succ]
                      refine take_no (i := 16) (d := 70) rfl rfl (by kernel_rfl) (by kernel_rfl) (by kernel_rfl) (fun _ _ _ h => h) (by kernel_rfl) hHeld ?_
                      try simp only [Act.put, List.setIfInBounds_toArray, List.set_cons_zero, List.set_cons_succ]
                      refine take_no (i := 17) (d := 71) rfl rfl (by kernel_rfl) (by kernel_rfl) (by kernel_rfl) (fun _ _ _ h => h) (by kernel_rfl) hHeld ?_
                      try simp only [Act.put, List.setIfInBounds_toArray, List.set_cons_zero, List.set_cons_succ]
                      refine take_no (i := 18) (d := 72) rfl rfl (by kernel_rfl) (by kernel_rfl) (by kernel_rfl) (fun _ _ _ h => h) (by kernel_rfl) hHeld ?_
                      try simp only [Act.put, List.setIfInBounds_toArray, List.set_cons_zero, List.set_cons_succ]
                      refine take_no (i := 19) (d := 73) rfl rfl (by kernel_rfl) (by kernel_rfl) (by kernel_rfl) (fun _ _ _ h => h) (by kernel_rfl) hHeld ?_
                      try simp only [Act.put, List.setIfInBounds_toArray, List.set_cons_zero, List.set_cons_succ]
                      refine take_no (i := 20) (d := 74) rfl rfl (by kernel_rfl) (by kernel_rfl) (by kernel_rfl) (fun _ _ _ h => h) (by kernel_rfl) hHeld ?_
                      try simp only [Act.put, List.setIfInBounds_toArray, List.set_cons_zero, List.set_cons_succ]
                      refine take_no (i := 21) (d := 75) rfl rfl (by kernel_rfl) (by kernel_rfl) (by kernel_rfl) (fun _ _ _ h => h) (by kernel_rfl) hHeld ?_
                      try simp only [Act.put, List.setIfInBounds_toArray, List.set_cons_zero, List.set_cons_succ]
                      refine take_no (i := 22) (d := 76) rfl rfl (by kernel_rfl) (by kernel_rfl) (by kernel_rfl) (fun _ _ _ h => h) (by kernel_rfl) hHeld ?_
                      try simp only [Act.put, List.setIfInBounds_toArray, List.set_cons_zero, List.set_cons_succ]
                      refine take_no (i := 23) (d := 77) rfl rfl (by kernel_rfl) (by kernel_rfl) (by kernel_rfl) (fun _ _ _ h => h) (by kernel_rfl) hHeld ?_
                      try simp only [Act.put, List.setIfInBounds_toArray, List.set_cons_zero, List.set_cons_succ]
                      refine take_yes (i := 24) (d := 78) (v := ?_) rfl rfl (by kernel_rfl) (by kernel_rfl) (by kernel_rfl) (fun _ _ _ h => h) (by kernel_rfl) ?_ hHeld ?_
                      rotate_left
                      · (intro w hSw; (try dsimp only at hSw); go_simp; try (with_reducible rfl))
                      try simp only [Act.put, List.setIfInBounds_toArray, List.set_cons_zero, List.set_cons_succ]
                      refine take_yes (i := 25) (d := 79) (v := ?_) rfl rfl (by kernel_rfl) (by kernel_rfl) (by kernel_rfl) (fun _ _ _ h => h) (by kernel_rfl) ?_ hHeld ?_
                      rotate_left
                      · (intro w hSw; (try dsimp only at hSw); go_simp; try (with_reducible rfl))
                      try simp only [Act.put, List.setIfInBounds_toArray, List.set_cons_zero, List.set_cons_succ]
                      refine wpAnyH_done (by kernel_rfl) ?_ _
                      refine NoPanic.normal ?_
                      go_wp2
                      go_ret
                      exact ⟨ret_bool HN.out.symm, HW1.out.trans (HB1.out.mono HW1.out.size)⟩
                    · by_cases hr2 : x.rk ≤ (ruleAt xs p).rk
                      · have HN := Lib.hid (pendB_no (rs := xs) hlt (show okQ xs qs k = false by rw [HK2, hl, decide_eq_true hr2]; rfl))
                        have hg : decide (x.rk ≤ (ruleAt xs p).rk) = true := decide_eq_true hr2
                        clear hq HK HK2 hr2
                        refine wp_region_noPanic ?_
                        refine wp_region_held_drew (S := (fun w' => Below w1.heap.size w1 w' ∧ w'.cell? (a.add ((k - 1) * 3)) = some (.int .i64 p.r) ∧ w'.cell? ⟨(a.add ((k - 1) * 3)).block, (a.add ((k - 1) * 3)).off + 1, none⟩ = some (.int .i64 p.m) ∧ w'.cell? ⟨(a.add ((k - 1) * 3)).block, (a.add ((k - 1) * 3)).off + 2, none⟩ = some (.bool p.s) ∧ w'.cell? ⟨(b.add (j * 7)).block, (b.add (j * 7)).off + 2, none⟩ = some (.int .i64 x.rk))) (by kernel_rfl) ?_ (fun hHeld => ?_)
                        · ((try dsimp only); (first | exact ⟨HB2.out, (HB2.out.cell (World.block_lt_of_cell? _ _ p0)).trans p0, (HB2.out.cell (World.block_lt_of_cell? _ _ p1)).trans p1, (HB2.out.cell (World.block_lt_of_cell? _ _ p2)).trans p2, (HB2.out.cell (World.block_lt_of_cell? _ _ x2)).trans x2⟩ | exact ⟨HB1.out, (HB1.out.cell (World.block_lt_of_cell? _ _ p0)).trans p0, (HB1.out.cell (World.block_lt_of_cell? _ _ p1)).trans p1, (HB1.out.cell (World.block_lt_of_cell? _ _ p2)).trans p2, (HB1.out.cell (World.block_lt_of_cell? _ _ x2)).trans x2⟩ | exact ⟨(Below.refl _ _).drew, p0, p1, p2, x2⟩))
                        refine take_yes (i := 0) (d := 54) (v := ?_) rfl rfl (by kernel_rfl) (by kernel_rfl) (by kernel_rfl) (fun _ _ _ h => h) (by kernel_rfl) ?_ hHeld ?_
                        rotate_left
                        · (intro w hSw; (try dsimp only at hSw); go_simp; try (with_reducible rfl))
                        try simp only [Act.put, List.setIfInBounds_toArray, List.set_cons_zero, List.set_cons_succ]
                        refine take_yes (i := 1) (d := 55) (v := ?_) rfl rfl (by kernel_rfl) (by kernel_rfl) (by kernel_rfl) (fun _ _ _ h => h) (by kernel_rfl) ?_ hHeld ?_
                        rotate_left
                        · (intro w hSw; (try dsimp only at hSw); go_simp; try (with_reducible rfl))
                        try simp only [Act.put, List.setIfInBounds_toArray, List.set_cons_zero, List.set_cons_succ]
                        refine take_yes (i := 2) (d := 56) (v := ?_) rfl rfl (by kernel_rfl) (by kernel_rfl) (by kernel_rfl) (fun _ _ _ h => h) (by kernel_rfl) ?_ hHeld ?_
                        rotate_left
                        · (intro w hSw; (try dsimp only at hSw); go_simp; try (with_reducible rfl))
                        try simp only [Act.put, List.setIfInBounds_toArray, List.set_cons_zero, List.set_cons_succ]
                        refine take_yes (i := 3) (d := 57) (v := ?_) rfl rfl (by kernel_rfl) (by kernel_rfl) (by kernel_rfl) (fun _ _ _ h => h) (by kernel_rfl) ?_ hHeld ?_
                        rotate_left
                        · (intro w hSw; (try dsimp only at hSw); go_simp; try (with_reducible rfl))
                        try simp only [Act.put, List.setIfInBounds_toArray, List.set_cons_zero, List.set_cons_succ]
                        refine take_yes (i := 4) (d := 58) (v := ?_) rfl rfl (by kernel_rfl) (by kernel_rfl) (by kernel_rfl) (fun _ _ _ h => h) (by kernel_rfl) ?_ hHeld ?_
                        rotate_left
                        · (intro w hSw; (try dsimp only at hSw); go_simp; try (with_reducible rfl))
                        try simp only [Act.put, List.setIfInBounds_toArray, List.set_cons_zero, List.set_cons_succ]
                        refine take_yes (i := 5) (d := 59) (v := ?_) rfl rfl (by kernel_rfl) (by kernel_rfl) (by kernel_rfl) (fun _ _ _ h => h) (by kernel_rfl) ?_ hHeld ?_
                        rotate_left
                        · (intro w hSw; (try dsimp only at hSw); go_simp; try (with_reducible rfl))
                        try simp only [Act.put, List.setIfInBounds_toArray, List.set_cons_zero, List.set_cons_succ]
                        refine take_yes (i := 6) (d := 60) (v := ?_) rfl rfl (by kernel_rfl) (by kernel_rfl) (by kernel_rfl) (fun _ _ _ h => h) (by kernel_rfl) ?_ hHeld ?_
                        rotate_left
                        · (intro w hSw; (try dsimp only at hSw); go_simp; try (with_reducible rfl))
                        try simp only [Act.put, List.setIfInBounds_toArray, List.set_cons_zero, List.set_cons_succ]
                        refine take_yes (i := 7) (d := 61) (v := ?_) rfl rfl (by kernel_rfl) (by kernel_rfl) (by kernel_rfl) (fun _ _ _ h => h) (by kernel_rfl) ?_ hHeld ?_
                        rotate_left
                        · (intro w hSw; (try dsimp only at hSw); go_simp; try (with_reducible rfl))
                        try simp only [Act.put, List.setIfInBounds_toArray, List.set_cons_zero, List.set_cons_succ]
                        refine take_yes (i := 8) (d := 62) (v := ?_) rfl rfl (by kernel_rfl) (by kernel_rfl) (by kernel_rfl) (fun _ _ _ h => h) (by kernel_rfl) ?_ hHeld ?_
                        rotate_left
                        · (intro w hSw; (try dsimp only at hSw); go_simp; try (with_reducible rfl))
                        try simp only [Act.put, List.setIfInBounds_toArray, List.set_cons_zero, List.set_cons_succ]
                        refine wpAnyH_ready (rs := [9]) (by kernel_rfl) (by simp) ?_
                        refine AllReadyH.cons rfl (fun K hK => ?_) AllReadyH.nil
                        go_simp
                        (go_at_call 74; refine (l7Lacks_at (some b) c xs p _ (HA.out.below (below_drewN HW1.out 1)) hm HP.out).mono ?_; rintro e w4 ⟨rfl, hb⟩; rw [hl]; have HB1 := Lib.hid ((below_drewN (Below.refl w1.heap.size w1) 1).trans hb); clear hb)
                        (first | refine hK.out _ _ ?_ (fun hHeld1 => ?_) | (go_wp2_with fail; refine hK.out _ _ ?_ (fun hHeld1 => ?_)))
                        · ((try dsimp only); (first | exact ⟨HB2.out, (HB2.out.cell (World.block_lt_of_cell? _ _ p0)).trans p0, (HB2.out.cell (World.block_lt_of_cell? _ _ p1)).trans p1, (HB2.out.cell (World.block_lt_of_cell? _ _ p2)).trans p2, (HB2.out.cell (World.block_lt_of_cell? _ _ x2)).trans x2⟩ | exact ⟨HB1.out, (HB1.out.cell (World.block_lt_of_cell? _ _ p0)).trans p0, (HB1.out.cell (World.block_lt_of_cell? _ _ p1)).trans p1, (HB1.out.cell (World.block_lt_of_cell? _ _ p2)).trans p2, (HB1.out.cell (World.block_lt_of_cell? _ _ x2)).trans x2⟩ | exact ⟨(Below.refl _ _).drew, p0, p1, p2, x2⟩))
                        clear hK K hHeld
                        have hHeld := hHeld1
                        clear hHeld1
                        try simp only [Act.put, List.setIfInBounds_toArray, List.set_cons_zero, List.set_cons_succ]
                        refine take_yes (i := 10) (d := 64) (v := ?_) rfl rfl (by kernel_rfl) (by kernel_rfl) (by kernel_rfl) (fun _ _ _ h => h) (by kernel_rfl) ?_ hHeld ?_
                        rotate_left
                        · (intro w hSw; (try dsimp only at hSw); go_simp; try (with_reducible rfl))
                        try simp only [Act.put, List.setIfInBounds_toArray, List.set_cons_zero, List.set_cons_succ]
                        refine take_yes (i := 11) (d := 65) (v := ?_) rfl rfl (by kernel_rfl) (by kernel_rfl) (by kernel_rfl) (fun _ _ _ h => h) (by kernel_rfl) ?_ hHeld ?_
                        rotate_left
                        · (intro w hSw; (try dsimp only at hSw); go_simp; try (with_reducible rfl))
                        try simp only [Act.put, List.setIfInBounds_toArray, List.set_cons_zero, List.set_cons_succ]
                        refine take_yes (i := 12) (d := 66) (v := ?_) rfl rfl (by kernel_rfl) (by kernel_rfl) (by kernel_rfl) (fun _ _ _ h => h) (by kernel_rfl) ?_ hHeld ?_
                        rotate_left
                        · (intro w hSw; (try dsimp only at hSw); go_simp; try (with_reducible rfl))
                        try simp only [Act.put, List.setIfInBounds_toArray, List.set_cons_zero, List.set_cons_succ]
                        refine take_yes (i := 13) (d := 67) (v := ?_) rfl rfl (by kernel_rfl) (by kernel_rfl) (by kernel_rfl) (fun _ _ _ h => h) (by kernel_rfl) ?_ hHeld ?_
                        rotate_left
                        · (intro w hSw; (try dsimp only at hSw); go_simp; try (with_reducible rfl))
                        try simp only [Act.put, List.setIfInBounds_toArray, List.set_cons_zero, List.set_cons_succ]
                        refine take_yes (i := 14) (d := 68) (v := ?_) rfl rfl (by kernel_rfl) (by kernel_rfl) (by kernel_rfl) (fun _ _ _ h => h) (by kernel_rfl) ?_ hHeld ?_
                        rotate_left
                        · (intro w hSw; (try dsimp only at hSw); go_simp; try (with_reducible rfl))
                        try simp only [Act.put, List.setIfInBounds_toArray, List.set_cons_zero, List.set_cons_succ]
                        refine take_yes (i := 15) (d := 69) (v := ?_) rfl rfl (by kernel_rfl) (by kernel_rfl) (by kernel_rfl) (fun _ _ _ h => h) (by kernel_rfl) ?_ hHeld ?_
                        rotate_left
                        · (intro w hSw; (try dsimp only at hSw); go_simp; try (with_reducible rfl))
                        try simp only [Act.put, List.setIfInBounds_toArray, List.set_cons_zero, List.set_cons_succ]
                        refine take_yes (i := 16) (d := 70) (v := ?_) rfl rfl (by kernel_rfl) (by kernel_rfl) (by kernel_rfl) (fun _ _ _ h => h) (by kernel_rfl) ?_ hHeld ?_
                        rotate_left
                        · (intro w hSw; (try dsimp only at hSw); go_simp; try (with_reducible rfl))
                        try simp only [Act.put, List.setIfInBounds_toArray, List.set_cons_zero, List.set_cons_succ]
                        refine take_yes (i := 18) (d := 72) (v := ?_) rfl rfl (by kernel_rfl) (by kernel_rfl) (by kernel_rfl) (fun _ _ _ h => h) (by kernel_rfl) ?_ hHeld ?_
                        rotate_left
                        · (intro w hSw; (try dsimp only at hSw); go_simp; try (with_reducible rfl))
                        try simp only [Act.put, List.setIfInBounds_toArray, List.set_cons_zero, List.set_cons_succ]
                        refine take_yes (i := 19) (d := 73) (v := ?_) rfl rfl (by kernel_rfl) (by kernel_rfl) (by kernel_rfl) (fun _ _ _ h => h) (by kernel_rfl) ?_ hHeld ?_
                        rotate_left
                        · (intro w hSw; (try dsimp only at hSw); go_simp; try (with_reducible rfl))
                        try simp only [Act.put, List.setIfInBounds_toArray, List.set_cons_zero, List.set_cons_succ]
                        refine take_yes (i := 20) (d := 74) (v := ?_) rfl rfl (by kernel_rfl) (by kernel_rfl) (by kernel_rfl) (fun _ _ _ h => h) (by kernel_rfl) ?_ hHeld ?_
                        rotate_left
                        · (intro w hSw; (try dsimp only at hSw); go_simp; try (with_reducible rfl))
                        try simp only [Act.put, List.setIfInBounds_toArray, List.set_cons_zero, List.set_cons_succ]
                        refine take_yes (i := 21) (d := 75) (v := ?_) rfl rfl (by kernel_rfl) (by kernel_rfl) (by kernel_rfl) (fun _ _ _ h => h) (by kernel_rfl) ?_ hHeld ?_
                        rotate_left
                        · (intro w hSw; (try dsimp only at hSw); go_simp; try (with_reducible rfl))
                        try simp only [Act.put, List.setIfInBounds_toArray, List.set_cons_zero, List.set_cons_succ]
                        refine take_yes (i := 22) (d := 76) (v := ?_) rfl rfl (by kernel_rfl) (by kernel_rfl) (by kernel_rfl) (fun _ _ _ h => h) (by kernel_rfl) ?_ hHeld ?_
                        rotate_left
                        · (intro w hSw; (try dsimp only at hSw); go_simp; try (with_reducible rfl))
                        try simp only [Act.put, List.setIfInBounds_toArray, List.set_cons_zero, List.set_cons_succ]
                        refine wpAnyH_ready (rs := [17]) (by kernel_rfl) (by simp) ?_
                        refine AllReadyH.cons rfl (fun K hK => ?_) AllReadyH.nil
                        go_simp
                        (go_at_call 124; refine (l7Rank_at (some b) c xs p _ ((HA.out.below HW1.out).below HB1.out) hm HP.out).mono ?_; rintro e w5 ⟨rfl, hb⟩; have HB2 := Lib.hid (HB1.out.trans (hb.mono HB1.out.size)); clear hb)
                        (first | refine hK.out _ _ ?_ (fun hHeld1 => ?_) | (go_wp2_with fail; refine hK.out _ _ ?_ (fun hHeld1 => ?_)))
                        · ((try dsimp only); (first | exact ⟨HB2.out, (HB2.out.cell (World.block_lt_of_cell? _ _ p0)).trans p0, (HB2.out.cell (World.block_lt_of_cell? _ _ p1)).trans p1, (HB2.out.cell (World.block_lt_of_cell? _ _ p2)).trans p2, (HB2.out.cell (World.block_lt_of_cell? _ _ x2)).trans x2⟩ | exact ⟨HB1.out, (HB1.out.cell (World.block_lt_of_cell? _ _ p0)).trans p0, (HB1.out.cell (World.block_lt_of_cell? _ _ p1)).trans p1, (HB1.out.cell (World.block_lt_of_cell? _ _ p2)).trans p2, (HB1.out.cell (World.block_lt_of_cell? _ _ x2)).trans x2⟩ | exact ⟨(Below.refl _ _).drew, p0, p1, p2, x2⟩))
                        clear hK K hHeld
                        have hHeld := hHeld1
                        clear hHeld1
                        try simp only [Act.put, List.setIfInBounds_toArray, List.set_cons_zero, List.set_cons_succ]
                        refine take_yes (i := 23) (d := 77) (v := ?_) rfl rfl (by kernel_rfl) (by kernel_rfl) (by kernel_rfl) (fun _ _ _ h => h) (by kernel_rfl) ?_ hHeld ?_
                        rotate_left
                        · (intro w hSw; (try dsimp only at hSw); go_simp; try (with_reducible rfl))
                        try simp only [Act.put, List.setIfInBounds_toArray, List.set_cons_zero, List.set_cons_succ]
                        refine take_yes (i := 24) (d := 78) (v := ?_) rfl rfl (by kernel_rfl) (by kernel_rfl) (by kernel_rfl) (fun _ _ _ h => h) (by kernel_rfl) ?_ hHeld ?_
                        rotate_left
                        · (intro w hSw; (try dsimp only at hSw); go_simp; try (with_reducible rfl))
                        try simp only [Act.put, List.setIfInBounds_toArray, List.set_cons_zero, List.set_cons_succ]
                        refine take_yes (i := 25) (d := 79) (v := ?_) rfl rfl (by kernel_rfl) (by kernel_rfl) (by kernel_rfl) (fun _ _ _ h => h) (by kernel_rfl) ?_ hHeld ?_
                        rotate_left
                        · (intro w hSw; (try dsimp only at hSw); go_simp; try (with_reducible rfl))
                        try simp only [Act.put, List.setIfInBounds_toArray, List.set_cons_zero, List.set_cons_succ]
                        refine wpAnyH_done (by kernel_rfl) ?_ _
                        refine NoPanic.normal ?_
                        go_wp2
                        go_ret
                        exact ⟨ret_bool HN.out.symm, HW1.out.trans (HB2.out.mono HW1.out.size)⟩
                      · have HS := Lib.hid (allN_step hq.out (show okQ xs qs k = true by rw [HK2, hl, decide_eq_false hr2]; rfl))
                        have hg : decide (x.rk ≤ (ruleAt xs p).rk) = false := decide_eq_false hr2
                        clear hq HK HK2 hr2
                        refine wp_region_noPanic ?_
                        refine wp_region_held_drew (S := (fun w' => Below w1.heap.size w1 w' ∧ w'.cell? (a.add ((k - 1) * 3)) = some (.int .i64 p.r) ∧ w'.cell? ⟨(a.add ((k - 1) * 3)).block, (a.add ((k - 1) * 3)).off + 1, none⟩ = some (.int .i64 p.m) ∧ w'.cell? ⟨(a.add ((k - 1) * 3)).block, (a.add ((k - 1) * 3)).off + 2, none⟩ = some (.bool p.s) ∧ w'.cell? ⟨(b.add (j * 7)).block, (b.add (j * 7)).off + 2, none⟩ = some (.int .i64 x.rk))) (by kernel_rfl) ?_ (fun hHeld => ?_)
                        · ((try dsimp only); (first | exact ⟨HB2.out, (HB2.out.cell (World.block_lt_of_cell? _ _ p0)).trans p0, (HB2.out.cell (World.block_lt_of_cell? _ _ p1)).trans p1, (HB2.out.cell (World.block_lt_of_cell? _ _ p2)).trans p2, (HB2.out.cell (World.block_lt_of_cell? _ _ x2)).trans x2⟩ | exact ⟨HB1.out, (HB1.out.cell (World.block_lt_of_cell? _ _ p0)).trans p0, (HB1.out.cell (World.block_lt_of_cell? _ _ p1)).trans p1, (HB1.out.cell (World.block_lt_of_cell? _ _ p2)).trans p2, (HB1.out.cell (World.block_lt_of_cell? _ _ x2)).trans x2⟩ | exact ⟨(Below.refl _ _).drew, p0, p1, p2, x2⟩))
                        refine take_yes (i := 0) (d := 54) (v := ?_) rfl rfl (by kernel_rfl) (by kernel_rfl) (by kernel_rfl) (fun _ _ _ h => h) (by kernel_rfl) ?_ hHeld ?_
                        rotate_left
                        · (intro w hSw; (try dsimp only at hSw); go_simp; try (with_reducible rfl))
                        try simp only [Act.put, List.setIfInBounds_toArray, List.set_cons_zero, List.set_cons_succ]
                        refine take_yes (i := 1) (d := 55) (v := ?_) rfl rfl (by kernel_rfl) (by kernel_rfl) (by kernel_rfl) (fun _ _ _ h => h) (by kernel_rfl) ?_ hHeld ?_
                        rotate_left
                        · (intro w hSw; (try dsimp only at hSw); go_simp; try (with_reducible rfl))
                        try simp only [Act.put, List.setIfInBounds_toArray, List.set_cons_zero, List.set_cons_succ]
                        refine take_yes (i := 2) (d := 56) (v := ?_) rfl rfl (by kernel_rfl) (by kernel_rfl) (by kernel_rfl) (fun _ _ _ h => h) (by kernel_rfl) ?_ hHeld ?_
                        rotate_left
                        · (intro w hSw; (try dsimp only at hSw); go_simp; try (with_reducible rfl))
                        try simp only [Act.put, List.setIfInBounds_toArray, List.set_cons_zero, List.set_cons_succ]
                        refine take_yes (i := 3) (d := 57) (v := ?_) rfl rfl (by kernel_rfl) (by kernel_rfl) (by kernel_rfl) (fun _ _ _ h => h) (by kernel_rfl) ?_ hHeld ?_
                        rotate_left
                        · (intro w hSw; (try dsimp only at hSw); go_simp; try (with_reducible rfl))
                        try simp only [Act.put, List.setIfInBounds_toArray, List.set_cons_zero, List.set_cons_succ]
                        refine take_yes (i := 4) (d := 58) (v := ?_) rfl rfl (by kernel_rfl) (by kernel_rfl) (by kernel_rfl) (fun _ _ _ h => h) (by kernel_rfl) ?_ hHeld ?_
                        rotate_left
                        · (intro w hSw; (try dsimp only at hSw); go_simp; try (with_reducible rfl))
                        try simp only [Act.put, List.setIfInBounds_toArray, List.set_cons_zero, List.set_cons_succ]
                        refine take_yes (i := 5) (d := 59) (v := ?_) rfl rfl (by kernel_rfl) (by kernel_rfl) (by kernel_rfl) (fun _ _ _ h => h) (by kernel_rfl) ?_ hHeld ?_
                        rotate_left
                        · (intro w hSw; (try dsimp only at hSw); go_simp; try (with_reducible rfl))
                        try simp only [Act.put, List.setIfInBounds_toArray, List.set_cons_zero, List.set_cons_succ]
                        refine take_yes (i := 6) (d := 60) (v := ?_) rfl rfl (by kernel_rfl) (by kernel_rfl) (by kernel_rfl) (fun _ _ _ h => h) (by kernel_rfl) ?_ hHeld ?_
                        rotate_left
                        · (intro w hSw; (try dsimp only at hSw); go_simp; try (with_reducible rfl))
                        try simp only [Act.put, List.setIfInBounds_toArray, List.set_cons_zero, List.set_cons_succ]
                        refine take_yes (i := 7) (d := 61) (v := ?_) rfl rfl (by kernel_rfl) (by kernel_rfl) (by kernel_rfl) (fun _ _ _ h => h) (by kernel_rfl) ?_ hHeld ?_
                        rotate_left
                        · (intro w hSw; (try dsimp only at hSw); go_simp; try (with_reducible rfl))
                        try simp only [Act.put, List.setIfInBounds_toArray, List.set_cons_zero, List.set_cons_succ]
                        refine take_yes (i := 8) (d := 62) (v := ?_) rfl rfl (by kernel_rfl) (by kernel_rfl) (by kernel_rfl) (fun _ _ _ h => h) (by kernel_rfl) ?_ hHeld ?_
                        rotate_left
                        · (intro w hSw; (try dsimp only at hSw); go_simp; try (with_reducible rfl))
                        try simp only [Act.put, List.setIfInBounds_toArray, List.set_cons_zero, List.set_cons_succ]
                        refine wpAnyH_ready (rs := [9]) (by kernel_rfl) (by simp) ?_
                        refine AllReadyH.cons rfl (fun K hK => ?_) AllReadyH.nil
                        go_simp
                        (go_at_call 74; refine (l7Lacks_at (some b) c xs p _ (HA.out.below (below_drewN HW1.out 1)) hm HP.out).mono ?_; rintro e w4 ⟨rfl, hb⟩; rw [hl]; have HB1 := Lib.hid ((below_drewN (Below.refl w1.heap.size w1) 1).trans hb); clear hb)
                        (first | refine hK.out _ _ ?_ (fun hHeld1 => ?_) | (go_wp2_with fail; refine hK.out _ _ ?_ (fun hHeld1 => ?_)))
                        · ((try dsimp only); (first | exact ⟨HB2.out, (HB2.out.cell (World.block_lt_of_cell? _ _ p0)).trans p0, (HB2.out.cell (World.block_lt_of_cell? _ _ p1)).trans p1, (HB2.out.cell (World.block_lt_of_cell? _ _ p2)).trans p2, (HB2.out.cell (World.block_lt_of_cell? _ _ x2)).trans x2⟩ | exact ⟨HB1.out, (HB1.out.cell (World.block_lt_of_cell? _ _ p0)).trans p0, (HB1.out.cell (World.block_lt_of_cell? _ _ p1)).trans p1, (HB1.out.cell (World.block_lt_of_cell? _ _ p2)).trans p2, (HB1.out.cell (World.block_lt_of_cell? _ _ x2)).trans x2⟩ | exact ⟨(Below.refl _ _).drew, p0, p1, p2, x2⟩))
                        clear hK K hHeld
                        have hHeld := hHeld1
                        clear hHeld1
                        try simp only [Act.put, List.setIfInBounds_toArray, List.set_cons_zero, List.set_cons_succ]
                        refine take_yes (i := 10) (d := 64) (v := ?_) rfl rfl (by kernel_rfl) (by kernel_rfl) (by kernel_rfl) (fun _ _ _ h => h) (by kernel_rfl) ?_ hHeld ?_
                        rotate_left
                        · (intro w hSw; (try dsimp only at hSw); go_simp; try (with_reducible rfl))
                        try simp only [Act.put, List.setIfInBounds_toArray, List.set_cons_zero, List.set_cons_succ]
                        refine take_yes (i := 11) (d := 65) (v := ?_) rfl rfl (by kernel_rfl) (by kernel_rfl) (by kernel_rfl) (fun _ _ _ h => h) (by kernel_rfl) ?_ hHeld ?_
                        rotate_left
                        · (intro w hSw; (try dsimp only at hSw); go_simp; try (with_reducible rfl))
                        try simp only [Act.put, List.setIfInBounds_toArray, List.set_cons_zero, List.set_cons_succ]
                        refine take_yes (i := 12) (d := 66) (v := ?_) rfl rfl (by kernel_rfl) (by kernel_rfl) (by kernel_rfl) (fun _ _ _ h => h) (by kernel_rfl) ?_ hHeld ?_
                        rotate_left
                        · (intro w hSw; (try dsimp only at hSw); go_simp; try (with_reducible rfl))
                        try simp only [Act.put, List.setIfInBounds_toArray, List.set_cons_zero, List.set_cons_succ]
                        refine take_yes (i := 13) (d := 67) (v := ?_) rfl rfl (by kernel_rfl) (by kernel_rfl) (by kernel_rfl) (fun _ _ _ h => h) (by kernel_rfl) ?_ hHeld ?_
                        rotate_left
                        · (intro w hSw; (try dsimp only at hSw); go_simp; try (with_reducible rfl))
                        try simp only [Act.put, List.setIfInBounds_toArray, List.set_cons_zero, List.set_cons_succ]
                        refine take_yes (i := 14) (d := 68) (v := ?_) rfl rfl (by kernel_rfl) (by kernel_rfl) (by kernel_rfl) (fun _ _ _ h => h) (by kernel_rfl) ?_ hHeld ?_
                        rotate_left
                        · (intro w hSw; (try dsimp only at hSw); go_simp; try (with_reducible rfl))
                        try simp only [Act.put, List.setIfInBounds_toArray, List.set_cons_zero, List.set_cons_succ]
                        refine take_yes (i := 15) (d := 69) (v := ?_) rfl rfl (by kernel_rfl) (by kernel_rfl) (by kernel_rfl) (fun _ _ _ h => h) (by kernel_rfl) ?_ hHeld ?_
                        rotate_left
                        · (intro w hSw; (try dsimp only at hSw); go_simp; try (with_reducible rfl))
                        try simp only [Act.put, List.setIfInBounds_toArray, List.set_cons_zero, List.set_cons_succ]
                        refine take_yes (i := 16) (d := 70) (v := ?_) rfl rfl (by kernel_rfl) (by kernel_rfl) (by kernel_rfl) (fun _ _ _ h => h) (by kernel_rfl) ?_ hHeld ?_
                        rotate_left
                        · (intro w hSw; (try dsimp only at hSw); go_simp; try (with_reducible rfl))
                        try simp only [Act.put, List.setIfInBounds_toArray, List.set_cons_zero, List.set_cons_succ]
                        refine take_yes (i := 18) (d := 72) (v := ?_) rfl rfl (by kernel_rfl) (by kernel_rfl) (by kernel_rfl) (fun _ _ _ h => h) (by kernel_rfl) ?_ hHeld ?_
                        rotate_left
                        · (intro w hSw; (try dsimp only at hSw); go_simp; try (with_reducible rfl))
                        try simp only [Act.put, List.setIfInBounds_toArray, List.set_cons_zero, List.set_cons_succ]
                        refine take_yes (i := 19) (d := 73) (v := ?_) rfl rfl (by kernel_rfl) (by kernel_rfl) (by kernel_rfl) (fun _ _ _ h => h) (by kernel_rfl) ?_ hHeld ?_
                        rotate_left
                        · (intro w hSw; (try dsimp only at hSw); go_simp; try (with_reducible rfl))
                        try simp only [Act.put, List.setIfInBounds_toArray, List.set_cons_zero, List.set_cons_succ]
                        refine take_yes (i := 20) (d := 74) (v := ?_) rfl rfl (by kernel_rfl) (by kernel_rfl) (by kernel_rfl) (fun _ _ _ h => h) (by kernel_rfl) ?_ hHeld ?_
                        rotate_left
                        · (intro w hSw; (try dsimp only at hSw); go_simp; try (with_reducible rfl))
                        try simp only [Act.put, List.setIfInBounds_toArray, List.set_cons_zero, List.set_cons_succ]
                        refine take_yes (i := 21) (d := 75) (v := ?_) rfl rfl (by kernel_rfl) (by kernel_rfl) (by kernel_rfl) (fun _ _ _ h => h) (by kernel_rfl) ?_ hHeld ?_
                        rotate_left
                        · (intro w hSw; (try dsimp only at hSw); go_simp; try (with_reducible rfl))
                        try simp only [Act.put, List.setIfInBounds_toArray, List.set_cons_zero, List.set_cons_succ]
                        refine take_yes (i := 22) (d := 76) (v := ?_) rfl rfl (by kernel_rfl) (by kernel_rfl) (by kernel_rfl) (fun _ _ _ h => h) (by kernel_rfl) ?_ hHeld ?_
                        rotate_left
                        · (intro w hSw; (try dsimp only at hSw); go_simp; try (with_reducible rfl))
                        try simp only [Act.put, List.setIfInBounds_toArray, List.set_cons_zero, List.set_cons_succ]
                        refine wpAnyH_ready (rs := [17]) (by kernel_rfl) (by simp) ?_
                        refine AllReadyH.cons rfl (fun K hK => ?_) AllReadyH.nil
                        go_simp
                        (go_at_call 124; refine (l7Rank_at (some b) c xs p _ ((HA.out.below HW1.out).below HB1.out) hm HP.out).mono ?_; rintro e w5 ⟨rfl, hb⟩; have HB2 := Lib.hid (HB1.out.trans (hb.mono HB1.out.size)); clear hb)
                        (first | refine hK.out _ _ ?_ (fun hHeld1 => ?_) | (go_wp2_with fail; refine hK.out _ _ ?_ (fun hHeld1 => ?_)))
                        · ((try dsimp only); (first | exact ⟨HB2.out, (HB2.out.cell (World.block_lt_of_cell? _ _ p0)).trans p0, (HB2.out.cell (World.block_lt_of_cell? _ _ p1)).trans p1, (HB2.out.cell (World.block_lt_of_cell? _ _ p2)).trans p2, (HB2.out.cell (World.block_lt_of_cell? _ _ x2)).trans x2⟩ | exact ⟨HB1.out, (HB1.out.cell (World.block_lt_of_cell? _ _ p0)).trans p0, (HB1.out.cell (World.block_lt_of_cell? _ _ p1)).trans p1, (HB1.out.cell (World.block_lt_of_cell? _ _ p2)).trans p2, (HB1.out.cell (World.block_lt_of_cell? _ _ x2)).trans x2⟩ | exact ⟨(Below.refl _ _).drew, p0, p1, p2, x2⟩))
                        clear hK K hHeld
                        have hHeld := hHeld1
                        clear hHeld1
                        try simp only [Act.put, List.setIfInBounds_toArray, List.set_cons_zero, List.set_cons_succ]
                        refine take_yes (i := 23) (d := 77) (v := ?_) rfl rfl (by kernel_rfl) (by kernel_rfl) (by kernel_rfl) (fun _ _ _ h => h) (by kernel_rfl) ?_ hHeld ?_
                        rotate_left
                        · (intro w hSw; (try dsimp only at hSw); go_simp; try (with_reducible rfl))
                        try simp only [Act.put, List.setIfInBounds_toArray, List.set_cons_zero, List.set_cons_succ]
                        refine take_yes (i := 24) (d := 78) (v := ?_) rfl rfl (by kernel_rfl) (by kernel_rfl) (by kernel_rfl) (fun _ _ _ h => h) (by kernel_rfl) ?_ hHeld ?_
                        rotate_left
                        · (intro w hSw; (try dsimp only at hSw); go_simp; try (with_reducible rfl))
                        try simp only [Act.put, List.setIfInBounds_toArray, List.set_cons_zero, List.set_cons_succ]
                        refine take_yes (i := 25) (d := 79) (v := ?_) rfl rfl (by kernel_rfl) (by kernel_rfl) (by kernel_rfl) (fun _ _ _ h => h) (by kernel_rfl) ?_ hHeld ?_
                        rotate_left
                        · (intro w hSw; (try dsimp only at hSw); go_simp; try (with_reducible rfl))
                        try simp only [Act.put, List.setIfInBounds_toArray, List.set_cons_zero, List.set_cons_succ]
                        refine wpAnyH_done (by kernel_rfl) ?_ _
                        refine NoPanic.normal ?_
                        go_wp2
                        go_roundw
                        case rel => exact ⟨k + 1, by omega, by go_num, HS.out, HW1.out.trans (HB2.out.mono HW1.out.size)⟩
                        case measure => simp [intOf]; omega
                · have HN := Lib.hid (pendB_no (rs := xs) hlt (show okQ xs qs k = false by rw [HK.out, hs, HRA.out, hc]; simp))
                  rw [hc] at x3
                  clear hq HK
                  go_wp2
                  go_ret
                  exact ⟨ret_bool HN.out.symm, HW1.out⟩
              · rw [hs] at q2
                go_wp2
                have HK2 : okQ xs qs k = (k == 0 || !(lackB xs (qs[k - 1]'(by omega)) || decide ((ruleAt xs q).rk ≤ (ruleAt xs (qs[k - 1]'(by omega))).rk))) := by rw [HK.out, decide_eq_true HIX.out, hmm, hs]; simp
                rw [HRA.out] at HK2
                clear hs q1 q2 x3 HRA
                by_cases hk0 : k = 0
                · have HS := Lib.hid (allN_step hq.out (show okQ xs qs k = true by rw [HK2]; simp [hk0]))
                  have q9 : decide ((0 : Int) < (k : Int)) = false := decide_eq_false (by omega)
                  have q5 : decide (0 < k) = false := decide_eq_false (by omega)
                  clear hq HK HK2 hk0
                  refine wp_region_noPanic ?_
                  refine wp_region_held_drew (S := (fun w' => Below w1.heap.size w1 w')) (by kernel_rfl) ?_ (fun hHeld => ?_)
                  · ((try dsimp only); (exact (Below.refl _ _).drew))
                  refine take_yes (i := 0) (d := 54) (v := ?_) rfl rfl (by kernel_rfl) (by kernel_rfl) (by kernel_rfl) (fun _ _ _ h => h) (by kernel_rfl) ?_ hHeld ?_
                  rotate_left
                  · (intro w hSw; (try dsimp only at hSw); go_simp; try (with_reducible rfl))
                  try simp only [Act.put, List.setIfInBounds_toArray, List.set_cons_zero, List.set_cons_succ]
                  refine take_yes (i := 1) (d := 55) (v := ?_) rfl rfl (by kernel_rfl) (by kernel_rfl) (by kernel_rfl) (fun _ _ _ h => h) (by kernel_rfl) ?_ hHeld ?_
                  rotate_left
                  · (intro w hSw; (try dsimp only at hSw); go_simp; try (with_reducible rfl))
                  try simp only [Act.put, List.setIfInBounds_toArray, List.set_cons_zero, List.set_cons_succ]
                  refine take_yes (i := 2) (d := 56) (v := ?_) rfl rfl (by kernel_rfl) (by kernel_rfl) (by kernel_rfl) (fun _ _ _ h => h) (by kernel_rfl) ?_ hHeld ?_
                  rotate_left
                  · (intro w hSw; (try dsimp only at hSw); go_simp; try (with_reducible rfl))
                  try simp only [Act.put, List.setIfInBounds_toArray, List.set_cons_zero, List.set_cons_succ]
                  refine take_no (i := 3) (d := 57) rfl rfl (by kernel_rfl) (by kernel_rfl) (by kernel_rfl) (fun _ _ _ h => h) (by kernel_rfl) hHeld ?_
                  try simp only [Act.put, List.setIfInBounds_toArray, List.set_cons_zero, List.set_cons_succ]
                  refine take_no (i := 4) (d := 58) rfl rfl (by kernel_rfl) (by kernel_rfl) (by kernel_rfl) (fun _ _ _ h => h) (by kernel_rfl) hHeld ?_
                  try simp only [Act.put, List.setIfInBounds_toArray, List.set_cons_zero, List.set_cons_succ]
                  refine take_no (i := 5) (d := 59) rfl rfl (by kernel_rfl) (by kernel_rfl) (by kernel_rfl) (fun _ _ _ h => h) (by kernel_rfl) hHeld ?_
                  try simp only [Act.put, List.setIfInBounds_toArray, List.set_cons_zero, List.set_cons_succ]
                  refine take_no (i := 6) (d := 60) rfl rfl (by kernel_rfl) (by kernel_rfl) (by kernel_rfl) (fun _ _ _ h => h) (by kernel_rfl) hHeld ?_
                  try simp only [Act.put, List.setIfInBounds_toArray, List.set_cons_zero, List.set_cons_succ]
                  refine take_no (i := 7) (d := 61) rfl rfl (by kernel_rfl) (by kernel_rfl) (by kernel_rfl) (fun _ _ _ h => h) (by kernel_rfl) hHeld ?_
                  try simp only [Act.put, List.setIfInBounds_toArray, List.set_cons_zero, List.set_cons_succ]
                  refine take_no (i := 8) (d := 62) rfl rfl (by kernel_rfl) (by kernel_rfl) (by kernel_rfl) (fun _ _ _ h => h) (by kernel_rfl) hHeld ?_
                  try simp only [Act.put, List.setIfInBounds_toArray, List.set_cons_zero, List.set_cons_succ]
                  refine take_no (i := 9) (d := 63) rfl rfl (by kernel_rfl) (by kernel_rfl) (by kernel_rfl) (fun _ _ _ h => h) (by kernel_rfl) hHeld ?_
                  try simp only [Act.put, List.setIfInBounds_toArray, List.set_cons_zero, List.set_cons_succ]
                  refine take_no (i := 10) (d := 64) rfl rfl (by kernel_rfl) (by kernel_rfl) (by kernel_rfl) (fun _ _ _ h => h) (by kernel_rfl) hHeld ?_
                  try simp only [Act.put, List.setIfInBounds_toArray, List.set_cons_zero, List.set_cons_succ]
                  refine take_no (i := 11) (d := 65) rfl rfl (by kernel_rfl) (by kernel_rfl) (by kernel_rfl) (fun _ _ _ h => h) (by kernel_rfl) hHeld ?_
                  try simp only [Act.put, List.setIfInBounds_toArray, List.set_cons_zero, List.set_cons_succ]
                  refine take_no (i := 12) (d := 66) rfl rfl (by kernel_rfl) (by kernel_rfl) (by kernel_rfl) (fun _ _ _ h => h) (by kernel_rfl) hHeld ?_
                  try simp only [Act.put, List.setIfInBounds_toArray, List.set_cons_zero, List.set_cons_succ]
                  refine take_no (i := 13) (d := 67) rfl rfl (by kernel_rfl) (by kernel_rfl) (by kernel_rfl) (fun _ _ _ h => h) (by kernel_rfl) hHeld ?_
                  try simp only [Act.put, List.setIfInBounds_toArray, List.set_cons_zero, List.set_cons_succ]
                  refine take_no (i := 14) (d := 68) rfl rfl (by kernel_rfl) (by kernel_rfl) (by kernel_rfl) (fun _ _ _ h => h) (by kernel_rfl) hHeld ?_
                  try simp only [Act.put, List.setIfInBounds_toArray, List.set_cons_zero, List.set_cons_succ]
                  refine take_no (i := 15) (d := 69) rfl rfl (by kernel_rfl) (by kernel_rfl) (by kernel_rfl) (fun _ _ _ h => h) (by kernel_rfl) hHeld ?_
                  try simp only [Act.put, List.setIfInBounds_toArray, List.set_cons_zero, List.set_cons_succ]
                  refine take_no (i := 16) (d := 70) rfl rfl (by kernel_rfl) (by kernel_rfl) (by kernel_rfl) (fun _ _ _ h => h) (by kernel_rfl) hHeld ?_
                  try simp only [Act.put, List.setIfInBounds_toArray, List.set_cons_zero, List.set_cons_succ]
                  refine take_no (i := 17) (d := 71) rfl rfl (by kernel_rfl) (by kernel_rfl) (by kernel_rfl) (fun _ _ _ h => h) (by kernel_rfl) hHeld ?_
                  try simp only [Act.put, List.setIfInBounds_toArray, List.set_cons_zero, List.set_cons_succ]
                  refine take_no (i := 18) (d := 72) rfl rfl (by kernel_rfl) (by kernel_rfl) (by kernel_rfl) (fun _ _ _ h => h) (by kernel_rfl) hHeld ?_
                  try simp only [Act.put, List.setIfInBounds_toArray, List.set_cons_zero, List.set_cons_succ]
                  refine take_no (i := 19) (d := 73) rfl rfl (by kernel_rfl) (by kernel_rfl) (by kernel_rfl) (fun _ _ _ h => h) (by kernel_rfl) hHeld ?_
                  try simp only [Act.put, List.setIfInBounds_toArray, List.set_cons_zero, List.set_cons_succ]
                  refine take_no (i := 20) (d := 74) rfl rfl (by kernel_rfl) (by kernel_rfl) (by kernel_rfl) (fun _ _ _ h => h) (by kernel_rfl) hHeld ?_
                  try simp only [Act.put, List.setIfInBounds_toArray, List.set_cons_zero, List.set_cons_succ]
                  refine take_no (i := 21) (d := 75) rfl rfl (by kernel_rfl) (by kernel_rfl) (by kernel_rfl) (fun _ _ _ h => h) (by kernel_rfl) hHeld ?_
                  try simp only [Act.put, List.setIfInBounds_toArray, List.set_cons_zero, List.set_cons_succ]
                  refine take_no (i := 22) (d := 76) rfl rfl (by kernel_rfl) (by kernel_rfl) (by kernel_rfl) (fun _ _ _ h => h) (by kernel_rfl) hHeld ?_
                  try simp only [Act.put, List.setIfInBounds_toArray, List.set_cons_zero, List.set_cons_succ]
                  refine take_no (i := 23) (d := 77) rfl rfl (by kernel_rfl) (by kernel_rfl) (by kernel_rfl) (fun _ _ _ h => h) (by kernel_rfl) hHeld ?_
                  try simp only [Act.put, List.setIfInBounds_toArray, List.set_cons_zero, List.set_cons_succ]
                  refine take_no (i := 24) (d := 78) rfl rfl (by kernel_rfl) (by kernel_rfl) (by kernel_rfl) (fun _ _ _ h => h) (by kernel_rfl) hHeld ?_
                  try simp only [Act.put, List.setIfInBounds_toArray, List.set_cons_zero, List.set_cons_succ]
                  refine take_yes (i := 25) (d := 79) (v := ?_) rfl rfl (by kernel_rfl) (by kernel_rfl) (by kernel_rfl) (fun _ _ _ h => h) (by kernel_rfl) ?_ hHeld ?_
                  rotate_left
                  · (intro w hSw; (try dsimp only at hSw); go_simp; try (with_reducible rfl))
                  try simp only [Act.put, List.setIfInBounds_toArray, List.set_cons_zero, List.set_cons_succ]
                  refine wpAnyH_done (by kernel_rfl) ?_ _
                  refine NoPanic.normal ?_
                  go_wp2
                  go_roundw
                  case rel => exact ⟨k + 1, by omega, by go_num, HS.out, HW1.out.trans (hHeld.mono HW1.out.size)⟩
                  case measure => simp [intOf]; omega
                · have hk1 : 0 < k := by omega
                  obtain ⟨a', ha', p0, p1, p2⟩ := question_at (HD.out.below HW1.out) (show k - 1 < qs.length by omega)
                  obtain rfl : a = a' := by simpa using ha'
                  have t1 : IntKind.i64.wrap ((k : Int) - 1) = (k : Int) - 1 := by rw [IntKind.wrap_i64]; omega
                  have t2 : ((k : Int) - 1).toNat = k - 1 := by omega
                  have t3 : (0 : Int) ≤ (k : Int) - 1 := by omega
                  have t4 : (k : Int) - 1 < (qs.length : Int) := by omega
                  have t9 : decide ((0 : Int) < (k : Int)) = true := decide_eq_true (by omega)
                  have t5 : decide (0 < k) = true := decide_eq_true (by omega)
                  have t7 : (1 : Int) ≤ (k : Int) := by omega
                  have t8 : (k : Int) ≤ (qs.length : Int) := by omega
                  have HP := Lib.hid (okQ_ix (show k - 1 < qs.length by omega) (allN_yes.1 hq.out (k - 1) (by omega)))
                  rw [show (k == 0) = false by simp; omega] at HK2
                  obtain ⟨p, hp⟩ : ∃ p, Hid (qs[k - 1] = p) := ⟨_, Lib.hid rfl⟩
                  rw [hp.out] at p0 p1 p2 HP HK2
                  clear ha' hk0 hp
                  rcases Bool.eq_false_or_eq_true (lackB xs p) with hl | hl
                  · have HN := Lib.hid (pendB_no (rs := xs) hlt (show okQ xs qs k = false by rw [HK2, hl]; rfl))
                    clear hq HK HK2
                    refine wp_region_noPanic ?_
                    refine wp_region_held_drew (S := (fun w' => Below w1.heap.size w1 w' ∧ w'.cell? (a.add ((k - 1) * 3)) = some (.int .i64 p.r) ∧ w'.cell? ⟨(a.add ((k - 1) * 3)).block, (a.add ((k - 1) * 3)).off + 1, none⟩ = some (.int .i64 p.m) ∧ w'.cell? ⟨(a.add ((k - 1) * 3)).block, (a.add ((k - 1) * 3)).off + 2, none⟩ = some (.bool p.s) ∧ w'.cell? ⟨(b.add (j * 7)).block, (b.add (j * 7)).off + 2, none⟩ = some (.int .i64 x.rk))) (by kernel_rfl) ?_ (fun hHeld => ?_)
                    · ((try dsimp only); (first | exact ⟨HB2.out, (HB2.out.cell (World.block_lt_of_cell? _ _ p0)).trans p0, (HB2.out.cell (World.block_lt_of_cell? _ _ p1)).trans p1, (HB2.out.cell (World.block_lt_of_cell? _ _ p2)).trans p2, (HB2.out.cell (World.block_lt_of_cell? _ _ x2)).trans x2⟩ | exact ⟨HB1.out, (HB1.out.cell (World.block_lt_of_cell? _ _ p0)).trans p0, (HB1.out.cell (World.block_lt_of_cell? _ _ p1)).trans p1, (HB1.out.cell (World.block_lt_of_cell? _ _ p2)).trans p2, (HB1.out.cell (World.block_lt_of_cell? _ _ x2)).trans x2⟩ | exact ⟨(Below.refl _ _).drew, p0, p1, p2, x2⟩))
                    refine take_yes (i := 0) (d := 54) (v := ?_) rfl rfl (by kernel_rfl) (by kernel_rfl) (by kernel_rfl) (fun _ _ _ h => h) (by kernel_rfl) ?_ hHeld ?_
                    rotate_left
                    · (intro w hSw; (try dsimp only at hSw); go_simp; try (with_reducible rfl))
                    try simp only [Act.put, List.setIfInBounds_toArray, List.set_cons_zero, List.set_cons_succ]
                    refine take_yes (i := 1) (d := 55) (v := ?_) rfl rfl (by kernel_rfl) (by kernel_rfl) (by kernel_rfl) (fun _ _ _ h => h) (by kernel_rfl) ?_ hHeld ?_
                    rotate_left
                    · (intro w hSw; (try dsimp only at hSw); go_simp; try (with_reducible rfl))
                    try simp only [Act.put, List.setIfInBounds_toArray, List.set_cons_zero, List.set_cons_succ]
                    refine take_yes (i := 2) (d := 56) (v := ?_) rfl rfl (by kernel_rfl) (by kernel_rfl) (by kernel_rfl) (fun _ _ _ h => h) (by kernel_rfl) ?_ hHeld ?_
                    rotate_left
                    · (intro w hSw; (try dsimp only at hSw); go_simp; try (with_reducible rfl))
                    try simp only [Act.put, List.setIfInBounds_toArray, List.set_cons_zero, List.set_cons_succ]
                    refine take_yes (i := 3) (d := 57) (v := ?_) rfl rfl (by kernel_rfl) (by kernel_rfl) (by kernel_rfl) (fun _ _ _ h => h) (by kernel_rfl) ?_ hHeld ?_
                    rotate_left
                    · (intro w hSw; (try dsimp only at hSw); go_simp; try (with_reducible rfl))
                    try simp only [Act.put, List.setIfInBounds_toArray, List.set_cons_zero, List.set_cons_succ]
                    refine take_yes (i := 4) (d := 58) (v := ?_) rfl rfl (by kernel_rfl) (by kernel_rfl) (by kernel_rfl) (fun _ _ _ h => h) (by kernel_rfl) ?_ hHeld ?_
                    rotate_left
                    · (intro w hSw; (try dsimp only at hSw); go_simp; try (with_reducible rfl))
                    try simp only [Act.put, List.setIfInBounds_toArray, List.set_cons_zero, List.set_cons_succ]
                    refine take_yes (i := 5) (d := 59) (v := ?_) rfl rfl (by kernel_rfl) (by kernel_rfl) (by kernel_rfl) (fun _ _ _ h => h) (by kernel_rfl) ?_ hHeld ?_
                    rotate_left
                    · (intro w hSw; (try dsimp only at hSw); go_simp; try (with_reducible rfl))
                    try simp only [Act.put, List.setIfInBounds_toArray, List.set_cons_zero, List.set_cons_succ]
                    refine take_yes (i := 6) (d := 60) (v := ?_) rfl rfl (by kernel_rfl) (by kernel_rfl) (by kernel_rfl) (fun _ _ _ h => h) (by kernel_rfl) ?_ hHeld ?_
                    rotate_left
                    · (intro w hSw; (try dsimp only at hSw); go_simp; try (with_reducible rfl))
                    try simp only [Act.put, List.setIfInBounds_toArray, List.set_cons_zero, List.set_cons_succ]
                    refine take_yes (i := 7) (d := 61) (v := ?_) rfl rfl (by kernel_rfl) (by kernel_rfl) (by kernel_rfl) (fun _ _ _ h => h) (by kernel_rfl) ?_ hHeld ?_
                    rotate_left
                    · (intro w hSw; (try dsimp only at hSw); go_simp; try (with_reducible rfl))
                    try simp only [Act.put, List.setIfInBounds_toArray, List.set_cons_zero, List.set_cons_succ]
                    refine take_yes (i := 8) (d := 62) (v := ?_) rfl rfl (by kernel_rfl) (by kernel_rfl) (by kernel_rfl) (fun _ _ _ h => h) (by kernel_rfl) ?_ hHeld ?_
                    rotate_left
                    · (intro w hSw; (try dsimp only at hSw); go_simp; try (with_reducible rfl))
                    try simp only [Act.put, List.setIfInBounds_toArray, List.set_cons_zero, List.set_cons_succ]
                    refine wpAnyH_ready (rs := [9]) (by kernel_rfl) (by simp) ?_
                    refine AllReadyH.cons rfl (fun K hK => ?_) AllReadyH.nil
                    go_simp
                    (go_at_call 74; refine (l7Lacks_at (some b) c xs p _ (HA.out.below (below_drewN HW1.out 1)) hm HP.out).mono ?_; rintro e w4 ⟨rfl, hb⟩; rw [hl]; have HB1 := Lib.hid ((below_drewN (Below.refl w1.heap.size w1) 1).trans hb); clear hb)
                    (first | refine hK.out _ _ ?_ (fun hHeld1 => ?_) | (go_wp2_with fail; refine hK.out _ _ ?_ (fun hHeld1 => ?_)))
                    · ((try dsimp only); (first | exact ⟨HB2.out, (HB2.out.cell (World.block_lt_of_cell? _ _ p0)).trans p0, (HB2.out.cell (World.block_lt_of_cell? _ _ p1)).trans p1, (HB2.out.cell (World.block_lt_of_cell? _ _ p2)).trans p2, (HB2.out.cell (World.block_lt_of_cell? _ _ x2)).trans x2⟩ | exact ⟨HB1.out, (HB1.out.cell (World.block_lt_of_cell? _ _ p0)).trans p0, (HB1.out.cell (World.block_lt_of_cell? _ _ p1)).trans p1, (HB1.out.cell (World.block_lt_of_cell? _ _ p2)).trans p2, (HB1.out.cell (World.block_lt_of_cell? _ _ x2)).trans x2⟩ | exact ⟨(Below.refl _ _).drew, p0, p1, p2, x2⟩))
                    clear hK K hHeld
                    have hHeld := hHeld1
                    clear hHeld1
                    try simp only [Act.put, List.setIfInBounds_toArray, List.set_cons_zero, List.set_cons_succ]
                    refine take_yes (i := 10) (d := 64) (v := ?_) rfl rfl (by kernel_rfl) (by kernel_rfl) (by kernel_rfl) (fun _ _ _ h => h) (by kernel_rfl) ?_ hHeld ?_
                    rotate_left
                    · (intro w hSw; (try dsimp only at hSw); go_simp; try (with_reducible rfl))
                    try simp only [Act.put, List.setIfInBounds_toArray, List.set_cons_zero, List.set_cons_succ]
                    refine take_no (i := 11) (d := 65) rfl rfl (by kernel_rfl) (by kernel_rfl) (by kernel_rfl) (fun _ _ _ h => h) (by kernel_rfl) hHeld ?_
                    try simp only [Act.put, List.setIfInBounds_toArray, List.set_cons_zero, List.set_cons_succ]
                    refine take_no (i := 12) (d := 66) rfl rfl (by kernel_rfl) (by kernel_rfl) (by kernel_rfl) (fun _ _ _ h => h) (by kernel_rfl) hHeld ?_
                    try simp only [Act.put, List.setIfInBounds_toArray, List.set_cons_zero, List.set_cons_succ]
                    refine take_no (i := 13) (d := 67) rfl rfl (by kernel_rfl) (by kernel_rfl) (by kernel_rfl) (fun _ _ _ h => h) (by kernel_rfl) hHeld ?_
                    try simp only [Act.put, List.setIfInBounds_toArray, List.set_cons_zero, List.set_cons_succ]
                    refine take_no (i := 14) (d := 68) rfl rfl (by kernel_rfl) (by kernel_rfl) (by kernel_rfl) (fun _ _ _ h => h) (by kernel_rfl) hHeld ?_
                    try simp only [Act.put, List.setIfInBounds_toArray, List.set_cons_zero, List.set_cons_succ]
                    refine take_no (i := 15) (d := 69) rfl rfl (by kernel_rfl) (by kernel_rfl) (by kernel_rfl) (fun _ _ _ h => h) (by kernel_rfl) hHeld ?_
                    try simp only [Act.put, List.setIfInBounds_toArray, List.set_cons_zero, List.set_cons_succ]
                    refine take_no (i := 16) (d := 70) rfl rfl (by kernel_rfl) (by kernel_rfl) (by kernel_rfl) (fun _ _ _ h => h) (by kernel_rfl) hHeld ?_
                    try simp only [Act.put, List.setIfInBounds_toArray, List.set_cons_zero, List.set_cons_succ]
                    refine take_no (i := 17) (d := 71) rfl rfl (by kernel_rfl) (by kernel_rfl) (by kernel_rfl) (fun _ _ _ h => h) (by kernel_rfl) hHeld ?_
                    try simp only [Act.put, List.setIfInBounds_toArray, List.set_cons_zero, List.set_cons_succ]
                    refine take_no (i := 18) (d := 72) rfl rfl (by kernel_rfl) (by kernel_rfl) (by kernel_rfl) (fun _ _ _ h => h) (by kernel_rfl) hHeld ?_
                    try simp only [Act.put, List.setIfInBounds_toArray, List.set_cons_zero, List.set_cons_succ]
                    refine take_no (i := 19) (d := 73) rfl rfl (by kernel_rfl) (by kernel_rfl) (by kernel_rfl) (fun _ _ _ h => h) (by kernel_rfl) hHeld ?_
                    try simp only [Act.put, List.setIfInBounds_toArray, List.set_cons_zero, List.set_cons_succ]
                    refine take_no (i := 20) (d := 74) rfl rfl (by kernel_rfl) (by kernel_rfl) (by kernel_rfl) (fun _ _ _ h => h) (by kernel_rfl) hHeld ?_
                    try simp only [Act.put, List.setIfInBounds_toArray, List.set_cons_zero, List.set_cons_succ]
                    refine take_no (i := 21) (d := 75) rfl rfl (by kernel_rfl) (by kernel_rfl) (by kernel_rfl) (fun _ _ _ h => h) (by kernel_rfl) hHeld ?_
                    try simp only [Act.put, List.setIfInBounds_toArray, List.set_cons_zero, List.set_cons_succ]
                    refine take_no (i := 22) (d := 76) rfl rfl (by kernel_rfl) (by kernel_rfl) (by kernel_rfl) (fun _ _ _ h => h) (by kernel_rfl) hHeld ?_
                    try simp only [Act.put, List.setIfInBounds_toArray, List.set_cons_zero, List.set_cons_succ]
                    refine take_no (i := 23) (d := 77) rfl rfl (by kernel_rfl) (by kernel_rfl) (by kernel_rfl) (fun _ _ _ h => h) (by kernel_rfl) hHeld ?_
                    try simp only [Act.put, List.setIfInBounds_toArray, List.set_cons_zero, List.set_cons_succ]
                    refine take_yes (i := 24) (d := 78) (v := ?_) rfl rfl (by kernel_rfl) (by kernel_rfl) (by kernel_rfl) (fun _ _ _ h => h) (by kernel_rfl) ?_ hHeld ?_
                    rotate_left
                    · (intro w hSw; (try dsimp only at hSw); go_simp; try (with_reducible rfl))
                    try simp only [Act.put, List.setIfInBounds_toArray, List.set_cons_zero, List.set_cons_succ]
                    refine take_yes (i := 25) (d := 79) (v := ?_) rfl rfl (by kernel_rfl) (by kernel_rfl) (by kernel_rfl) (fun _ _ _ h => h) (by kernel_rfl) ?_ hHeld ?_
                    rotate_left
                    · (intro w hSw; (try dsimp only at hSw); go_simp; try (with_reducible rfl))
                    try simp only [Act.put, List.setIfInBounds_toArray, List.set_cons_zero, List.set_cons_succ]
                    refine wpAnyH_done (by kernel_rfl) ?_ _
                    refine NoPanic.normal ?_
                    go_wp2
                    go_ret
                    exact ⟨ret_bool HN.out.symm, HW1.out.trans (HB1.out.mono HW1.out.size)⟩
                  · by_cases hr2 : x.rk ≤ (ruleAt xs p).rk
                    · have HN := Lib.hid (pendB_no (rs := xs) hlt (show okQ xs qs k = false by rw [HK2, hl, decide_eq_true hr2]; rfl))
                      have hg : decide (x.rk ≤ (ruleAt xs p).rk) = true := decide_eq_true hr2
                      clear hq HK HK2 hr2
                      refine wp_region_noPanic ?_
                      refine wp_region_held_drew (S := (fun w' => Below w1.heap.size w1 w' ∧ w'.cell? (a.add ((k - 1) * 3)) = some (.int .i64 p.r) ∧ w'.cell? ⟨(a.add ((k - 1) * 3)).block, (a.add ((k - 1) * 3)).off + 1, none⟩ = some (.int .i64 p.m) ∧ w'.cell? ⟨(a.add ((k - 1) * 3)).block, (a.add ((k - 1) * 3)).off + 2, none⟩ = some (.bool p.s) ∧ w'.cell? ⟨(b.add (j * 7)).block, (b.add (j * 7)).off + 2, none⟩ = some (.int .i64 x.rk))) (by kernel_rfl) ?_ (fun hHeld => ?_)
                      · ((try dsimp only); (first | exact ⟨HB2.out, (HB2.out.cell (World.block_lt_of_cell? _ _ p0)).trans p0, (HB2.out.cell (World.block_lt_of_cell? _ _ p1)).trans p1, (HB2.out.cell (World.block_lt_of_cell? _ _ p2)).trans p2, (HB2.out.cell (World.block_lt_of_cell? _ _ x2)).trans x2⟩ | exact ⟨HB1.out, (HB1.out.cell (World.block_lt_of_cell? _ _ p0)).trans p0, (HB1.out.cell (World.block_lt_of_cell? _ _ p1)).trans p1, (HB1.out.cell (World.block_lt_of_cell? _ _ p2)).trans p2, (HB1.out.cell (World.block_lt_of_cell? _ _ x2)).trans x2⟩ | exact ⟨(Below.refl _ _).drew, p0, p1, p2, x2⟩))
                      refine take_yes (i := 0) (d := 54) (v := ?_) rfl rfl (by kernel_rfl) (by kernel_rfl) (by kernel_rfl) (fun _ _ _ h => h) (by kernel_rfl) ?_ hHeld ?_
                      rotate_left
                      · (intro w hSw; (try dsimp only at hSw); go_simp; try (with_reducible rfl))
                      try simp only [Act.put, List.setIfInBounds_toArray, List.set_cons_zero, List.set_cons_succ]
                      refine take_yes (i := 1) (d := 55) (v := ?_) rfl rfl (by kernel_rfl) (by kernel_rfl) (by kernel_rfl) (fun _ _ _ h => h) (by kernel_rfl) ?_ hHeld ?_
                      rotate_left
                      · (intro w hSw; (try dsimp only at hSw); go_simp; try (with_reducible rfl))
                      try simp only [Act.put, List.setIfInBounds_toArray, List.set_cons_zero, List.set_cons_succ]
                      refine take_yes (i := 2) (d := 56) (v := ?_) rfl rfl (by kernel_rfl) (by kernel_rfl) (by kernel_rfl) (fun _ _ _ h => h) (by kernel_rfl) ?_ hHeld ?_
                      rotate_left
                      · (intro w hSw; (try dsimp only at hSw); go_simp; try (with_reducible rfl))
                      try simp only [Act.put, List.setIfInBounds_toArray, List.set_cons_zero, List.set_cons_succ]
                      refine take_yes (i := 3) (d := 57) (v := ?_) rfl rfl (by kernel_rfl) (by kernel_rfl) (by kernel_rfl) (fun _ _ _ h => h) (by kernel_rfl) ?_ hHeld ?_
                      rotate_left
                      · (intro w hSw; (try dsimp only at hSw); go_simp; try (with_reducible rfl))
                      try simp only [Act.put, List.setIfInBounds_toArray, List.set_cons_zero, List.set_cons_succ]
                      refine take_yes (i := 4) (d := 58) (v := ?_) rfl rfl (by kernel_rfl) (by kernel_rfl) (by kernel_rfl) (fun _ _ _ h => h) (by kernel_rfl) ?_ hHeld ?_
                      rotate_left
                      · (intro w hSw; (try dsimp only at hSw); go_simp; try (with_reducible rfl))
                      try simp only [Act.put, List.setIfInBounds_toArray, List.set_cons_zero, List.set_cons_succ]
                      refine take_yes (i := 5) (d := 59) (v := ?_) rfl rfl (by kernel_rfl) (by kernel_rfl) (by kernel_rfl) (fun _ _ _ h => h) (by kernel_rfl) ?_ hHeld ?_
                      rotate_left
                      · (intro w hSw; (try dsimp only at hSw); go_simp; try (with_reducible rfl))
                      try simp only [Act.put, List.setIfInBounds_toArray, List.set_cons_zero, List.set_cons_succ]
                      refine take_yes (i := 6) (d := 60) (v := ?_) rfl rfl (by kernel_rfl) (by kernel_rfl) (by kernel_rfl) (fun _ _ _ h => h) (by kernel_rfl) ?_ hHeld ?_
                      rotate_left
                      · (intro w hSw; (try dsimp only at hSw); go_simp; try (with_reducible rfl))
                      try simp only [Act.put, List.setIfInBounds_toArray, List.set_cons_zero, List.set_cons_succ]
                      refine take_yes (i := 7) (d := 61) (v := ?_) rfl rfl (by kernel_rfl) (by kernel_rfl) (by kernel_rfl) (fun _ _ _ h => h) (by kernel_rfl) ?_ hHeld ?_
                      rotate_left
                      · (intro w hSw; (try dsimp only at hSw); go_simp; try (with_reducible rfl))
                      try simp only [Act.put, List.setIfInBounds_toArray, List.set_cons_zero, List.set_cons_succ]
                      refine take_yes (i := 8) (d := 62) (v := ?_) rfl rfl (by kernel_rfl) (by kernel_rfl) (by kernel_rfl) (fun _ _ _ h => h) (by kernel_rfl) ?_ hHeld ?_
                      rotate_left
                      · (intro w hSw; (try dsimp only at hSw); go_simp; try (with_reducible rfl))
                      try simp only [Act.put, List.setIfInBounds_toArray, List.set_cons_zero, List.set_cons_succ]
                      refine wpAnyH_ready (rs := [9]) (by kernel_rfl) (by simp) ?_
                      refine AllReadyH.cons rfl (fun K hK => ?_) AllReadyH.nil
                      go_simp
                      (go_at_call 74; refine (l7Lacks_at (some b) c xs p _ (HA.out.below (below_drewN HW1.out 1)) hm HP.out).mono ?_; rintro e w4 ⟨rfl, hb⟩; rw [hl]; have HB1 := Lib.hid ((below_drewN (Below.refl w1.heap.size w1) 1).trans hb); clear hb)
                      (first | refine hK.out _ _ ?_ (fun hHeld1 => ?_) | (go_wp2_with fail; refine hK.out _ _ ?_ (fun hHeld1 => ?_)))
                      · ((try dsimp only); (first | exact ⟨HB2.out, (HB2.out.cell (World.block_lt_of_cell? _ _ p0)).trans p0, (HB2.out.cell (World.block_lt_of_cell? _ _ p1)).trans p1, (HB2.out.cell (World.block_lt_of_cell? _ _ p2)).trans p2, (HB2.out.cell (World.block_lt_of_cell? _ _ x2)).trans x2⟩ | exact ⟨HB1.out, (HB1.out.cell (World.block_lt_of_cell? _ _ p0)).trans p0, (HB1.out.cell (World.block_lt_of_cell? _ _ p1)).trans p1, (HB1.out.cell (World.block_lt_of_cell? _ _ p2)).trans p2, (HB1.out.cell (World.block_lt_of_cell? _ _ x2)).trans x2⟩ | exact ⟨(Below.refl _ _).drew, p0, p1, p2, x2⟩))
                      clear hK K hHeld
                      have hHeld := hHeld1
                      clear hHeld1
                      try simp only [Act.put, List.setIfInBounds_toArray, List.set_cons_zero, List.set_cons_succ]
                      refine take_yes (i := 10) (d := 64) (v := ?_) rfl rfl (by kernel_rfl) (by kernel_rfl) (by kernel_rfl) (fun _ _ _ h => h) (by kernel_rfl) ?_ hHeld ?_
                      rotate_left
                      · (intro w hSw; (try dsimp only at hSw); go_simp; try (with_reducible rfl))
                      try simp only [Act.put, List.setIfInBounds_toArray, List.set_cons_zero, List.set_cons_succ]
                      refine take_yes (i := 11) (d := 65) (v := ?_) rfl rfl (by kernel_rfl) (by kernel_rfl) (by kernel_rfl) (fun _ _ _ h => h) (by kernel_rfl) ?_ hHeld ?_
                      rotate_left
                      · (intro w hSw; (try dsimp only at hSw); go_simp; try (with_reducible rfl))
                      try simp only [Act.put, List.setIfInBounds_toArray, List.set_cons_zero, List.set_cons_succ]
                      refine take_yes (i := 12) (d := 66) (v := ?_) rfl rfl (by kernel_rfl) (by kernel_rfl) (by kernel_rfl) (fun _ _ _ h => h) (by kernel_rfl) ?_ hHeld ?_
                      rotate_left
                      · (intro w hSw; (try dsimp only at hSw); go_simp; try (with_reducible rfl))
                      try simp only [Act.put, List.setIfInBounds_toArray, List.set_cons_zero, List.set_cons_succ]
                      refine take_yes (i := 13) (d := 67) (v := ?_) rfl rfl (by kernel_rfl) (by kernel_rfl) (by kernel_rfl) (fun _ _ _ h => h) (by kernel_rfl) ?_ hHeld ?_
                      rotate_left
                      · (intro w hSw; (try dsimp only at hSw); go_simp; try (with_reducible rfl))
                      try simp only [Act.put, List.setIfInBounds_toArray, List.set_cons_zero, List.set_cons_succ]
                      refine take_yes (i := 14) (d := 68) (v := ?_) rfl rfl (by kernel_rfl) (by kernel_rfl) (by kernel_rfl) (fun _ _ _ h => h) (by kernel_rfl) ?_ hHeld ?_
                      rotate_left
                      · (intro w hSw; (try dsimp only at hSw); go_simp; try (with_reducible rfl))
                      try simp only [Act.put, List.setIfInBounds_toArray, List.set_cons_zero, List.set_cons_succ]
                      refine take_yes (i := 15) (d := 69) (v := ?_) rfl rfl (by kernel_rfl) (by kernel_rfl) (by kernel_rfl) (fun _ _ _ h => h) (by kernel_rfl) ?_ hHeld ?_
                      rotate_left
                      · (intro w hSw; (try dsimp only at hSw); go_simp; try (with_reducible rfl))
                      try simp only [Act.put, List.setIfInBounds_toArray, List.set_cons_zero, List.set_cons_succ]
                      refine take_yes (i := 16) (d := 70) (v := ?_) rfl rfl (by kernel_rfl) (by kernel_rfl) (by kernel_rfl) (fun _ _ _ h => h) (by kernel_rfl) ?_ hHeld ?_
                      rotate_left
                      · (intro w hSw; (try dsimp only at hSw); go_simp; try (with_reducible rfl))
                      try simp only [Act.put, List.setIfInBounds_toArray, List.set_cons_zero, List.set_cons_succ]
                      refine take_yes (i := 18) (d := 72) (v := ?_) rfl rfl (by kernel_rfl) (by kernel_rfl) (by kernel_rfl) (fun _ _ _ h => h) (by kernel_rfl) ?_ hHeld ?_
                      rotate_left
                      · (intro w hSw; (try dsimp only at hSw); go_simp; try (with_reducible rfl))
                      try simp only [Act.put, List.setIfInBounds_toArray, List.set_cons_zero, List.set_cons_succ]
                      refine take_yes (i := 19) (d := 73) (v := ?_) rfl rfl (by kernel_rfl) (by kernel_rfl) (by kernel_rfl) (fun _ _ _ h => h) (by kernel_rfl) ?_ hHeld ?_
                      rotate_left
                      · (intro w hSw; (try dsimp only at hSw); go_simp; try (with_reducible rfl))
                      try simp only [Act.put, List.setIfInBounds_toArray, List.set_cons_zero, List.set_cons_succ]
                      refine take_yes (i := 20) (d := 74) (v := ?_) rfl rfl (by kernel_rfl) (by kernel_rfl) (by kernel_rfl) (fun _ _ _ h => h) (by kernel_rfl) ?_ hHeld ?_
                      rotate_left
                      · (intro w hSw; (try dsimp only at hSw); go_simp; try (with_reducible rfl))
                      try simp only [Act.put, List.setIfInBounds_toArray, List.set_cons_zero, List.set_cons_succ]
                      refine take_yes (i := 21) (d := 75) (v := ?_) rfl rfl (by kernel_rfl) (by kernel_rfl) (by kernel_rfl) (fun _ _ _ h => h) (by kernel_rfl) ?_ hHeld ?_
                      rotate_left
                      · (intro w hSw; (try dsimp only at hSw); go_simp; try (with_reducible rfl))
                      try simp only [Act.put, List.setIfInBounds_toArray, List.set_cons_zero, List.set_cons_succ]
                      refine take_yes (i := 22) (d := 76) (v := ?_) rfl rfl (by kernel_rfl) (by kernel_rfl) (by kernel_rfl) (fun _ _ _ h => h) (by kernel_rfl) ?_ hHeld ?_
                      rotate_left
                      · (intro w hSw; (try dsimp only at hSw); go_simp; try (with_reducible rfl))
                      try simp only [Act.put, List.setIfInBounds_toArray, List.set_cons_zero, List.set_cons_succ]
                      refine wpAnyH_ready (rs := [17]) (by kernel_rfl) (by simp) ?_
                      refine AllReadyH.cons rfl (fun K hK => ?_) AllReadyH.nil
                      go_simp
                      (go_at_call 124; refine (l7Rank_at (some b) c xs p _ ((HA.out.below HW1.out).below HB1.out) hm HP.out).mono ?_; rintro e w5 ⟨rfl, hb⟩; have HB2 := Lib.hid (HB1.out.trans (hb.mono HB1.out.size)); clear hb)
                      (first | refine hK.out _ _ ?_ (fun hHeld1 => ?_) | (go_wp2_with fail; refine hK.out _ _ ?_ (fun hHeld1 => ?_)))
                      · ((try dsimp only); (first | exact ⟨HB2.out, (HB2.out.cell (World.block_lt_of_cell? _ _ p0)).trans p0, (HB2.out.cell (World.block_lt_of_cell? _ _ p1)).trans p1, (HB2.out.cell (World.block_lt_of_cell? _ _ p2)).trans p2, (HB2.out.cell (World.block_lt_of_cell? _ _ x2)).trans x2⟩ | exact ⟨HB1.out, (HB1.out.cell (World.block_lt_of_cell? _ _ p0)).trans p0, (HB1.out.cell (World.block_lt_of_cell? _ _ p1)).trans p1, (HB1.out.cell (World.block_lt_of_cell? _ _ p2)).trans p2, (HB1.out.cell (World.block_lt_of_cell? _ _ x2)).trans x2⟩ | exact ⟨(Below.refl _ _).drew, p0, p1, p2, x2⟩))
                      clear hK K hHeld
                      have hHeld := hHeld1
                      clear hHeld1
                      try simp only [Act.put, List.setIfInBounds_toArray, List.set_cons_zero, List.set_cons_succ]
                      refine take_yes (i := 23) (d := 77) (v := ?_) rfl rfl (by kernel_rfl) (by kernel_rfl) (by kernel_rfl) (fun _ _ _ h => h) (by kernel_rfl) ?_ hHeld ?_
                      rotate_left
                      · (intro w hSw; (try dsimp only at hSw); go_simp; try (with_reducible rfl))
                      try simp only [Act.put, List.setIfInBounds_toArray, List.set_cons_zero, List.set_cons_succ]
                      refine take_yes (i := 24) (d := 78) (v := ?_) rfl rfl (by kernel_rfl) (by kernel_rfl) (by kernel_rfl) (fun _ _ _ h => h) (by kernel_rfl) ?_ hHeld ?_
                      rotate_left
                      · (intro w hSw; (try dsimp only at hSw); go_simp; try (with_reducible rfl))
                      try simp only [Act.put, List.setIfInBounds_toArray, List.set_cons_zero, List.set_cons_succ]
                      refine take_yes (i := 25) (d := 79) (v := ?_) rfl rfl (by kernel_rfl) (by kernel_rfl) (by kernel_rfl) (fun _ _ _ h => h) (by kernel_rfl) ?_ hHeld ?_
                      rotate_left
                      · (intro w hSw; (try dsimp only at hSw); go_simp; try (with_reducible rfl))
                      try simp only [Act.put, List.setIfInBounds_toArray, List.set_cons_zero, List.set_cons_succ]
                      refine wpAnyH_done (by kernel_rfl) ?_ _
                      refine NoPanic.normal ?_
                      go_wp2
                      go_ret
                      exact ⟨ret_bool HN.out.symm, HW1.out.trans (HB2.out.mono HW1.out.size)⟩
                    · have HS := Lib.hid (allN_step hq.out (show okQ xs qs k = true by rw [HK2, hl, decide_eq_false hr2]; rfl))
                      have hg : decide (x.rk ≤ (ruleAt xs p).rk) = false := decide_eq_false hr2
                      clear hq HK HK2 hr2
                      refine wp_region_noPanic ?_
                      refine wp_region_held_drew (S := (fun w' => Below w1.heap.size w1 w' ∧ w'.cell? (a.add ((k - 1) * 3)) = some (.int .i64 p.r) ∧ w'.cell? ⟨(a.add ((k - 1) * 3)).block, (a.add ((k - 1) * 3)).off + 1, none⟩ = some (.int .i64 p.m) ∧ w'.cell? ⟨(a.add ((k - 1) * 3)).block, (a.add ((k - 1) * 3)).off + 2, none⟩ = some (.bool p.s) ∧ w'.cell? ⟨(b.add (j * 7)).block, (b.add (j * 7)).off + 2, none⟩ = some (.int .i64 x.rk))) (by kernel_rfl) ?_ (fun hHeld => ?_)
                      · ((try dsimp only); (first | exact ⟨HB2.out, (HB2.out.cell (World.block_lt_of_cell? _ _ p0)).trans p0, (HB2.out.cell (World.block_lt_of_cell? _ _ p1)).trans p1, (HB2.out.cell (World.block_lt_of_cell? _ _ p2)).trans p2, (HB2.out.cell (World.block_lt_of_cell? _ _ x2)).trans x2⟩ | exact ⟨HB1.out, (HB1.out.cell (World.block_lt_of_cell? _ _ p0)).trans p0, (HB1.out.cell (World.block_lt_of_cell? _ _ p1)).trans p1, (HB1.out.cell (World.block_lt_of_cell? _ _ p2)).trans p2, (HB1.out.cell (World.block_lt_of_cell? _ _ x2)).trans x2⟩ | exact ⟨(Below.refl _ _).drew, p0, p1, p2, x2⟩))
                      refine take_yes (i := 0) (d := 54) (v := ?_) rfl rfl (by kernel_rfl) (by kernel_rfl) (by kernel_rfl) (fun _ _ _ h => h) (by kernel_rfl) ?_ hHeld ?_
                      rotate_left
                      · (intro w hSw; (try dsimp only at hSw); go_simp; try (with_reducible rfl))
                      try simp only [Act.put, List.setIfInBounds_toArray, List.set_cons_zero, List.set_cons_succ]
                      refine take_yes (i := 1) (d := 55) (v := ?_) rfl rfl (by kernel_rfl) (by kernel_rfl) (by kernel_rfl) (fun _ _ _ h => h) (by kernel_rfl) ?_ hHeld ?_
                      rotate_left
                      · (intro w hSw; (try dsimp only at hSw); go_simp; try (with_reducible rfl))
                      try simp only [Act.put, List.setIfInBounds_toArray, List.set_cons_zero, List.set_cons_succ]
                      refine take_yes (i := 2) (d := 56) (v := ?_) rfl rfl (by kernel_rfl) (by kernel_rfl) (by kernel_rfl) (fun _ _ _ h => h) (by kernel_rfl) ?_ hHeld ?_
                      rotate_left
                      · (intro w hSw; (try dsimp only at hSw); go_simp; try (with_reducible rfl))
                      try simp only [Act.put, List.setIfInBounds_toArray, List.set_cons_zero, List.set_cons_succ]
                      refine take_yes (i := 3) (d := 57) (v := ?_) rfl rfl (by kernel_rfl) (by kernel_rfl) (by kernel_rfl) (fun _ _ _ h => h) (by kernel_rfl) ?_ hHeld ?_
                      rotate_left
                      · (intro w hSw; (try dsimp only at hSw); go_simp; try (with_reducible rfl))
                      try simp only [Act.put, List.setIfInBounds_toArray, List.set_cons_zero, List.set_cons_succ]
                      refine take_yes (i := 4) (d := 58) (v := ?_) rfl rfl (by kernel_rfl) (by kernel_rfl) (by kernel_rfl) (fun _ _ _ h => h) (by kernel_rfl) ?_ hHeld ?_
                      rotate_left
                      · (intro w hSw; (try dsimp only at hSw); go_simp; try (with_reducible rfl))
                      try simp only [Act.put, List.setIfInBounds_toArray, List.set_cons_zero, List.set_cons_succ]
                      refine take_yes (i := 5) (d := 59) (v := ?_) rfl rfl (by kernel_rfl) (by kernel_rfl) (by kernel_rfl) (fun _ _ _ h => h) (by kernel_rfl) ?_ hHeld ?_
                      rotate_left
                      · (intro w hSw; (try dsimp only at hSw); go_simp; try (with_reducible rfl))
                      try simp only [Act.put, List.setIfInBounds_toArray, List.set_cons_zero, List.set_cons_succ]
                      refine take_yes (i := 6) (d := 60) (v := ?_) rfl rfl (by kernel_rfl) (by kernel_rfl) (by kernel_rfl) (fun _ _ _ h => h) (by kernel_rfl) ?_ hHeld ?_
                      rotate_left
                      · (intro w hSw; (try dsimp only at hSw); go_simp; try (with_reducible rfl))
                      try simp only [Act.put, List.setIfInBounds_toArray, List.set_cons_zero, List.set_cons_succ]
                      refine take_yes (i := 7) (d := 61) (v := ?_) rfl rfl (by kernel_rfl) (by kernel_rfl) (by kernel_rfl) (fun _ _ _ h => h) (by kernel_rfl) ?_ hHeld ?_
                      rotate_left
                      · (intro w hSw; (try dsimp only at hSw); go_simp; try (with_reducible rfl))
                      try simp only [Act.put, List.setIfInBounds_toArray, List.set_cons_zero, List.set_cons_succ]
                      refine take_yes (i := 8) (d := 62) (v := ?_) rfl rfl (by kernel_rfl) (by kernel_rfl) (by kernel_rfl) (fun _ _ _ h => h) (by kernel_rfl) ?_ hHeld ?_
                      rotate_left
                      · (intro w hSw; (try dsimp only at hSw); go_simp; try (with_reducible rfl))
                      try simp only [Act.put, List.setIfInBounds_toArray, List.set_cons_zero, List.set_cons_succ]
                      refine wpAnyH_ready (rs := [9]) (by kernel_rfl) (by simp) ?_
                      refine AllReadyH.cons rfl (fun K hK => ?_) AllReadyH.nil
                      go_simp
                      (go_at_call 74; refine (l7Lacks_at (some b) c xs p _ (HA.out.below (below_drewN HW1.out 1)) hm HP.out).mono ?_; rintro e w4 ⟨rfl, hb⟩; rw [hl]; have HB1 := Lib.hid ((below_drewN (Below.refl w1.heap.size w1) 1).trans hb); clear hb)
                      (first | refine hK.out _ _ ?_ (fun hHeld1 => ?_) | (go_wp2_with fail; refine hK.out _ _ ?_ (fun hHeld1 => ?_)))
                      · ((try dsimp only); (first | exact ⟨HB2.out, (HB2.out.cell (World.block_lt_of_cell? _ _ p0)).trans p0, (HB2.out.cell (World.block_lt_of_cell? _ _ p1)).trans p1, (HB2.out.cell (World.block_lt_of_cell? _ _ p2)).trans p2, (HB2.out.cell (World.block_lt_of_cell? _ _ x2)).trans x2⟩ | exact ⟨HB1.out, (HB1.out.cell (World.block_lt_of_cell? _ _ p0)).trans p0, (HB1.out.cell (World.block_lt_of_cell? _ _ p1)).trans p1, (HB1.out.cell (World.block_lt_of_cell? _ _ p2)).trans p2, (HB1.out.cell (World.block_lt_of_cell? _ _ x2)).trans x2⟩ | exact ⟨(Below.refl _ _).drew, p0, p1, p2, x2⟩))
                      clear hK K hHeld
                      have hHeld := hHeld1
                      clear hHeld1
                      try simp only [Act.put, List.setIfInBounds_toArray, List.set_cons_zero, List.set_cons_succ]
                      refine take_yes (i := 10) (d := 64) (v := ?_) rfl rfl (by kernel_rfl) (by kernel_rfl) (by kernel_rfl) (fun _ _ _ h => h) (by kernel_rfl) ?_ hHeld ?_
                      rotate_left
                      · (intro w hSw; (try dsimp only at hSw); go_simp; try (with_reducible rfl))
                      try simp only [Act.put, List.setIfInBounds_toArray, List.set_cons_zero, List.set_cons_succ]
                      refine take_yes (i := 11) (d := 65) (v := ?_) rfl rfl (by kernel_rfl) (by kernel_rfl) (by kernel_rfl) (fun _ _ _ h => h) (by kernel_rfl) ?_ hHeld ?_
                      rotate_left
                      · (intro w hSw; (try dsimp only at hSw); go_simp; try (with_reducible rfl))
                      try simp only [Act.put, List.setIfInBounds_toArray, List.set_cons_zero, List.set_cons_succ]
                      refine take_yes (i := 12) (d := 66) (v := ?_) rfl rfl (by kernel_rfl) (by kernel_rfl) (by kernel_rfl) (fun _ _ _ h => h) (by kernel_rfl) ?_ hHeld ?_
                      rotate_left
                      · (intro w hSw; (try dsimp only at hSw); go_simp; try (with_reducible rfl))
                      try simp only [Act.put, List.setIfInBounds_toArray, List.set_cons_zero, List.set_cons_succ]
                      refine take_yes (i := 13) (d := 67) (v := ?_) rfl rfl (by kernel_rfl) (by kernel_rfl) (by kernel_rfl) (fun _ _ _ h => h) (by kernel_rfl) ?_ hHeld ?_
                      rotate_left
                      · (intro w hSw; (try dsimp only at hSw); go_simp; try (with_reducible rfl))
                      try simp only [Act.put, List.setIfInBounds_toArray, List.set_cons_zero, List.set_cons_succ]
                      refine take_yes (i := 14) (d := 68) (v := ?_) rfl rfl (by kernel_rfl) (by kernel_rfl) (by kernel_rfl) (fun _ _ _ h => h) (by kernel_rfl) ?_ hHeld ?_
                      rotate_left
                      · (intro w hSw; (try dsimp only at hSw); go_simp; try (with_reducible rfl))
                      try simp only [Act.put, List.setIfInBounds_toArray, List.set_cons_zero, List.set_cons_succ]
                      refine take_yes (i := 15) (d := 69) (v := ?_) rfl rfl (by kernel_rfl) (by kernel_rfl) (by kernel_rfl) (fun _ _ _ h => h) (by kernel_rfl) ?_ hHeld ?_
                      rotate_left
                      · (intro w hSw; (try dsimp only at hSw); go_simp; try (with_reducible rfl))
                      try simp only [Act.put, List.setIfInBounds_toArray, List.set_cons_zero, List.set_cons_succ]
                      refine take_yes (i := 16) (d := 70) (v := ?_) rfl rfl (by kernel_rfl) (by kernel_rfl) (by kernel_rfl) (fun _ _ _ h => h) (by kernel_rfl) ?_ hHeld ?_
                      rotate_left
                      · (intro w hSw; (try dsimp only at hSw); go_simp; try (with_reducible rfl))
                      try simp only [Act.put, List.setIfInBounds_toArray, List.set_cons_zero, List.set_cons_succ]
                      refine take_yes (i := 18) (d := 72) (v := ?_) rfl rfl (by kernel_rfl) (by kernel_rfl) (by kernel_rfl) (fun _ _ _ h => h) (by kernel_rfl) ?_ hHeld ?_
                      rotate_left
                      · (intro w hSw; (try dsimp only at hSw); go_simp; try (with_reducible rfl))
                      try simp only [Act.put, List.setIfInBounds_toArray, List.set_cons_zero, List.set_cons_succ]
                      refine take_yes (i := 19) (d := 73) (v := ?_) rfl rfl (by kernel_rfl) (by kernel_rfl) (by kernel_rfl) (fun _ _ _ h => h) (by kernel_rfl) ?_ hHeld ?_
                      rotate_left
                      · (intro w hSw; (try dsimp only at hSw); go_simp; try (with_reducible rfl))
                      try simp only [Act.put, List.setIfInBounds_toArray, List.set_cons_zero, List.set_cons_succ]
                      refine take_yes (i := 20) (d := 74) (v := ?_) rfl rfl (by kernel_rfl) (by kernel_rfl) (by kernel_rfl) (fun _ _ _ h => h) (by kernel_rfl) ?_ hHeld ?_
                      rotate_left
                      · (intro w hSw; (try dsimp only at hSw); go_simp; try (with_reducible rfl))
                      try simp only [Act.put, List.setIfInBounds_toArray, List.set_cons_zero, List.set_cons_succ]
                      refine take_yes (i := 21) (d := 75) (v := ?_) rfl rfl (by kernel_rfl) (by kernel_rfl) (by kernel_rfl) (fun _ _ _ h => h) (by kernel_rfl) ?_ hHeld ?_
                      rotate_left
                      · (intro w hSw; (try dsimp only at hSw); go_simp; try (with_reducible rfl))
                      try simp only [Act.put, List.setIfInBounds_toArray, List.set_cons_zero, List.set_cons_succ]
                      refine take_yes (i := 22) (d := 76) (v := ?_) rfl rfl (by kernel_rfl) (by kernel_rfl) (by kernel_rfl) (fun _ _ _ h => h) (by kernel_rfl) ?_ hHeld ?_
                      rotate_left
                      · (intro w hSw; (try dsimp only at hSw); go_simp; try (with_reducible rfl))
                      try simp only [Act.put, List.setIfInBounds_toArray, List.set_cons_zero, List.set_cons_succ]
                      refine wpAnyH_ready (rs := [17]) (by kernel_rfl) (by simp) ?_
                      refine AllReadyH.cons rfl (fun K hK => ?_) AllReadyH.nil
                      go_simp
                      (go_at_call 124; refine (l7Rank_at (some b) c xs p _ ((HA.out.below HW1.out).below HB1.out) hm HP.out).mono ?_; rintro e w5 ⟨rfl, hb⟩; have HB2 := Lib.hid (HB1.out.trans (hb.mono HB1.out.size)); clear hb)
                      (first | refine hK.out _ _ ?_ (fun hHeld1 => ?_) | (go_wp2_with fail; refine hK.out _ _ ?_ (fun hHeld1 => ?_)))
                      · ((try dsimp only); (first | exact ⟨HB2.out, (HB2.out.cell (World.block_lt_of_cell? _ _ p0)).trans p0, (HB2.out.cell (World.block_lt_of_cell? _ _ p1)).trans p1, (HB2.out.cell (World.block_lt_of_cell? _ _ p2)).trans p2, (HB2.out.cell (World.block_lt_of_cell? _ _ x2)).trans x2⟩ | exact ⟨HB1.out, (HB1.out.cell (World.block_lt_of_cell? _ _ p0)).trans p0, (HB1.out.cell (World.block_lt_of_cell? _ _ p1)).trans p1, (HB1.out.cell (World.block_lt_of_cell? _ _ p2)).trans p2, (HB1.out.cell (World.block_lt_of_cell? _ _ x2)).trans x2⟩ | exact ⟨(Below.refl _ _).drew, p0, p1, p2, x2⟩))
                      clear hK K hHeld
                      have hHeld := hHeld1
                      clear hHeld1
                      try simp only [Act.put, List.setIfInBounds_toArray, List.set_cons_zero, List.set_cons_succ]
                      refine take_yes (i := 23) (d := 77) (v := ?_) rfl rfl (by kernel_rfl) (by kernel_rfl) (by kernel_rfl) (fun _ _ _ h => h) (by kernel_rfl) ?_ hHeld ?_
                      rotate_left
                      · (intro w hSw; (try dsimp only at hSw); go_simp; try (with_reducible rfl))
                      try simp only [Act.put, List.setIfInBounds_toArray, List.set_cons_zero, List.set_cons_succ]
                      refine take_yes (i := 24) (d := 78) (v := ?_) rfl rfl (by kernel_rfl) (by kernel_rfl) (by kernel_rfl) (fun _ _ _ h => h) (by kernel_rfl) ?_ hHeld ?_
                      rotate_left
                      · (intro w hSw; (try dsimp only at hSw); go_simp; try (with_reducible rfl))
                      try simp only [Act.put, List.setIfInBounds_toArray, List.set_cons_zero, List.set_cons_succ]
                      refine take_yes (i := 25) (d := 79) (v := ?_) rfl rfl (by kernel_rfl) (by kernel_rfl) (by kernel_rfl) (fun _ _ _ h => h) (by kernel_rfl) ?_ hHeld ?_
                      rotate_left
                      · (intro w hSw; (try dsimp only at hSw); go_simp; try (with_reducible rfl))
                      try simp only [Act.put, List.setIfInBounds_toArray, List.set_cons_zero, List.set_cons_succ]
                      refine wpAnyH_done (by kernel_rfl) ?_ _
                      refine NoPanic.normal ?_
                      go_wp2
                      go_roundw
                      case rel => exact ⟨k + 1, by omega, by go_num, HS.out, HW1.out.trans (HB2.out.mono HW1.out.size)⟩
                      case measure => simp [intOf]; omega
            · have HN := Lib.hid (pendB_no (rs := xs) hlt (show okQ xs qs k = false by rw [HK.out, hmm]; simp))
              clear hq HK
              go_wp2_with fail
              refine (l7Member_any q.m _).mono ?_
              rintro e w2 ⟨rfl, rfl⟩
              rw [hmm]
              go_wp2
              go_ret
              exact ⟨ret_bool HN.out.symm, HW1.out⟩
          · have HN := Lib.hid (pendB_no (rs := xs) hlt (show okQ xs qs k = false by rw [HK.out, decide_eq_false hix]; simp))
            have hix2 : ixR xs q.r < 0 := by omega
            clear hix hq HK
            go_wp2
            go_ret
            exact ⟨ret_bool HN.out.symm, HW1.out⟩
        · obtain rfl : k = qs.length := by omega
          have HA := Lib.hid (HR.out.trans hq.out)
          go_wp2
          go_ret
          exact ⟨ret_bool HA.out.symm, HB.out⟩
    · have HR := Lib.hid (show pendB xs qs = false by unfold pendB; rw [decide_eq_false h6]; simp)
      go_enter Try.func72, Try.ntmps72
      go_wp2_with (go_at_call 97; refine (HV.out _ HA.out).mono ?_; rintro e w1 ⟨rfl, hb⟩; rw [hr]; have HB0 := Lib.hid hb; clear hb)
      go_ret
      exact ⟨ret_bool HR.out.symm, HB0.out⟩
  · have HR := Lib.hid (show pendB xs qs = false by unfold pendB; rw [hr]; simp)
    go_enter Try.func72, Try.ntmps72
    go_wp2_with (go_at_call 97; refine (HV.out _ HA.out).mono ?_; rintro e w1 ⟨rfl, hb⟩; rw [hr]; have HB0 := Lib.hid hb; clear hb)
    go_ret
    exact ⟨ret_bool HR.out.symm, HB0.out⟩
theorem sArePending_any (A : Option Addr) (c : Nat) (xs : List Rul) (D : Option Addr) (d : Nat) (qs : List Qst) (w : World) (ha : Cells w A (RuleK.row xs)) (hm : xs.length ≤ 1048576) (hcc : xs.length ≤ c) (hf : ∀ x ∈ xs, RuleK.fit x) (hd : Cells w D (QuestionK.row qs)) (hn : qs.length ≤ 1048576) :
    Calls Try.prog 26 #[.slice A xs.length c, .slice D qs.length d] w fun e w' => e = .returned (.bool (pendB xs qs)) ∧ Below w.heap.size w w' := by
  have HV := Lib.hid (fun W h1 h2 => l7Good_any A c xs D d qs W h1 hm hcc hf h2 hn)
  have HA := Lib.hid ha
  have HD := Lib.hid hd
  clear ha hd hf
  go_enter Try.func26, Try.ntmps26
  go_wp2_with (go_at_call 72; refine (HV.out _ HA.out HD.out).mono ?_; rintro e w1 ⟨rfl, hb⟩; have HB0 := Lib.hid hb; clear hb)
  go_ret
  exact ⟨rfl, HB0.out⟩
end Go.Proofs.Ytifahgdalgjgfaa
