/- Lists of pending questions, in the program. Conditions: the ranges named. -/
import Derived.Test.YtifahgdalgjgfaaPd
import Derived.Test.YtifahgdalgjgfaaRu2
import Derived.Deep.DrawnRows
namespace Go.Proofs.Ytifahgdalgjgfaa
open Go.RowKit
set_option linter.unusedVariables false
attribute [local go_sem ↓] Go.wp_at_zero Go.wp_at_succ
def Q3 (w : World) (b : Nat) (q : Qst) : Prop := w.cell? ⟨b, 0, none⟩ = some (.int .i64 q.r) ∧ w.cell? ⟨b, 1, none⟩ = some (.int .i64 q.m) ∧ w.cell? ⟨b, 2, none⟩ = some (.bool q.s)
theorem Q3.keep {W w1 : World} {b B : Nat} {q : Qst} (h : Q3 W b q) (hb : Below B W w1) (hlt : b < B) : Q3 w1 b q := ⟨(hb.cell (p := ⟨b, 0, none⟩) hlt).trans h.1, (hb.cell (p := ⟨b, 1, none⟩) hlt).trans h.2.1, (hb.cell (p := ⟨b, 2, none⟩) hlt).trans h.2.2⟩
theorem fld_rk (v0 v1 : Value) (r : Int) (v3 v4 v5 v6 : Value) (w : World) : (Instr.field 52 (.agg #[v0, v1, .int .i64 r, v3, v4, v5, v6]) 2).run Try.prog w = .ok (.int .i64 r) w := by kernel_rfl
set_option maxHeartbeats 4000000 in
set_option maxRecDepth 100000 in
theorem ArePending_any (A : Option Addr) (c : Nat) (xs : List Rul) (D : Option Addr) (d : Nat) (qs : List Qst) (w : World) (ha : Cells w A (RuleK.row xs)) (hm : xs.length ≤ 1048576) (hcc : xs.length ≤ c) (hf : ∀ x ∈ xs, RuleK.fit x) (hd : Cells w D (QuestionK.row qs)) (hn : qs.length ≤ 1048576) :
    Calls Try.prog 16 #[.slice A xs.length c, .slice D qs.length d] w fun e w' => e = .returned (.bool (pendB xs qs)) ∧ Below w.heap.size w w' := by
  have HA := Lib.hid ha
  have HD := Lib.hid hd
  have HV := Lib.hid (fun W hW => IsValidRules_any A c xs W hW hm hcc hf)
  clear ha hd hf
  rcases Bool.eq_false_or_eq_true (rulesB xs) with hr | hr
  · by_cases h6 : (qs.length : Int) ≤ 6
    · have HR := Lib.hid (show pendB xs qs = allN (okQ xs qs) qs.length by unfold pendB; rw [hr, decide_eq_true h6]; simp)
      go_enter Try.func16, Try.ntmps16
      go_wp2_with (go_at_call 76; refine (HV.out _ HA.out).mono ?_; rintro e w1 ⟨rfl, hb⟩; rw [hr]; have HB0 := Lib.hid hb; clear hb)
      go_loopw [17] (fun i wr => ∃ k : Nat, k ≤ qs.length ∧ i = .int .i64 k ∧ Hid (allN (okQ xs qs) k = true) ∧ Below w.heap.size w wr) (fun i _ => qs.length - (intOf i).toNat)
      case atStart => exact ⟨0, Nat.zero_le _, rfl, rfl, HB0.out⟩
      case round =>
        obtain ⟨k, hk, rfl, hq, hB⟩ := hrel
        have HB := Lib.hid hB
        clear hB HB0
        by_cases hlt : k < qs.length
        · obtain ⟨a, rfl, hc0, hc1, hc2⟩ := question_at (HD.out.below HB.out) hlt
          have i1 : (k : Int) < (qs.length : Int) := by omega
          obtain ⟨q, hqq⟩ : ∃ q, Hid (qs[k] = q) := ⟨_, Lib.hid rfl⟩
          have HK := Lib.hid (okQ_eq hlt (rs := xs))
          rw [hqq.out] at hc0 hc1 hc2 HK
          go_wp2_with fail
          have nb := BoxF.new wr #[.int .i64 q.r, .int .i64 q.m, .bool q.s] 32
          have hW := below1 wr (.cells #[.int .i64 q.r, .int .i64 q.m, .bool q.s] 32)
          have hsz : wr.heap.size < (wr.alloc (.cells #[.int .i64 q.r, .int .i64 q.m, .bool q.s] 32)).heap.size := by simp
          generalize wr.alloc (.cells #[.int .i64 q.r, .int .i64 q.m, .bool q.s] 32) = W at *
          refine (ruleIndex_any A c xs q.r W ((HA.out.below HB.out).below hW) hm).mono ?_
          rintro e w1 ⟨rfl, hb⟩
          have q0 := (hb.cell (p := ⟨wr.heap.size, 0, none⟩) hsz).trans (nb.1 0 _ rfl)
          have q1 := (hb.cell (p := ⟨wr.heap.size, 1, none⟩) hsz).trans (nb.1 1 _ rfl)
          have q2 := (hb.cell (p := ⟨wr.heap.size, 2, none⟩) hsz).trans (nb.1 2 _ rfl)
          have HQ2 := Lib.hid q2
          have HW1 := Lib.hid (HB.out.trans ((hW.trans (hb.mono hW.size)).mono HB.out.size))
          have hlt1 : wr.heap.size < w1.heap.size := Nat.lt_of_lt_of_le hsz hb.size
          clear nb hW hsz hb hc0 hc1 hc2
          by_cases hix : 0 ≤ ixR xs q.r
          · have hix2 : ¬ ixR xs q.r < 0 := by omega
            have HIX := Lib.hid hix
            clear hix
            rcases Bool.eq_false_or_eq_true (memB q.m) with hmm | hmm
            · go_wp2_with fail
              refine (isMember_any q.m _).mono ?_
              rintro e w2 ⟨rfl, rfl⟩
              rw [hmm]
              rcases Bool.eq_false_or_eq_true q.s with hs | hs
              · rw [hs] at q2
                rcases Bool.eq_false_or_eq_true (ruleAt xs q).sc with hc | hc
                · have hc2 : (ruleAt xs ⟨q.r, q.m, true⟩).sc = true := hc
                  go_wp2_with fail
                  refine (ruleOf_at A c xs ⟨q.r, q.m, true⟩ _ (HA.out.below HW1.out) hm HIX.out).mono ?_
                  rintro e w2 ⟨rfl, hb⟩
                  rw [hc2]
                  have q0 := (hb.cell (p := ⟨wr.heap.size, 0, none⟩) hlt1).trans q0
                  have q1 := (hb.cell (p := ⟨wr.heap.size, 1, none⟩) hlt1).trans q1
                  have q2 := (hb.cell (p := ⟨wr.heap.size, 2, none⟩) hlt1).trans q2
                  have HQ2 := Lib.hid ((hb.cell (p := ⟨wr.heap.size, 2, none⟩) hlt1).trans HQ2.out)
                  have HW2 := Lib.hid (HW1.out.trans (hb.mono HW1.out.size))
                  have hfl := fld_sc
                  clear hb
                  have HK2 : okQ xs qs k = (k == 0 || !(lackB xs (qs[k - 1]'(by omega)) || decide ((ruleAt xs q).rk ≤ (ruleAt xs (qs[k - 1]'(by omega))).rk))) := by rw [HK.out, decide_eq_true HIX.out, hmm, hs, hc]; simp
                  clear hs hc hc2
                  by_cases hk0 : k = 0
                  · have HS := Lib.hid (allN_step hq.out (show okQ xs qs k = true by rw [HK2]; simp [hk0]))
                    have q9 : decide ((0 : Int) < (k : Int)) = false := decide_eq_false (by omega)
                    have q5 : decide (0 < k) = false := decide_eq_false (by omega)
                    clear hq HK HK2 hk0 q0 q1 q2
                    go_wp2
                    refine wp_region_noPanic ?_
                    refine wp_region_held_drew (S := (fun w' => Below w2.heap.size w2 w')) (by kernel_rfl) ?_ (fun hHeld => ?_)
                    · ((try dsimp only); (exact (Below.refl _ _).drew))
                    refine take_yes (i := 0) (d := 44) (v := ?_) rfl rfl (by kernel_rfl) (by kernel_rfl) (by kernel_rfl) (fun _ _ _ h => h) (by kernel_rfl) ?_ hHeld ?_
                    rotate_left
                    · (intro w hSw; (try dsimp only at hSw); go_simp; try (with_reducible rfl))
                    try simp only [Act.put, List.setIfInBounds_toArray, List.set_cons_zero, List.set_cons_succ]
                    refine take_yes (i := 1) (d := 45) (v := ?_) rfl rfl (by kernel_rfl) (by kernel_rfl) (by kernel_rfl) (fun _ _ _ h => h) (by kernel_rfl) ?_ hHeld ?_
                    rotate_left
                    · (intro w hSw; (try dsimp only at hSw); go_simp; try (with_reducible rfl))
                    try simp only [Act.put, List.setIfInBounds_toArray, List.set_cons_zero, List.set_cons_succ]
                    refine take_yes (i := 2) (d := 46) (v := ?_) rfl rfl (by kernel_rfl) (by kernel_rfl) (by kernel_rfl) (fun _ _ _ h => h) (by kernel_rfl) ?_ hHeld ?_
                    rotate_left
                    · (intro w hSw; (try dsimp only at hSw); go_simp; try (with_reducible rfl))
                    try simp only [Act.put, List.setIfInBounds_toArray, List.set_cons_zero, List.set_cons_succ]
                    refine take_no (i := 3) (d := 47) rfl rfl (by kernel_rfl) (by kernel_rfl) (by kernel_rfl) (fun _ _ _ h => h) (by kernel_rfl) hHeld ?_
                    try simp only [Act.put, List.setIfInBounds_toArray, List.set_cons_zero, List.set_cons_succ]
                    refine take_no (i := 4) (d := 48) rfl rfl (by kernel_rfl) (by kernel_rfl) (by kernel_rfl) (fun _ _ _ h => h) (by kernel_rfl) hHeld ?_
                    try simp only [Act.put, List.setIfInBounds_toArray, List.set_cons_zero, List.set_cons_succ]
                    refine take_no (i := 5) (d := 49) rfl rfl (by kernel_rfl) (by kernel_rfl) (by kernel_rfl) (fun _ _ _ h => h) (by kernel_rfl) hHeld ?_
                    try simp only [Act.put, List.setIfInBounds_toArray, List.set_cons_zero, List.set_cons_succ]
                    refine take_no (i := 6) (d := 50) rfl rfl (by kernel_rfl) (by kernel_rfl) (by kernel_rfl) (fun _ _ _ h => h) (by kernel_rfl) hHeld ?_
                    try simp only [Act.put, List.setIfInBounds_toArray, List.set_cons_zero, List.set_cons_succ]
                    refine take_no (i := 7) (d := 51) rfl rfl (by kernel_rfl) (by kernel_rfl) (by kernel_rfl) (fun _ _ _ h => h) (by kernel_rfl) hHeld ?_
                    try simp only [Act.put, List.setIfInBounds_toArray, List.set_cons_zero, List.set_cons_succ]
                    refine take_no (i := 8) (d := 52) rfl rfl (by kernel_rfl) (by kernel_rfl) (by kernel_rfl) (fun _ _ _ h => h) (by kernel_rfl) hHeld ?_
                    try simp only [Act.put, List.setIfInBounds_toArray, List.set_cons_zero, List.set_cons_succ]
                    refine take_no (i := 9) (d := 53) rfl rfl (by kernel_rfl) (by kernel_rfl) (by kernel_rfl) (fun _ _ _ h => h) (by kernel_rfl) hHeld ?_
                    try simp only [Act.put, List.setIfInBounds_toArray, List.set_cons_zero, List.set_cons_succ]
                    refine take_no (i := 10) (d := 54) rfl rfl (by kernel_rfl) (by kernel_rfl) (by kernel_rfl) (fun _ _ _ h => h) (by kernel_rfl) hHeld ?_
                    try simp only [Act.put, List.setIfInBounds_toArray, List.set_cons_zero, List.set_cons_succ]
                    refine take_no (i := 11) (d := 55) rfl rfl (by kernel_rfl) (by kernel_rfl) (by kernel_rfl) (fun _ _ _ h => h) (by kernel_rfl) hHeld ?_
                    try simp only [Act.put, List.setIfInBounds_toArray, List.set_cons_zero, List.set_cons_succ]
                    refine take_no (i := 12) (d := 56) rfl rfl (by kernel_rfl) (by kernel_rfl) (by kernel_rfl) (fun _ _ _ h => h) (by kernel_rfl) hHeld ?_
                    try simp only [Act.put, List.setIfInBounds_toArray, List.set_cons_zero, List.set_cons_succ]
                    refine take_no (i := 13) (d := 57) rfl rfl (by kernel_rfl) (by kernel_rfl) (by kernel_rfl) (fun _ _ _ h => h) (by kernel_rfl) hHeld ?_
                    try simp only [Act.put, List.setIfInBounds_toArray, List.set_cons_zero, List.set_cons_succ]
                    refine take_no (i := 14) (d := 58) rfl rfl (by kernel_rfl) (by kernel_rfl) (by kernel_rfl) (fun _ _ _ h => h) (by kernel_rfl) hHeld ?_
                    try simp only [Act.put, List.setIfInBounds_toArray, List.set_cons_zero, List.set_cons_succ]
                    refine take_no (i := 15) (d := 59) rfl rfl (by kernel_rfl) (by kernel_rfl) (by kernel_rfl) (fun _ _ _ h => h) (by kernel_rfl) hHeld ?_
                    try simp only [Act.put, List.setIfInBounds_toArray, List.set_cons_zero, List.set_cons_succ]
                    refine take_no (i := 16) (d := 60) rfl rfl (by kernel_rfl) (by kernel_rfl) (by kernel_rfl) (fun _ _ _ h => h) (by kernel_rfl) hHeld ?_
                    try simp only [Act.put, List.setIfInBounds_toArray, List.set_cons_zero, List.set_cons_succ]
                    refine take_no (i := 17) (d := 61) rfl rfl (by kernel_rfl) (by kernel_rfl) (by kernel_rfl) (fun _ _ _ h => h) (by kernel_rfl) hHeld ?_
                    try simp only [Act.put, List.setIfInBounds_toArray, List.set_cons_zero, List.set_cons_succ]
                    refine take_no (i := 18) (d := 62) rfl rfl (by kernel_rfl) (by kernel_rfl) (by kernel_rfl) (fun _ _ _ h => h) (by kernel_rfl) hHeld ?_
                    try simp only [Act.put, List.setIfInBounds_toArray, List.set_cons_zero, List.set_cons_succ]
                    refine take_no (i := 19) (d := 63) rfl rfl (by kernel_rfl) (by kernel_rfl) (by kernel_rfl) (fun _ _ _ h => h) (by kernel_rfl) hHeld ?_
                    try simp only [Act.put, List.setIfInBounds_toArray, List.set_cons_zero, List.set_cons_succ]
                    refine take_no (i := 20) (d := 64) rfl rfl (by kernel_rfl) (by kernel_rfl) (by kernel_rfl) (fun _ _ _ h => h) (by kernel_rfl) hHeld ?_
                    try simp only [Act.put, List.setIfInBounds_toArray, List.set_cons_zero, List.set_cons_succ]
                    refine take_no (i := 21) (d := 65) rfl rfl (by kernel_rfl) (by kernel_rfl) (by kernel_rfl) (fun _ _ _ h => h) (by kernel_rfl) hHeld ?_
                    try simp only [Act.put, List.setIfInBounds_toArray, List.set_cons_zero, List.set_cons_succ]
                    refine take_no (i := 22) (d := 66) rfl rfl (by kernel_rfl) (by kernel_rfl) (by kernel_rfl) (fun _ _ _ h => h) (by kernel_rfl) hHeld ?_
                    try simp only [Act.put, List.setIfInBounds_toArray, List.set_cons_zero, List.set_cons_succ]
                    refine take_no (i := 23) (d := 67) rfl rfl (by kernel_rfl) (by kernel_rfl) (by kernel_rfl) (fun _ _ _ h => h) (by kernel_rfl) hHeld ?_
                    try simp only [Act.put, List.setIfInBounds_toArray, List.set_cons_zero, List.set_cons_succ]
                    refine take_no (i := 24) (d := 68) rfl rfl (by kernel_rfl) (by kernel_rfl) (by kernel_rfl) (fun _ _ _ h => h) (by kernel_rfl) hHeld ?_
                    try simp only [Act.put, List.setIfInBounds_toArray, List.set_cons_zero, List.set_cons_succ]
                    refine take_yes (i := 25) (d := 69) (v := ?_) rfl rfl (by kernel_rfl) (by kernel_rfl) (by kernel_rfl) (fun _ _ _ h => h) (by kernel_rfl) ?_ hHeld ?_
                    rotate_left
                    · (intro w hSw; (try dsimp only at hSw); go_simp; try (with_reducible rfl))
                    try simp only [Act.put, List.setIfInBounds_toArray, List.set_cons_zero, List.set_cons_succ]
                    refine wpAnyH_done (by kernel_rfl) ?_ _
                    refine NoPanic.normal ?_
                    go_wp2
                    go_roundw
                    case rel => exact ⟨k + 1, by omega, by go_num, HS.out, HW2.out.trans (hHeld.mono HW2.out.size)⟩
                    case measure => simp [intOf]; omega
                  · have hk1 : 0 < k := by omega
                    obtain ⟨a', ha', p0, p1, p2⟩ := question_at (HD.out.below HW2.out) (show k - 1 < qs.length by omega)
                    obtain rfl : a = a' := by simpa using ha'
                    have t1 : IntKind.i64.wrap ((k : Int) - 1) = (k : Int) - 1 := by rw [IntKind.wrap_i64]; omega
                    have t2 : ((k : Int) - 1).toNat = k - 1 := by omega
                    have t3 : (0 : Int) ≤ (k : Int) - 1 := by omega
                    have t4 : (k : Int) - 1 < (qs.length : Int) := by omega
                    have t9 : decide ((0 : Int) < (k : Int)) = true := decide_eq_true (by omega)
                    have t5 : decide (0 < k) = true := decide_eq_true (by omega)
                    have t7 : (1 : Int) ≤ (k : Int) := by omega
                    have t8 : (k : Int) ≤ (qs.length : Int) := by omega
                    have Q2 := HQ2.out
                    have HP := Lib.hid (okQ_ix (show k - 1 < qs.length by omega) (allN_yes.1 hq.out (k - 1) (by omega)))
                    rw [show (k == 0) = false by simp; omega] at HK2
                    obtain ⟨p, hp⟩ : ∃ p, Hid (qs[k - 1] = p) := ⟨_, Lib.hid rfl⟩
                    rw [hp.out] at p0 p1 p2 HP HK2
                    clear ha' hk0 q2 hp
                    rcases Bool.eq_false_or_eq_true (lackB xs p) with hl | hl
                    · have HN := Lib.hid (pendB_no (rs := xs) hlt (show okQ xs qs k = false by rw [HK2, hl]; rfl))
                      clear hq HK HK2
                      go_wp2
                      refine wp_region_noPanic ?_
                      refine wp_region_held_drew (S := (fun w' => Below w2.heap.size w2 w' ∧ w'.cell? (a.add ((k - 1) * 3)) = some (.int .i64 p.r) ∧ w'.cell? ⟨(a.add ((k - 1) * 3)).block, (a.add ((k - 1) * 3)).off + 1, none⟩ = some (.int .i64 p.m) ∧ w'.cell? ⟨(a.add ((k - 1) * 3)).block, (a.add ((k - 1) * 3)).off + 2, none⟩ = some (.bool p.s) ∧ w'.cell? ⟨wr.heap.size, 0, none⟩ = some (.int .i64 q.r) ∧ w'.cell? ⟨wr.heap.size, 1, none⟩ = some (.int .i64 q.m) ∧ w'.cell? ⟨wr.heap.size, 2, none⟩ = some (.bool q.s))) (by kernel_rfl) ?_ (fun hHeld => ?_)
                      · ((try dsimp only); (first | exact ⟨HB3.out, (HB3.out.cell (World.block_lt_of_cell? _ _ p0)).trans p0, (HB3.out.cell (World.block_lt_of_cell? _ _ p1)).trans p1, (HB3.out.cell (World.block_lt_of_cell? _ _ p2)).trans p2, (HB3.out.cell (World.block_lt_of_cell? _ _ q0)).trans q0, (HB3.out.cell (World.block_lt_of_cell? _ _ q1)).trans q1, (HB3.out.cell (World.block_lt_of_cell? _ _ Q2)).trans Q2⟩ | exact ⟨HB2.out, (HB2.out.cell (World.block_lt_of_cell? _ _ p0)).trans p0, (HB2.out.cell (World.block_lt_of_cell? _ _ p1)).trans p1, (HB2.out.cell (World.block_lt_of_cell? _ _ p2)).trans p2, (HB2.out.cell (World.block_lt_of_cell? _ _ q0)).trans q0, (HB2.out.cell (World.block_lt_of_cell? _ _ q1)).trans q1, (HB2.out.cell (World.block_lt_of_cell? _ _ Q2)).trans Q2⟩ | exact ⟨HB1.out, (HB1.out.cell (World.block_lt_of_cell? _ _ p0)).trans p0, (HB1.out.cell (World.block_lt_of_cell? _ _ p1)).trans p1, (HB1.out.cell (World.block_lt_of_cell? _ _ p2)).trans p2, (HB1.out.cell (World.block_lt_of_cell? _ _ q0)).trans q0, (HB1.out.cell (World.block_lt_of_cell? _ _ q1)).trans q1, (HB1.out.cell (World.block_lt_of_cell? _ _ Q2)).trans Q2⟩ | exact ⟨(Below.refl _ _).drew, p0, p1, p2, q0, q1, Q2⟩))
                      refine take_yes (i := 0) (d := 44) (v := ?_) rfl rfl (by kernel_rfl) (by kernel_rfl) (by kernel_rfl) (fun _ _ _ h => h) (by kernel_rfl) ?_ hHeld ?_
                      rotate_left
                      · (intro w hSw; (try dsimp only at hSw); go_simp; try (with_reducible rfl))
                      try simp only [Act.put, List.setIfInBounds_toArray, List.set_cons_zero, List.set_cons_succ]
                      refine take_yes (i := 1) (d := 45) (v := ?_) rfl rfl (by kernel_rfl) (by kernel_rfl) (by kernel_rfl) (fun _ _ _ h => h) (by kernel_rfl) ?_ hHeld ?_
                      rotate_left
                      · (intro w hSw; (try dsimp only at hSw); go_simp; try (with_reducible rfl))
                      try simp only [Act.put, List.setIfInBounds_toArray, List.set_cons_zero, List.set_cons_succ]
                      refine take_yes (i := 2) (d := 46) (v := ?_) rfl rfl (by kernel_rfl) (by kernel_rfl) (by kernel_rfl) (fun _ _ _ h => h) (by kernel_rfl) ?_ hHeld ?_
                      rotate_left
                      · (intro w hSw; (try dsimp only at hSw); go_simp; try (with_reducible rfl))
                      try simp only [Act.put, List.setIfInBounds_toArray, List.set_cons_zero, List.set_cons_succ]
                      refine take_yes (i := 3) (d := 47) (v := ?_) rfl rfl (by kernel_rfl) (by kernel_rfl) (by kernel_rfl) (fun _ _ _ h => h) (by kernel_rfl) ?_ hHeld ?_
                      rotate_left
                      · (intro w hSw; (try dsimp only at hSw); go_simp; try (with_reducible rfl))
                      try simp only [Act.put, List.setIfInBounds_toArray, List.set_cons_zero, List.set_cons_succ]
                      refine take_yes (i := 4) (d := 48) (v := ?_) rfl rfl (by kernel_rfl) (by kernel_rfl) (by kernel_rfl) (fun _ _ _ h => h) (by kernel_rfl) ?_ hHeld ?_
                      rotate_left
                      · (intro w hSw; (try dsimp only at hSw); go_simp; try (with_reducible rfl))
                      try simp only [Act.put, List.setIfInBounds_toArray, List.set_cons_zero, List.set_cons_succ]
                      refine take_yes (i := 5) (d := 49) (v := ?_) rfl rfl (by kernel_rfl) (by kernel_rfl) (by kernel_rfl) (fun _ _ _ h => h) (by kernel_rfl) ?_ hHeld ?_
                      rotate_left
                      · (intro w hSw; (try dsimp only at hSw); go_simp; try (with_reducible rfl))
                      try simp only [Act.put, List.setIfInBounds_toArray, List.set_cons_zero, List.set_cons_succ]
                      refine take_yes (i := 6) (d := 50) (v := ?_) rfl rfl (by kernel_rfl) (by kernel_rfl) (by kernel_rfl) (fun _ _ _ h => h) (by kernel_rfl) ?_ hHeld ?_
                      rotate_left
                      · (intro w hSw; (try dsimp only at hSw); go_simp; try (with_reducible rfl))
                      try simp only [Act.put, List.setIfInBounds_toArray, List.set_cons_zero, List.set_cons_succ]
                      refine take_yes (i := 7) (d := 51) (v := ?_) rfl rfl (by kernel_rfl) (by kernel_rfl) (by kernel_rfl) (fun _ _ _ h => h) (by kernel_rfl) ?_ hHeld ?_
                      rotate_left
                      · (intro w hSw; (try dsimp only at hSw); go_simp; try (with_reducible rfl))
                      try simp only [Act.put, List.setIfInBounds_toArray, List.set_cons_zero, List.set_cons_succ]
                      refine take_yes (i := 8) (d := 52) (v := ?_) rfl rfl (by kernel_rfl) (by kernel_rfl) (by kernel_rfl) (fun _ _ _ h => h) (by kernel_rfl) ?_ hHeld ?_
                      rotate_left
                      · (intro w hSw; (try dsimp only at hSw); go_simp; try (with_reducible rfl))
                      try simp only [Act.put, List.setIfInBounds_toArray, List.set_cons_zero, List.set_cons_succ]
                      refine wpAnyH_ready (rs := [9]) (by kernel_rfl) (by simp) ?_
                      refine AllReadyH.cons rfl (fun K hK => ?_) AllReadyH.nil
                      go_simp
                      (go_at_call 79; refine (lacksSecond_at A c xs p _ (HA.out.below (below_drewN HW2.out 1)) hm HP.out).mono ?_; rintro e w4 ⟨rfl, hb⟩; rw [hl]; have HB1 := Lib.hid ((below_drewN (Below.refl w2.heap.size w2) 1).trans hb); clear hb)
                      (first | refine hK.out _ _ ?_ (fun hHeld1 => ?_) | (go_wp2_with fail; refine hK.out _ _ ?_ (fun hHeld1 => ?_)))
                      · ((try dsimp only); (first | exact ⟨HB3.out, (HB3.out.cell (World.block_lt_of_cell? _ _ p0)).trans p0, (HB3.out.cell (World.block_lt_of_cell? _ _ p1)).trans p1, (HB3.out.cell (World.block_lt_of_cell? _ _ p2)).trans p2, (HB3.out.cell (World.block_lt_of_cell? _ _ q0)).trans q0, (HB3.out.cell (World.block_lt_of_cell? _ _ q1)).trans q1, (HB3.out.cell (World.block_lt_of_cell? _ _ Q2)).trans Q2⟩ | exact ⟨HB2.out, (HB2.out.cell (World.block_lt_of_cell? _ _ p0)).trans p0, (HB2.out.cell (World.block_lt_of_cell? _ _ p1)).trans p1, (HB2.out.cell (World.block_lt_of_cell? _ _ p2)).trans p2, (HB2.out.cell (World.block_lt_of_cell? _ _ q0)).trans q0, (HB2.out.cell (World.block_lt_of_cell? _ _ q1)).trans q1, (HB2.out.cell (World.block_lt_of_cell? _ _ Q2)).trans Q2⟩ | exact ⟨HB1.out, (HB1.out.cell (World.block_lt_of_cell? _ _ p0)).trans p0, (HB1.out.cell (World.block_lt_of_cell? _ _ p1)).trans p1, (HB1.out.cell (World.block_lt_of_cell? _ _ p2)).trans p2, (HB1.out.cell (World.block_lt_of_cell? _ _ q0)).trans q0, (HB1.out.cell (World.block_lt_of_cell? _ _ q1)).trans q1, (HB1.out.cell (World.block_lt_of_cell? _ _ Q2)).trans Q2⟩ | exact ⟨(Below.refl _ _).drew, p0, p1, p2, q0, q1, Q2⟩))
                      clear hK K hHeld
                      have hHeld := hHeld1
                      clear hHeld1
                      try simp only [Act.put, List.setIfInBounds_toArray, List.set_cons_zero, List.set_cons_succ]
                      refine take_yes (i := 10) (d := 54) (v := ?_) rfl rfl (by kernel_rfl) (by kernel_rfl) (by kernel_rfl) (fun _ _ _ h => h) (by kernel_rfl) ?_ hHeld ?_
                      rotate_left
                      · (intro w hSw; (try dsimp only at hSw); go_simp; try (with_reducible rfl))
                      try simp only [Act.put, List.setIfInBounds_toArray, List.set_cons_zero, List.set_cons_succ]
                      refine take_no (i := 11) (d := 55) rfl rfl (by kernel_rfl) (by kernel_rfl) (by kernel_rfl) (fun _ _ _ h => h) (by kernel_rfl) hHeld ?_
                      try simp only [Act.put, List.setIfInBounds_toArray, List.set_cons_zero, List.set_cons_succ]
                      refine take_no (i := 12) (d := 56) rfl rfl (by kernel_rfl) (by kernel_rfl) (by kernel_rfl) (fun _ _ _ h => h) (by kernel_rfl) hHeld ?_
                      try simp only [Act.put, List.setIfInBounds_toArray, List.set_cons_zero, List.set_cons_succ]
                      refine take_no (i := 13) (d := 57) rfl rfl (by kernel_rfl) (by kernel_rfl) (by kernel_rfl) (fun _ _ _ h => h) (by kernel_rfl) hHeld ?_
                      try simp only [Act.put, List.setIfInBounds_toArray, List.set_cons_zero, List.set_cons_succ]
                      refine take_no (i := 14) (d := 58) rfl rfl (by kernel_rfl) (by kernel_rfl) (by kernel_rfl) (fun _ _ _ h => h) (by kernel_rfl) hHeld ?_
                      try simp only [Act.put, List.setIfInBounds_toArray, List.set_cons_zero, List.set_cons_succ]
                      refine take_no (i := 15) (d := 59) rfl rfl (by kernel_rfl) (by kernel_rfl) (by kernel_rfl) (fun _ _ _ h => h) (by kernel_rfl) hHeld ?_
                      try simp only [Act.put, List.setIfInBounds_toArray, List.set_cons_zero, List.set_cons_succ]
                      refine take_no (i := 16) (d := 60) rfl rfl (by kernel_rfl) (by kernel_rfl) (by kernel_rfl) (fun _ _ _ h => h) (by kernel_rfl) hHeld ?_
                      try simp only [Act.put, List.setIfInBounds_toArray, List.set_cons_zero, List.set_cons_succ]
                      refine take_no (i := 17) (d := 61) rfl rfl (by kernel_rfl) (by kernel_rfl) (by kernel_rfl) (fun _ _ _ h => h) (by kernel_rfl) hHeld ?_
                      try simp only [Act.put, List.setIfInBounds_toArray, List.set_cons_zero, List.set_cons_succ]
                      refine take_no (i := 18) (d := 62) rfl rfl (by kernel_rfl) (by kernel_rfl) (by kernel_rfl) (fun _ _ _ h => h) (by kernel_rfl) hHeld ?_
                      try simp only [Act.put, List.setIfInBounds_toArray, List.set_cons_zero, List.set_cons_succ]
                      refine take_no (i := 19) (d := 63) rfl rfl (by kernel_rfl) (by kernel_rfl) (by kernel_rfl) (fun _ _ _ h => h) (by kernel_rfl) hHeld ?_
                      try simp only [Act.put, List.setIfInBounds_toArray, List.set_cons_zero, List.set_cons_succ]
                      refine take_no (i := 20) (d := 64) rfl rfl (by kernel_rfl) (by kernel_rfl) (by kernel_rfl) (fun _ _ _ h => h) (by kernel_rfl) hHeld ?_
                      try simp only [Act.put, List.setIfInBounds_toArray, List.set_cons_zero, List.set_cons_succ]
                      refine take_no (i := 21) (d := 65) rfl rfl (by kernel_rfl) (by kernel_rfl) (by kernel_rfl) (fun _ _ _ h => h) (by kernel_rfl) hHeld ?_
                      try simp only [Act.put, List.setIfInBounds_toArray, List.set_cons_zero, List.set_cons_succ]
                      refine take_no (i := 22) (d := 66) rfl rfl (by kernel_rfl) (by kernel_rfl) (by kernel_rfl) (fun _ _ _ h => h) (by kernel_rfl) hHeld ?_
                      try simp only [Act.put, List.setIfInBounds_toArray, List.set_cons_zero, List.set_cons_succ]
                      refine take_no (i := 23) (d := 67) rfl rfl (by kernel_rfl) (by kernel_rfl) (by kernel_rfl) (fun _ _ _ h => h) (by kernel_rfl) hHeld ?_
                      try simp only [Act.put, List.setIfInBounds_toArray, List.set_cons_zero, List.set_cons_succ]
                      refine take_yes (i := 24) (d := 68) (v := ?_) rfl rfl (by kernel_rfl) (by kernel_rfl) (by kernel_rfl) (fun _ _ _ h => h) (by kernel_rfl) ?_ hHeld ?_
                      rotate_left
                      · (intro w hSw; (try dsimp only at hSw); go_simp; try (with_reducible rfl))
                      try simp only [Act.put, List.setIfInBounds_toArray, List.set_cons_zero, List.set_cons_succ]
                      refine take_yes (i := 25) (d := 69) (v := ?_) rfl rfl (by kernel_rfl) (by kernel_rfl) (by kernel_rfl) (fun _ _ _ h => h) (by kernel_rfl) ?_ hHeld ?_
                      rotate_left
                      · (intro w hSw; (try dsimp only at hSw); go_simp; try (with_reducible rfl))
                      try simp only [Act.put, List.setIfInBounds_toArray, List.set_cons_zero, List.set_cons_succ]
                      refine wpAnyH_done (by kernel_rfl) ?_ _
                      refine NoPanic.normal ?_
                      go_wp2
                      go_ret
                      exact ⟨ret_bool HN.out.symm, HW2.out.trans (HB1.out.mono HW2.out.size)⟩
                    · by_cases hr2 : (ruleAt xs q).rk ≤ (ruleAt xs p).rk
                      · have HN := Lib.hid (pendB_no (rs := xs) hlt (show okQ xs qs k = false by rw [HK2, hl, decide_eq_true hr2]; rfl))
                        have hg : decide ((ruleAt xs q).rk ≤ (ruleAt xs p).rk) = true := decide_eq_true hr2
                        have hfl := fld_rk
                        clear hq HK HK2 hr2
                        go_wp2
                        refine wp_region_noPanic ?_
                        refine wp_region_held_drew (S := (fun w' => Below w2.heap.size w2 w' ∧ w'.cell? (a.add ((k - 1) * 3)) = some (.int .i64 p.r) ∧ w'.cell? ⟨(a.add ((k - 1) * 3)).block, (a.add ((k - 1) * 3)).off + 1, none⟩ = some (.int .i64 p.m) ∧ w'.cell? ⟨(a.add ((k - 1) * 3)).block, (a.add ((k - 1) * 3)).off + 2, none⟩ = some (.bool p.s) ∧ w'.cell? ⟨wr.heap.size, 0, none⟩ = some (.int .i64 q.r) ∧ w'.cell? ⟨wr.heap.size, 1, none⟩ = some (.int .i64 q.m) ∧ w'.cell? ⟨wr.heap.size, 2, none⟩ = some (.bool q.s))) (by kernel_rfl) ?_ (fun hHeld => ?_)
                        · ((try dsimp only); (first | exact ⟨HB3.out, (HB3.out.cell (World.block_lt_of_cell? _ _ p0)).trans p0, (HB3.out.cell (World.block_lt_of_cell? _ _ p1)).trans p1, (HB3.out.cell (World.block_lt_of_cell? _ _ p2)).trans p2, (HB3.out.cell (World.block_lt_of_cell? _ _ q0)).trans q0, (HB3.out.cell (World.block_lt_of_cell? _ _ q1)).trans q1, (HB3.out.cell (World.block_lt_of_cell? _ _ Q2)).trans Q2⟩ | exact ⟨HB2.out, (HB2.out.cell (World.block_lt_of_cell? _ _ p0)).trans p0, (HB2.out.cell (World.block_lt_of_cell? _ _ p1)).trans p1, (HB2.out.cell (World.block_lt_of_cell? _ _ p2)).trans p2, (HB2.out.cell (World.block_lt_of_cell? _ _ q0)).trans q0, (HB2.out.cell (World.block_lt_of_cell? _ _ q1)).trans q1, (HB2.out.cell (World.block_lt_of_cell? _ _ Q2)).trans Q2⟩ | exact ⟨HB1.out, (HB1.out.cell (World.block_lt_of_cell? _ _ p0)).trans p0, (HB1.out.cell (World.block_lt_of_cell? _ _ p1)).trans p1, (HB1.out.cell (World.block_lt_of_cell? _ _ p2)).trans p2, (HB1.out.cell (World.block_lt_of_cell? _ _ q0)).trans q0, (HB1.out.cell (World.block_lt_of_cell? _ _ q1)).trans q1, (HB1.out.cell (World.block_lt_of_cell? _ _ Q2)).trans Q2⟩ | exact ⟨(Below.refl _ _).drew, p0, p1, p2, q0, q1, Q2⟩))
                        refine take_yes (i := 0) (d := 44) (v := ?_) rfl rfl (by kernel_rfl) (by kernel_rfl) (by kernel_rfl) (fun _ _ _ h => h) (by kernel_rfl) ?_ hHeld ?_
                        rotate_left
                        · (intro w hSw; (try dsimp only at hSw); go_simp; try (with_reducible rfl))
                        try simp only [Act.put, List.setIfInBounds_toArray, List.set_cons_zero, List.set_cons_succ]
                        refine take_yes (i := 1) (d := 45) (v := ?_) rfl rfl (by kernel_rfl) (by kernel_rfl) (by kernel_rfl) (fun _ _ _ h => h) (by kernel_rfl) ?_ hHeld ?_
                        rotate_left
                        · (intro w hSw; (try dsimp only at hSw); go_simp; try (with_reducible rfl))
                        try simp only [Act.put, List.setIfInBounds_toArray, List.set_cons_zero, List.set_cons_succ]
                        refine take_yes (i := 2) (d := 46) (v := ?_) rfl rfl (by kernel_rfl) (by kernel_rfl) (by kernel_rfl) (fun _ _ _ h => h) (by kernel_rfl) ?_ hHeld ?_
                        rotate_left
                        · (intro w hSw; (try dsimp only at hSw); go_simp; try (with_reducible rfl))
                        try simp only [Act.put, List.setIfInBounds_toArray, List.set_cons_zero, List.set_cons_succ]
                        refine take_yes (i := 3) (d := 47) (v := ?_) rfl rfl (by kernel_rfl) (by kernel_rfl) (by kernel_rfl) (fun _ _ _ h => h) (by kernel_rfl) ?_ hHeld ?_
                        rotate_left
                        · (intro w hSw; (try dsimp only at hSw); go_simp; try (with_reducible rfl))
                        try simp only [Act.put, List.setIfInBounds_toArray, List.set_cons_zero, List.set_cons_succ]
                        refine take_yes (i := 4) (d := 48) (v := ?_) rfl rfl (by kernel_rfl) (by kernel_rfl) (by kernel_rfl) (fun _ _ _ h => h) (by kernel_rfl) ?_ hHeld ?_
                        rotate_left
                        · (intro w hSw; (try dsimp only at hSw); go_simp; try (with_reducible rfl))
                        try simp only [Act.put, List.setIfInBounds_toArray, List.set_cons_zero, List.set_cons_succ]
                        refine take_yes (i := 5) (d := 49) (v := ?_) rfl rfl (by kernel_rfl) (by kernel_rfl) (by kernel_rfl) (fun _ _ _ h => h) (by kernel_rfl) ?_ hHeld ?_
                        rotate_left
                        · (intro w hSw; (try dsimp only at hSw); go_simp; try (with_reducible rfl))
                        try simp only [Act.put, List.setIfInBounds_toArray, List.set_cons_zero, List.set_cons_succ]
                        refine take_yes (i := 6) (d := 50) (v := ?_) rfl rfl (by kernel_rfl) (by kernel_rfl) (by kernel_rfl) (fun _ _ _ h => h) (by kernel_rfl) ?_ hHeld ?_
                        rotate_left
                        · (intro w hSw; (try dsimp only at hSw); go_simp; try (with_reducible rfl))
                        try simp only [Act.put, List.setIfInBounds_toArray, List.set_cons_zero, List.set_cons_succ]
                        refine take_yes (i := 7) (d := 51) (v := ?_) rfl rfl (by kernel_rfl) (by kernel_rfl) (by kernel_rfl) (fun _ _ _ h => h) (by kernel_rfl) ?_ hHeld ?_
                        rotate_left
                        · (intro w hSw; (try dsimp only at hSw); go_simp; try (with_reducible rfl))
                        try simp only [Act.put, List.setIfInBounds_toArray, List.set_cons_zero, List.set_cons_succ]
                        refine take_yes (i := 8) (d := 52) (v := ?_) rfl rfl (by kernel_rfl) (by kernel_rfl) (by kernel_rfl) (fun _ _ _ h => h) (by kernel_rfl) ?_ hHeld ?_
                        rotate_left
                        · (intro w hSw; (try dsimp only at hSw); go_simp; try (with_reducible rfl))
                        try simp only [Act.put, List.setIfInBounds_toArray, List.set_cons_zero, List.set_cons_succ]
                        refine wpAnyH_ready (rs := [9]) (by kernel_rfl) (by simp) ?_
                        refine AllReadyH.cons rfl (fun K hK => ?_) AllReadyH.nil
                        go_simp
                        (go_at_call 79; refine (lacksSecond_at A c xs p _ (HA.out.below (below_drewN HW2.out 1)) hm HP.out).mono ?_; rintro e w4 ⟨rfl, hb⟩; rw [hl]; have HB1 := Lib.hid ((below_drewN (Below.refl w2.heap.size w2) 1).trans hb); clear hb)
                        (first | refine hK.out _ _ ?_ (fun hHeld1 => ?_) | (go_wp2_with fail; refine hK.out _ _ ?_ (fun hHeld1 => ?_)))
                        · ((try dsimp only); (first | exact ⟨HB3.out, (HB3.out.cell (World.block_lt_of_cell? _ _ p0)).trans p0, (HB3.out.cell (World.block_lt_of_cell? _ _ p1)).trans p1, (HB3.out.cell (World.block_lt_of_cell? _ _ p2)).trans p2, (HB3.out.cell (World.block_lt_of_cell? _ _ q0)).trans q0, (HB3.out.cell (World.block_lt_of_cell? _ _ q1)).trans q1, (HB3.out.cell (World.block_lt_of_cell? _ _ Q2)).trans Q2⟩ | exact ⟨HB2.out, (HB2.out.cell (World.block_lt_of_cell? _ _ p0)).trans p0, (HB2.out.cell (World.block_lt_of_cell? _ _ p1)).trans p1, (HB2.out.cell (World.block_lt_of_cell? _ _ p2)).trans p2, (HB2.out.cell (World.block_lt_of_cell? _ _ q0)).trans q0, (HB2.out.cell (World.block_lt_of_cell? _ _ q1)).trans q1, (HB2.out.cell (World.block_lt_of_cell? _ _ Q2)).trans Q2⟩ | exact ⟨HB1.out, (HB1.out.cell (World.block_lt_of_cell? _ _ p0)).trans p0, (HB1.out.cell (World.block_lt_of_cell? _ _ p1)).trans p1, (HB1.out.cell (World.block_lt_of_cell? _ _ p2)).trans p2, (HB1.out.cell (World.block_lt_of_cell? _ _ q0)).trans q0, (HB1.out.cell (World.block_lt_of_cell? _ _ q1)).trans q1, (HB1.out.cell (World.block_lt_of_cell? _ _ Q2)).trans Q2⟩ | exact ⟨(Below.refl _ _).drew, p0, p1, p2, q0, q1, Q2⟩))
                        clear hK K hHeld
                        have hHeld := hHeld1
                        clear hHeld1
                        try simp only [Act.put, List.setIfInBounds_toArray, List.set_cons_zero, List.set_cons_succ]
                        refine take_yes (i := 10) (d := 54) (v := ?_) rfl rfl (by kernel_rfl) (by kernel_rfl) (by kernel_rfl) (fun _ _ _ h => h) (by kernel_rfl) ?_ hHeld ?_
                        rotate_left
                        · (intro w hSw; (try dsimp only at hSw); go_simp; try (with_reducible rfl))
                        try simp only [Act.put, List.setIfInBounds_toArray, List.set_cons_zero, List.set_cons_succ]
                        refine take_yes (i := 11) (d := 55) (v := ?_) rfl rfl (by kernel_rfl) (by kernel_rfl) (by kernel_rfl) (fun _ _ _ h => h) (by kernel_rfl) ?_ hHeld ?_
                        rotate_left
                        · (intro w hSw; (try dsimp only at hSw); go_simp; try (with_reducible rfl))
                        try simp only [Act.put, List.setIfInBounds_toArray, List.set_cons_zero, List.set_cons_succ]
                        refine take_yes (i := 12) (d := 56) (v := ?_) rfl rfl (by kernel_rfl) (by kernel_rfl) (by kernel_rfl) (fun _ _ _ h => h) (by kernel_rfl) ?_ hHeld ?_
                        rotate_left
                        · (intro w hSw; (try dsimp only at hSw); go_simp; try (with_reducible rfl))
                        try simp only [Act.put, List.setIfInBounds_toArray, List.set_cons_zero, List.set_cons_succ]
                        refine take_yes (i := 13) (d := 57) (v := ?_) rfl rfl (by kernel_rfl) (by kernel_rfl) (by kernel_rfl) (fun _ _ _ h => h) (by kernel_rfl) ?_ hHeld ?_
                        rotate_left
                        · (intro w hSw; (try dsimp only at hSw); go_simp; try (with_reducible rfl))
                        try simp only [Act.put, List.setIfInBounds_toArray, List.set_cons_zero, List.set_cons_succ]
                        refine take_yes (i := 14) (d := 58) (v := ?_) rfl rfl (by kernel_rfl) (by kernel_rfl) (by kernel_rfl) (fun _ _ _ h => h) (by kernel_rfl) ?_ hHeld ?_
                        rotate_left
                        · (intro w hSw; (try dsimp only at hSw); go_simp; try (with_reducible rfl))
                        try simp only [Act.put, List.setIfInBounds_toArray, List.set_cons_zero, List.set_cons_succ]
                        refine take_yes (i := 15) (d := 59) (v := ?_) rfl rfl (by kernel_rfl) (by kernel_rfl) (by kernel_rfl) (fun _ _ _ h => h) (by kernel_rfl) ?_ hHeld ?_
                        rotate_left
                        · (intro w hSw; (try dsimp only at hSw); go_simp; try (with_reducible rfl))
                        try simp only [Act.put, List.setIfInBounds_toArray, List.set_cons_zero, List.set_cons_succ]
                        refine take_yes (i := 16) (d := 60) (v := ?_) rfl rfl (by kernel_rfl) (by kernel_rfl) (by kernel_rfl) (fun _ _ _ h => h) (by kernel_rfl) ?_ hHeld ?_
                        rotate_left
                        · (intro w hSw; (try dsimp only at hSw); go_simp; try (with_reducible rfl))
                        try simp only [Act.put, List.setIfInBounds_toArray, List.set_cons_zero, List.set_cons_succ]
                        refine take_yes (i := 19) (d := 63) (v := ?_) rfl rfl (by kernel_rfl) (by kernel_rfl) (by kernel_rfl) (fun _ _ _ h => h) (by kernel_rfl) ?_ hHeld ?_
                        rotate_left
                        · (intro w hSw; (try dsimp only at hSw); go_simp; try (with_reducible rfl))
                        try simp only [Act.put, List.setIfInBounds_toArray, List.set_cons_zero, List.set_cons_succ]
                        refine take_yes (i := 20) (d := 64) (v := ?_) rfl rfl (by kernel_rfl) (by kernel_rfl) (by kernel_rfl) (fun _ _ _ h => h) (by kernel_rfl) ?_ hHeld ?_
                        rotate_left
                        · (intro w hSw; (try dsimp only at hSw); go_simp; try (with_reducible rfl))
                        try simp only [Act.put, List.setIfInBounds_toArray, List.set_cons_zero, List.set_cons_succ]
                        refine wpAnyH_ready (rs := [17]) (by kernel_rfl) (by simp) ?_
                        refine AllReadyH.cons rfl (fun K hK => ?_) AllReadyH.nil
                        go_simp
                        (go_at_call 78; refine (ruleOf_at A c xs p _ ((HA.out.below HW2.out).below HB1.out) hm HP.out).mono ?_; rintro e w5 ⟨rfl, hb⟩; have HB2 := Lib.hid (HB1.out.trans (hb.mono HB1.out.size)); clear hb)
                        (first | refine hK.out _ _ ?_ (fun hHeld1 => ?_) | (go_wp2_with fail; refine hK.out _ _ ?_ (fun hHeld1 => ?_)))
                        · ((try dsimp only); (first | exact ⟨HB3.out, (HB3.out.cell (World.block_lt_of_cell? _ _ p0)).trans p0, (HB3.out.cell (World.block_lt_of_cell? _ _ p1)).trans p1, (HB3.out.cell (World.block_lt_of_cell? _ _ p2)).trans p2, (HB3.out.cell (World.block_lt_of_cell? _ _ q0)).trans q0, (HB3.out.cell (World.block_lt_of_cell? _ _ q1)).trans q1, (HB3.out.cell (World.block_lt_of_cell? _ _ Q2)).trans Q2⟩ | exact ⟨HB2.out, (HB2.out.cell (World.block_lt_of_cell? _ _ p0)).trans p0, (HB2.out.cell (World.block_lt_of_cell? _ _ p1)).trans p1, (HB2.out.cell (World.block_lt_of_cell? _ _ p2)).trans p2, (HB2.out.cell (World.block_lt_of_cell? _ _ q0)).trans q0, (HB2.out.cell (World.block_lt_of_cell? _ _ q1)).trans q1, (HB2.out.cell (World.block_lt_of_cell? _ _ Q2)).trans Q2⟩ | exact ⟨HB1.out, (HB1.out.cell (World.block_lt_of_cell? _ _ p0)).trans p0, (HB1.out.cell (World.block_lt_of_cell? _ _ p1)).trans p1, (HB1.out.cell (World.block_lt_of_cell? _ _ p2)).trans p2, (HB1.out.cell (World.block_lt_of_cell? _ _ q0)).trans q0, (HB1.out.cell (World.block_lt_of_cell? _ _ q1)).trans q1, (HB1.out.cell (World.block_lt_of_cell? _ _ Q2)).trans Q2⟩ | exact ⟨(Below.refl _ _).drew, p0, p1, p2, q0, q1, Q2⟩))
                        clear hK K hHeld
                        have hHeld := hHeld1
                        clear hHeld1
                        try simp only [Act.put, List.setIfInBounds_toArray, List.set_cons_zero, List.set_cons_succ]
                        refine take_yes (i := 18) (d := 62) (v := ?_) rfl rfl (by kernel_rfl) (by kernel_rfl) (by kernel_rfl) (fun _ _ _ h => h) (by kernel_rfl) ?_ hHeld ?_
                        rotate_left
                        · (intro w hSw; (try dsimp only at hSw); go_simp; try (with_reducible rfl))
                        try simp only [Act.put, List.setIfInBounds_toArray, List.set_cons_zero, List.set_cons_succ]
                        refine wpAnyH_ready (rs := [21]) (by kernel_rfl) (by simp) ?_
                        refine AllReadyH.cons rfl (fun K hK => ?_) AllReadyH.nil
                        go_simp
                        (go_at_call 78; refine (ruleOf_at A c xs q _ ((HA.out.below HW2.out).below HB2.out) hm HIX.out).mono ?_; rintro e w6 ⟨rfl, hb⟩; have HB3 := Lib.hid (HB2.out.trans (hb.mono HB2.out.size)); clear hb)
                        (first | refine hK.out _ _ ?_ (fun hHeld1 => ?_) | (go_wp2_with fail; refine hK.out _ _ ?_ (fun hHeld1 => ?_)))
                        · ((try dsimp only); (first | exact ⟨HB3.out, (HB3.out.cell (World.block_lt_of_cell? _ _ p0)).trans p0, (HB3.out.cell (World.block_lt_of_cell? _ _ p1)).trans p1, (HB3.out.cell (World.block_lt_of_cell? _ _ p2)).trans p2, (HB3.out.cell (World.block_lt_of_cell? _ _ q0)).trans q0, (HB3.out.cell (World.block_lt_of_cell? _ _ q1)).trans q1, (HB3.out.cell (World.block_lt_of_cell? _ _ Q2)).trans Q2⟩ | exact ⟨HB2.out, (HB2.out.cell (World.block_lt_of_cell? _ _ p0)).trans p0, (HB2.out.cell (World.block_lt_of_cell? _ _ p1)).trans p1, (HB2.out.cell (World.block_lt_of_cell? _ _ p2)).trans p2, (HB2.out.cell (World.block_lt_of_cell? _ _ q0)).trans q0, (HB2.out.cell (World.block_lt_of_cell? _ _ q1)).trans q1, (HB2.out.cell (World.block_lt_of_cell? _ _ Q2)).trans Q2⟩ | exact ⟨HB1.out, (HB1.out.cell (World.block_lt_of_cell? _ _ p0)).trans p0, (HB1.out.cell (World.block_lt_of_cell? _ _ p1)).trans p1, (HB1.out.cell (World.block_lt_of_cell? _ _ p2)).trans p2, (HB1.out.cell (World.block_lt_of_cell? _ _ q0)).trans q0, (HB1.out.cell (World.block_lt_of_cell? _ _ q1)).trans q1, (HB1.out.cell (World.block_lt_of_cell? _ _ Q2)).trans Q2⟩ | exact ⟨(Below.refl _ _).drew, p0, p1, p2, q0, q1, Q2⟩))
                        clear hK K hHeld
                        have hHeld := hHeld1
                        clear hHeld1
                        try simp only [Act.put, List.setIfInBounds_toArray, List.set_cons_zero, List.set_cons_succ]
                        refine take_yes (i := 22) (d := 66) (v := ?_) rfl rfl (by kernel_rfl) (by kernel_rfl) (by kernel_rfl) (fun _ _ _ h => h) (by kernel_rfl) ?_ hHeld ?_
                        rotate_left
                        · (intro w hSw; (try dsimp only at hSw); go_simp; try (with_reducible rfl))
                        try simp only [Act.put, List.setIfInBounds_toArray, List.set_cons_zero, List.set_cons_succ]
                        refine take_yes (i := 23) (d := 67) (v := ?_) rfl rfl (by kernel_rfl) (by kernel_rfl) (by kernel_rfl) (fun _ _ _ h => h) (by kernel_rfl) ?_ hHeld ?_
                        rotate_left
                        · (intro w hSw; (try dsimp only at hSw); go_simp; try (with_reducible rfl))
                        try simp only [Act.put, List.setIfInBounds_toArray, List.set_cons_zero, List.set_cons_succ]
                        refine take_yes (i := 24) (d := 68) (v := ?_) rfl rfl (by kernel_rfl) (by kernel_rfl) (by kernel_rfl) (fun _ _ _ h => h) (by kernel_rfl) ?_ hHeld ?_
                        rotate_left
                        · (intro w hSw; (try dsimp only at hSw); go_simp; try (with_reducible rfl))
                        try simp only [Act.put, List.setIfInBounds_toArray, List.set_cons_zero, List.set_cons_succ]
                        refine take_yes (i := 25) (d := 69) (v := ?_) rfl rfl (by kernel_rfl) (by kernel_rfl) (by kernel_rfl) (fun _ _ _ h => h) (by kernel_rfl) ?_ hHeld ?_
                        rotate_left
                        · (intro w hSw; (try dsimp only at hSw); go_simp; try (with_reducible rfl))
                        try simp only [Act.put, List.setIfInBounds_toArray, List.set_cons_zero, List.set_cons_succ]
                        refine wpAnyH_done (by kernel_rfl) ?_ _
                        refine NoPanic.normal ?_
                        go_wp2
                        go_ret
                        exact ⟨ret_bool HN.out.symm, HW2.out.trans (HB3.out.mono HW2.out.size)⟩
                      · have HS := Lib.hid (allN_step hq.out (show okQ xs qs k = true by rw [HK2, hl, decide_eq_false hr2]; rfl))
                        have hg : decide ((ruleAt xs q).rk ≤ (ruleAt xs p).rk) = false := decide_eq_false hr2
                        have hfl := fld_rk
                        clear hq HK HK2 hr2
                        go_wp2
                        refine wp_region_noPanic ?_
                        refine wp_region_held_drew (S := (fun w' => Below w2.heap.size w2 w' ∧ w'.cell? (a.add ((k - 1) * 3)) = some (.int .i64 p.r) ∧ w'.cell? ⟨(a.add ((k - 1) * 3)).block, (a.add ((k - 1) * 3)).off + 1, none⟩ = some (.int .i64 p.m) ∧ w'.cell? ⟨(a.add ((k - 1) * 3)).block, (a.add ((k - 1) * 3)).off + 2, none⟩ = some (.bool p.s) ∧ w'.cell? ⟨wr.heap.size, 0, none⟩ = some (.int .i64 q.r) ∧ w'.cell? ⟨wr.heap.size, 1, none⟩ = some (.int .i64 q.m) ∧ w'.cell? ⟨wr.heap.size, 2, none⟩ = some (.bool q.s))) (by kernel_rfl) ?_ (fun hHeld => ?_)
                        · ((try dsimp only); (first | exact ⟨HB3.out, (HB3.out.cell (World.block_lt_of_cell? _ _ p0)).trans p0, (HB3.out.cell (World.block_lt_of_cell? _ _ p1)).trans p1, (HB3.out.cell (World.block_lt_of_cell? _ _ p2)).trans p2, (HB3.out.cell (World.block_lt_of_cell? _ _ q0)).trans q0, (HB3.out.cell (World.block_lt_of_cell? _ _ q1)).trans q1, (HB3.out.cell (World.block_lt_of_cell? _ _ Q2)).trans Q2⟩ | exact ⟨HB2.out, (HB2.out.cell (World.block_lt_of_cell? _ _ p0)).trans p0, (HB2.out.cell (World.block_lt_of_cell? _ _ p1)).trans p1, (HB2.out.cell (World.block_lt_of_cell? _ _ p2)).trans p2, (HB2.out.cell (World.block_lt_of_cell? _ _ q0)).trans q0, (HB2.out.cell (World.block_lt_of_cell? _ _ q1)).trans q1, (HB2.out.cell (World.block_lt_of_cell? _ _ Q2)).trans Q2⟩ | exact ⟨HB1.out, (HB1.out.cell (World.block_lt_of_cell? _ _ p0)).trans p0, (HB1.out.cell (World.block_lt_of_cell? _ _ p1)).trans p1, (HB1.out.cell (World.block_lt_of_cell? _ _ p2)).trans p2, (HB1.out.cell (World.block_lt_of_cell? _ _ q0)).trans q0, (HB1.out.cell (World.block_lt_of_cell? _ _ q1)).trans q1, (HB1.out.cell (World.block_lt_of_cell? _ _ Q2)).trans Q2⟩ | exact ⟨(Below.refl _ _).drew, p0, p1, p2, q0, q1, Q2⟩))
                        refine take_yes (i := 0) (d := 44) (v := ?_) rfl rfl (by kernel_rfl) (by kernel_rfl) (by kernel_rfl) (fun _ _ _ h => h) (by kernel_rfl) ?_ hHeld ?_
                        rotate_left
                        · (intro w hSw; (try dsimp only at hSw); go_simp; try (with_reducible rfl))
                        try simp only [Act.put, List.setIfInBounds_toArray, List.set_cons_zero, List.set_cons_succ]
                        refine take_yes (i := 1) (d := 45) (v := ?_) rfl rfl (by kernel_rfl) (by kernel_rfl) (by kernel_rfl) (fun _ _ _ h => h) (by kernel_rfl) ?_ hHeld ?_
                        rotate_left
                        · (intro w hSw; (try dsimp only at hSw); go_simp; try (with_reducible rfl))
                        try simp only [Act.put, List.setIfInBounds_toArray, List.set_cons_zero, List.set_cons_succ]
                        refine take_yes (i := 2) (d := 46) (v := ?_) rfl rfl (by kernel_rfl) (by kernel_rfl) (by kernel_rfl) (fun _ _ _ h => h) (by kernel_rfl) ?_ hHeld ?_
                        rotate_left
                        · (intro w hSw; (try dsimp only at hSw); go_simp; try (with_reducible rfl))
                        try simp only [Act.put, List.setIfInBounds_toArray, List.set_cons_zero, List.set_cons_succ]
                        refine take_yes (i := 3) (d := 47) (v := ?_) rfl rfl (by kernel_rfl) (by kernel_rfl) (by kernel_rfl) (fun _ _ _ h => h) (by kernel_rfl) ?_ hHeld ?_
                        rotate_left
                        · (intro w hSw; (try dsimp only at hSw); go_simp; try (with_reducible rfl))
                        try simp only [Act.put, List.setIfInBounds_toArray, List.set_cons_zero, List.set_cons_succ]
                        refine take_yes (i := 4) (d := 48) (v := ?_) rfl rfl (by kernel_rfl) (by kernel_rfl) (by kernel_rfl) (fun _ _ _ h => h) (by kernel_rfl) ?_ hHeld ?_
                        rotate_left
                        · (intro w hSw; (try dsimp only at hSw); go_simp; try (with_reducible rfl))
                        try simp only [Act.put, List.setIfInBounds_toArray, List.set_cons_zero, List.set_cons_succ]
                        refine take_yes (i := 5) (d := 49) (v := ?_) rfl rfl (by kernel_rfl) (by kernel_rfl) (by kernel_rfl) (fun _ _ _ h => h) (by kernel_rfl) ?_ hHeld ?_
                        rotate_left
                        · (intro w hSw; (try dsimp only at hSw); go_simp; try (with_reducible rfl))
                        try simp only [Act.put, List.setIfInBounds_toArray, List.set_cons_zero, List.set_cons_succ]
                        refine take_yes (i := 6) (d := 50) (v := ?_) rfl rfl (by kernel_rfl) (by kernel_rfl) (by kernel_rfl) (fun _ _ _ h => h) (by kernel_rfl) ?_ hHeld ?_
                        rotate_left
                        · (intro w hSw; (try dsimp only at hSw); go_simp; try (with_reducible rfl))
                        try simp only [Act.put, List.setIfInBounds_toArray, List.set_cons_zero, List.set_cons_succ]
                        refine take_yes (i := 7) (d := 51) (v := ?_) rfl rfl (by kernel_rfl) (by kernel_rfl) (by kernel_rfl) (fun _ _ _ h => h) (by kernel_rfl) ?_ hHeld ?_
                        rotate_left
                        · (intro w hSw; (try dsimp only at hSw); go_simp; try (with_reducible rfl))
                        try simp only [Act.put, List.setIfInBounds_toArray, List.set_cons_zero, List.set_cons_succ]
                        refine take_yes (i := 8) (d := 52) (v := ?_) rfl rfl (by kernel_rfl) (by kernel_rfl) (by kernel_rfl) (fun _ _ _ h => h) (by kernel_rfl) ?_ hHeld ?_
                        rotate_left
                        · (intro w hSw; (try dsimp only at hSw); go_simp; try (with_reducible rfl))
                        try simp only [Act.put, List.setIfInBounds_toArray, List.set_cons_zero, List.set_cons_succ]
                        refine wpAnyH_ready (rs := [9]) (by kernel_rfl) (by simp) ?_
                        refine AllReadyH.cons rfl (fun K hK => ?_) AllReadyH.nil
                        go_simp
                        (go_at_call 79; refine (lacksSecond_at A c xs p _ (HA.out.below (below_drewN HW2.out 1)) hm HP.out).mono ?_; rintro e w4 ⟨rfl, hb⟩; rw [hl]; have HB1 := Lib.hid ((below_drewN (Below.refl w2.heap.size w2) 1).trans hb); clear hb)
                        (first | refine hK.out _ _ ?_ (fun hHeld1 => ?_) | (go_wp2_with fail; refine hK.out _ _ ?_ (fun hHeld1 => ?_)))
                        · ((try dsimp only); (first | exact ⟨HB3.out, (HB3.out.cell (World.block_lt_of_cell? _ _ p0)).trans p0, (HB3.out.cell (World.block_lt_of_cell? _ _ p1)).trans p1, (HB3.out.cell (World.block_lt_of_cell? _ _ p2)).trans p2, (HB3.out.cell (World.block_lt_of_cell? _ _ q0)).trans q0, (HB3.out.cell (World.block_lt_of_cell? _ _ q1)).trans q1, (HB3.out.cell (World.block_lt_of_cell? _ _ Q2)).trans Q2⟩ | exact ⟨HB2.out, (HB2.out.cell (World.block_lt_of_cell? _ _ p0)).trans p0, (HB2.out.cell (World.block_lt_of_cell? _ _ p1)).trans p1, (HB2.out.cell (World.block_lt_of_cell? _ _ p2)).trans p2, (HB2.out.cell (World.block_lt_of_cell? _ _ q0)).trans q0, (HB2.out.cell (World.block_lt_of_cell? _ _ q1)).trans q1, (HB2.out.cell (World.block_lt_of_cell? _ _ Q2)).trans Q2⟩ | exact ⟨HB1.out, (HB1.out.cell (World.block_lt_of_cell? _ _ p0)).trans p0, (HB1.out.cell (World.block_lt_of_cell? _ _ p1)).trans p1, (HB1.out.cell (World.block_lt_of_cell? _ _ p2)).trans p2, (HB1.out.cell (World.block_lt_of_cell? _ _ q0)).trans q0, (HB1.out.cell (World.block_lt_of_cell? _ _ q1)).trans q1, (HB1.out.cell (World.block_lt_of_cell? _ _ Q2)).trans Q2⟩ | exact ⟨(Below.refl _ _).drew, p0, p1, p2, q0, q1, Q2⟩))
                        clear hK K hHeld
                        have hHeld := hHeld1
                        clear hHeld1
                        try simp only [Act.put, List.setIfInBounds_toArray, List.set_cons_zero, List.set_cons_succ]
                        refine take_yes (i := 10) (d := 54) (v := ?_) rfl rfl (by kernel_rfl) (by kernel_rfl) (by kernel_rfl) (fun _ _ _ h => h) (by kernel_rfl) ?_ hHeld ?_
                        rotate_left
                        · (intro w hSw; (try dsimp only at hSw); go_simp; try (with_reducible rfl))
                        try simp only [Act.put, List.setIfInBounds_toArray, List.set_cons_zero, List.set_cons_succ]
                        refine take_yes (i := 11) (d := 55) (v := ?_) rfl rfl (by kernel_rfl) (by kernel_rfl) (by kernel_rfl) (fun _ _ _ h => h) (by kernel_rfl) ?_ hHeld ?_
                        rotate_left
                        · (intro w hSw; (try dsimp only at hSw); go_simp; try (with_reducible rfl))
                        try simp only [Act.put, List.setIfInBounds_toArray, List.set_cons_zero, List.set_cons_succ]
                        refine take_yes (i := 12) (d := 56) (v := ?_) rfl rfl (by kernel_rfl) (by kernel_rfl) (by kernel_rfl) (fun _ _ _ h => h) (by kernel_rfl) ?_ hHeld ?_
                        rotate_left
                        · (intro w hSw; (try dsimp only at hSw); go_simp; try (with_reducible rfl))
                        try simp only [Act.put, List.setIfInBounds_toArray, List.set_cons_zero, List.set_cons_succ]
                        refine take_yes (i := 13) (d := 57) (v := ?_) rfl rfl (by kernel_rfl) (by kernel_rfl) (by kernel_rfl) (fun _ _ _ h => h) (by kernel_rfl) ?_ hHeld ?_
                        rotate_left
                        · (intro w hSw; (try dsimp only at hSw); go_simp; try (with_reducible rfl))
                        try simp only [Act.put, List.setIfInBounds_toArray, List.set_cons_zero, List.set_cons_succ]
                        refine take_yes (i := 14) (d := 58) (v := ?_) rfl rfl (by kernel_rfl) (by kernel_rfl) (by kernel_rfl) (fun _ _ _ h => h) (by kernel_rfl) ?_ hHeld ?_
                        rotate_left
                        · (intro w hSw; (try dsimp only at hSw); go_simp; try (with_reducible rfl))
                        try simp only [Act.put, List.setIfInBounds_toArray, List.set_cons_zero, List.set_cons_succ]
                        refine take_yes (i := 15) (d := 59) (v := ?_) rfl rfl (by kernel_rfl) (by kernel_rfl) (by kernel_rfl) (fun _ _ _ h => h) (by kernel_rfl) ?_ hHeld ?_
                        rotate_left
                        · (intro w hSw; (try dsimp only at hSw); go_simp; try (with_reducible rfl))
                        try simp only [Act.put, List.setIfInBounds_toArray, List.set_cons_zero, List.set_cons_succ]
                        refine take_yes (i := 16) (d := 60) (v := ?_) rfl rfl (by kernel_rfl) (by kernel_rfl) (by kernel_rfl) (fun _ _ _ h => h) (by kernel_rfl) ?_ hHeld ?_
                        rotate_left
                        · (intro w hSw; (try dsimp only at hSw); go_simp; try (with_reducible rfl))
                        try simp only [Act.put, List.setIfInBounds_toArray, List.set_cons_zero, List.set_cons_succ]
                        refine take_yes (i := 19) (d := 63) (v := ?_) rfl rfl (by kernel_rfl) (by kernel_rfl) (by kernel_rfl) (fun _ _ _ h => h) (by kernel_rfl) ?_ hHeld ?_
                        rotate_left
                        · (intro w hSw; (try dsimp only at hSw); go_simp; try (with_reducible rfl))
                        try simp only [Act.put, List.setIfInBounds_toArray, List.set_cons_zero, List.set_cons_succ]
                        refine take_yes (i := 20) (d := 64) (v := ?_) rfl rfl (by kernel_rfl) (by kernel_rfl) (by kernel_rfl) (fun _ _ _ h => h) (by kernel_rfl) ?_ hHeld ?_
                        rotate_left
                        · (intro w hSw; (try dsimp only at hSw); go_simp; try (with_reducible rfl))
                        try simp only [Act.put, List.setIfInBounds_toArray, List.set_cons_zero, List.set_cons_succ]
                        refine wpAnyH_ready (rs := [17]) (by kernel_rfl) (by simp) ?_
                        refine AllReadyH.cons rfl (fun K hK => ?_) AllReadyH.nil
                        go_simp
                        (go_at_call 78; refine (ruleOf_at A c xs p _ ((HA.out.below HW2.out).below HB1.out) hm HP.out).mono ?_; rintro e w5 ⟨rfl, hb⟩; have HB2 := Lib.hid (HB1.out.trans (hb.mono HB1.out.size)); clear hb)
                        (first | refine hK.out _ _ ?_ (fun hHeld1 => ?_) | (go_wp2_with fail; refine hK.out _ _ ?_ (fun hHeld1 => ?_)))
                        · ((try dsimp only); (first | exact ⟨HB3.out, (HB3.out.cell (World.block_lt_of_cell? _ _ p0)).trans p0, (HB3.out.cell (World.block_lt_of_cell? _ _ p1)).trans p1, (HB3.out.cell (World.block_lt_of_cell? _ _ p2)).trans p2, (HB3.out.cell (World.block_lt_of_cell? _ _ q0)).trans q0, (HB3.out.cell (World.block_lt_of_cell? _ _ q1)).trans q1, (HB3.out.cell (World.block_lt_of_cell? _ _ Q2)).trans Q2⟩ | exact ⟨HB2.out, (HB2.out.cell (World.block_lt_of_cell? _ _ p0)).trans p0, (HB2.out.cell (World.block_lt_of_cell? _ _ p1)).trans p1, (HB2.out.cell (World.block_lt_of_cell? _ _ p2)).trans p2, (HB2.out.cell (World.block_lt_of_cell? _ _ q0)).trans q0, (HB2.out.cell (World.block_lt_of_cell? _ _ q1)).trans q1, (HB2.out.cell (World.block_lt_of_cell? _ _ Q2)).trans Q2⟩ | exact ⟨HB1.out, (HB1.out.cell (World.block_lt_of_cell? _ _ p0)).trans p0, (HB1.out.cell (World.block_lt_of_cell? _ _ p1)).trans p1, (HB1.out.cell (World.block_lt_of_cell? _ _ p2)).trans p2, (HB1.out.cell (World.block_lt_of_cell? _ _ q0)).trans q0, (HB1.out.cell (World.block_lt_of_cell? _ _ q1)).trans q1, (HB1.out.cell (World.block_lt_of_cell? _ _ Q2)).trans Q2⟩ | exact ⟨(Below.refl _ _).drew, p0, p1, p2, q0, q1, Q2⟩))
                        clear hK K hHeld
                        have hHeld := hHeld1
                        clear hHeld1
                        try simp only [Act.put, List.setIfInBounds_toArray, List.set_cons_zero, List.set_cons_succ]
                        refine take_yes (i := 18) (d := 62) (v := ?_) rfl rfl (by kernel_rfl) (by kernel_rfl) (by kernel_rfl) (fun _ _ _ h => h) (by kernel_rfl) ?_ hHeld ?_
                        rotate_left
                        · (intro w hSw; (try dsimp only at hSw); go_simp; try (with_reducible rfl))
                        try simp only [Act.put, List.setIfInBounds_toArray, List.set_cons_zero, List.set_cons_succ]
                        refine wpAnyH_ready (rs := [21]) (by kernel_rfl) (by simp) ?_
                        refine AllReadyH.cons rfl (fun K hK => ?_) AllReadyH.nil
                        go_simp
                        (go_at_call 78; refine (ruleOf_at A c xs q _ ((HA.out.below HW2.out).below HB2.out) hm HIX.out).mono ?_; rintro e w6 ⟨rfl, hb⟩; have HB3 := Lib.hid (HB2.out.trans (hb.mono HB2.out.size)); clear hb)
                        (first | refine hK.out _ _ ?_ (fun hHeld1 => ?_) | (go_wp2_with fail; refine hK.out _ _ ?_ (fun hHeld1 => ?_)))
                        · ((try dsimp only); (first | exact ⟨HB3.out, (HB3.out.cell (World.block_lt_of_cell? _ _ p0)).trans p0, (HB3.out.cell (World.block_lt_of_cell? _ _ p1)).trans p1, (HB3.out.cell (World.block_lt_of_cell? _ _ p2)).trans p2, (HB3.out.cell (World.block_lt_of_cell? _ _ q0)).trans q0, (HB3.out.cell (World.block_lt_of_cell? _ _ q1)).trans q1, (HB3.out.cell (World.block_lt_of_cell? _ _ Q2)).trans Q2⟩ | exact ⟨HB2.out, (HB2.out.cell (World.block_lt_of_cell? _ _ p0)).trans p0, (HB2.out.cell (World.block_lt_of_cell? _ _ p1)).trans p1, (HB2.out.cell (World.block_lt_of_cell? _ _ p2)).trans p2, (HB2.out.cell (World.block_lt_of_cell? _ _ q0)).trans q0, (HB2.out.cell (World.block_lt_of_cell? _ _ q1)).trans q1, (HB2.out.cell (World.block_lt_of_cell? _ _ Q2)).trans Q2⟩ | exact ⟨HB1.out, (HB1.out.cell (World.block_lt_of_cell? _ _ p0)).trans p0, (HB1.out.cell (World.block_lt_of_cell? _ _ p1)).trans p1, (HB1.out.cell (World.block_lt_of_cell? _ _ p2)).trans p2, (HB1.out.cell (World.block_lt_of_cell? _ _ q0)).trans q0, (HB1.out.cell (World.block_lt_of_cell? _ _ q1)).trans q1, (HB1.out.cell (World.block_lt_of_cell? _ _ Q2)).trans Q2⟩ | exact ⟨(Below.refl _ _).drew, p0, p1, p2, q0, q1, Q2⟩))
                        clear hK K hHeld
                        have hHeld := hHeld1
                        clear hHeld1
                        try simp only [Act.put, List.setIfInBounds_toArray, List.set_cons_zero, List.set_cons_succ]
                        refine take_yes (i := 22) (d := 66) (v := ?_) rfl rfl (by kernel_rfl) (by kernel_rfl) (by kernel_rfl) (fun _ _ _ h => h) (by kernel_rfl) ?_ hHeld ?_
                        rotate_left
                        · (intro w hSw; (try dsimp only at hSw); go_simp; try (with_reducible rfl))
                        try simp only [Act.put, List.setIfInBounds_toArray, List.set_cons_zero, List.set_cons_succ]
                        refine take_yes (i := 23) (d := 67) (v := ?_) rfl rfl (by kernel_rfl) (by kernel_rfl) (by kernel_rfl) (fun _ _ _ h => h) (by kernel_rfl) ?_ hHeld ?_
                        rotate_left
                        · (intro w hSw; (try dsimp only at hSw); go_simp; try (with_reducible rfl))
                        try simp only [Act.put, List.setIfInBounds_toArray, List.set_cons_zero, List.set_cons_succ]
                        refine take_yes (i := 24) (d := 68) (v := ?_) rfl rfl (by kernel_rfl) (by kernel_rfl) (by kernel_rfl) (fun _ _ _ h => h) (by kernel_rfl) ?_ hHeld ?_
                        rotate_left
                        · (intro w hSw; (try dsimp only at hSw); go_simp; try (with_reducible rfl))
                        try simp only [Act.put, List.setIfInBounds_toArray, List.set_cons_zero, List.set_cons_succ]
                        refine take_yes (i := 25) (d := 69) (v := ?_) rfl rfl (by kernel_rfl) (by kernel_rfl) (by kernel_rfl) (fun _ _ _ h => h) (by kernel_rfl) ?_ hHeld ?_
                        rotate_left
                        · (intro w hSw; (try dsimp only at hSw); go_simp; try (with_reducible rfl))
                        try simp only [Act.put, List.setIfInBounds_toArray, List.set_cons_zero, List.set_cons_succ]
                        refine wpAnyH_done (by kernel_rfl) ?_ _
                        refine NoPanic.normal ?_
                        go_wp2
                        go_roundw
                        case rel => exact ⟨k + 1, by omega, by go_num, HS.out, HW2.out.trans (HB3.out.mono HW2.out.size)⟩
                        case measure => simp [intOf]; omega
                · have HN := Lib.hid (pendB_no (rs := xs) hlt (show okQ xs qs k = false by rw [HK.out, hs, hc]; simp))
                  have hc2 : (ruleAt xs ⟨q.r, q.m, true⟩).sc = false := hc
                  clear hq HK
                  go_wp2_with fail
                  refine (ruleOf_at A c xs ⟨q.r, q.m, true⟩ _ (HA.out.below HW1.out) hm HIX.out).mono ?_
                  rintro e w2 ⟨rfl, hb⟩
                  rw [hc2]
                  have q0 := (hb.cell (p := ⟨wr.heap.size, 0, none⟩) hlt1).trans q0
                  have q1 := (hb.cell (p := ⟨wr.heap.size, 1, none⟩) hlt1).trans q1
                  have q2 := (hb.cell (p := ⟨wr.heap.size, 2, none⟩) hlt1).trans q2
                  have HQ2 := Lib.hid ((hb.cell (p := ⟨wr.heap.size, 2, none⟩) hlt1).trans HQ2.out)
                  have HW2 := Lib.hid (HW1.out.trans (hb.mono HW1.out.size))
                  have hfl := fld_sc
                  clear hb
                  go_wp2
                  go_ret
                  exact ⟨ret_bool HN.out.symm, HW2.out⟩
              · rw [hs] at q2
                go_wp2
                have HK2 : okQ xs qs k = (k == 0 || !(lackB xs (qs[k - 1]'(by omega)) || decide ((ruleAt xs q).rk ≤ (ruleAt xs (qs[k - 1]'(by omega))).rk))) := by rw [HK.out, decide_eq_true HIX.out, hmm, hs]; simp
                clear hs
                by_cases hk0 : k = 0
                · have HS := Lib.hid (allN_step hq.out (show okQ xs qs k = true by rw [HK2]; simp [hk0]))
                  have q9 : decide ((0 : Int) < (k : Int)) = false := decide_eq_false (by omega)
                  have q5 : decide (0 < k) = false := decide_eq_false (by omega)
                  clear hq HK HK2 hk0 q0 q1 q2
                  refine wp_region_noPanic ?_
                  refine wp_region_held_drew (S := (fun w' => Below w1.heap.size w1 w')) (by kernel_rfl) ?_ (fun hHeld => ?_)
                  · ((try dsimp only); (exact (Below.refl _ _).drew))
                  refine take_yes (i := 0) (d := 44) (v := ?_) rfl rfl (by kernel_rfl) (by kernel_rfl) (by kernel_rfl) (fun _ _ _ h => h) (by kernel_rfl) ?_ hHeld ?_
                  rotate_left
                  · (intro w hSw; (try dsimp only at hSw); go_simp; try (with_reducible rfl))
                  try simp only [Act.put, List.setIfInBounds_toArray, List.set_cons_zero, List.set_cons_succ]
                  refine take_yes (i := 1) (d := 45) (v := ?_) rfl rfl (by kernel_rfl) (by kernel_rfl) (by kernel_rfl) (fun _ _ _ h => h) (by kernel_rfl) ?_ hHeld ?_
                  rotate_left
                  · (intro w hSw; (try dsimp only at hSw); go_simp; try (with_reducible rfl))
                  try simp only [Act.put, List.setIfInBounds_toArray, List.set_cons_zero, List.set_cons_succ]
                  refine take_yes (i := 2) (d := 46) (v := ?_) rfl rfl (by kernel_rfl) (by kernel_rfl) (by kernel_rfl) (fun _ _ _ h => h) (by kernel_rfl) ?_ hHeld ?_
                  rotate_left
                  · (intro w hSw; (try dsimp only at hSw); go_simp; try (with_reducible rfl))
                  try simp only [Act.put, List.setIfInBounds_toArray, List.set_cons_zero, List.set_cons_succ]
                  refine take_no (i := 3) (d := 47) rfl rfl (by kernel_rfl) (by kernel_rfl) (by kernel_rfl) (fun _ _ _ h => h) (by kernel_rfl) hHeld ?_
                  try simp only [Act.put, List.setIfInBounds_toArray, List.set_cons_zero, List.set_cons_succ]
                  refine take_no (i := 4) (d := 48) rfl rfl (by kernel_rfl) (by kernel_rfl) (by kernel_rfl) (fun _ _ _ h => h) (by kernel_rfl) hHeld ?_
                  try simp only [Act.put, List.setIfInBounds_toArray, List.set_cons_zero, List.set_cons_succ]
                  refine take_no (i := 5) (d := 49) rfl rfl (by kernel_rfl) (by kernel_rfl) (by kernel_rfl) (fun _ _ _ h => h) (by kernel_rfl) hHeld ?_
                  try simp only [Act.put, List.setIfInBounds_toArray, List.set_cons_zero, List.set_cons_succ]
                  refine take_no (i := 6) (d := 50) rfl rfl (by kernel_rfl) (by kernel_rfl) (by kernel_rfl) (fun _ _ _ h => h) (by kernel_rfl) hHeld ?_
                  try simp only [Act.put, List.setIfInBounds_toArray, List.set_cons_zero, List.set_cons_succ]
                  refine take_no (i := 7) (d := 51) rfl rfl (by kernel_rfl) (by kernel_rfl) (by kernel_rfl) (fun _ _ _ h => h) (by kernel_rfl) hHeld ?_
                  try simp only [Act.put, List.setIfInBounds_toArray, List.set_cons_zero, List.set_cons_succ]
                  refine take_no (i := 8) (d := 52) rfl rfl (by kernel_rfl) (by kernel_rfl) (by kernel_rfl) (fun _ _ _ h => h) (by kernel_rfl) hHeld ?_
                  try simp only [Act.put, List.setIfInBounds_toArray, List.set_cons_zero, List.set_cons_succ]
                  refine take_no (i := 9) (d := 53) rfl rfl (by kernel_rfl) (by kernel_rfl) (by kernel_rfl) (fun _ _ _ h => h) (by kernel_rfl) hHeld ?_
                  try simp only [Act.put, List.setIfInBounds_toArray, List.set_cons_zero, List.set_cons_succ]
                  refine take_no (i := 10) (d := 54) rfl rfl (by kernel_rfl) (by kernel_rfl) (by kernel_rfl) (fun _ _ _ h => h) (by kernel_rfl) hHeld ?_
                  try simp only [Act.put, List.setIfInBounds_toArray, List.set_cons_zero, List.set_cons_succ]
                  refine take_no (i := 11) (d := 55) rfl rfl (by kernel_rfl) (by kernel_rfl) (by kernel_rfl) (fun _ _ _ h => h) (by kernel_rfl) hHeld ?_
                  try simp only [Act.put, List.setIfInBounds_toArray, List.set_cons_zero, List.set_cons_succ]
                  refine take_no (i := 12) (d := 56) rfl rfl (by kernel_rfl) (by kernel_rfl) (by kernel_rfl) (fun _ _ _ h => h) (by kernel_rfl) hHeld ?_
                  try simp only [Act.put, List.setIfInBounds_toArray, List.set_cons_zero, List.set_cons_succ]
                  refine take_no (i := 13) (d := 57) rfl rfl (by kernel_rfl) (by kernel_rfl) (by kernel_rfl) (fun _ _ _ h => h) (by kernel_rfl) hHeld ?_
                  try simp only [Act.put, List.setIfInBounds_toArray, List.set_cons_zero, List.set_cons_succ]
                  refine take_no (i := 14) (d := 58) rfl rfl (by kernel_rfl) (by kernel_rfl) (by kernel_rfl) (fun _ _ _ h => h) (by kernel_rfl) hHeld ?_
                  try simp only [Act.put, List.setIfInBounds_toArray, List.set_cons_zero, List.set_cons_succ]
                  refine take_no (i := 15) (d := 59) rfl rfl (by kernel_rfl) (by kernel_rfl) (by kernel_rfl) (fun _ _ _ h => h) (by kernel_rfl) hHeld ?_
                  try simp only [Act.put, List.setIfInBounds_toArray, List.set_cons_zero, List.set_cons_succ]
                  refine take_no (i := 16) (d := 60) rfl rfl (by kernel_rfl) (by kernel_rfl) (by kernel_rfl) (fun _ _ _ h => h) (by kernel_rfl) hHeld ?_
                  try simp only [Act.put, List.setIfInBounds_toArray, List.set_cons_zero, List.set_cons_succ]
                  refine take_no (i := 17) (d := 61) rfl rfl (by kernel_rfl) (by kernel_rfl) (by kernel_rfl) (fun _ _ _ h => h) (by kernel_rfl) hHeld ?_
                  try simp only [Act.put, List.setIfInBounds_toArray, List.set_cons_zero, List.set_cons_succ]
                  refine take_no (i := 18) (d := 62) rfl rfl (by kernel_rfl) (by kernel_rfl) (by kernel_rfl) (fun _ _ _ h => h) (by kernel_rfl) hHeld ?_
                  try simp only [Act.put, List.setIfInBounds_toArray, List.set_cons_zero, List.set_cons_succ]
                  refine take_no (i := 19) (d := 63) rfl rfl (by kernel_rfl) (by kernel_rfl) (by kernel_rfl) (fun _ _ _ h => h) (by kernel_rfl) hHeld ?_
                  try simp only [Act.put, List.setIfInBounds_toArray, List.set_cons_zero, List.set_cons_succ]
                  refine take_no (i := 20) (d := 64) rfl rfl (by kernel_rfl) (by kernel_rfl) (by kernel_rfl) (fun _ _ _ h => h) (by kernel_rfl) hHeld ?_
                  try simp only [Act.put, List.setIfInBounds_toArray, List.set_cons_zero, List.set_cons_succ]
                  refine take_no (i := 21) (d := 65) rfl rfl (by kernel_rfl) (by kernel_rfl) (by kernel_rfl) (fun _ _ _ h => h) (by kernel_rfl) hHeld ?_
                  try simp only [Act.put, List.setIfInBounds_toArray, List.set_cons_zero, List.set_cons_succ]
                  refine take_no (i := 22) (d := 66) rfl rfl (by kernel_rfl) (by kernel_rfl) (by kernel_rfl) (fun _ _ _ h => h) (by kernel_rfl) hHeld ?_
                  try simp only [Act.put, List.setIfInBounds_toArray, List.set_cons_zero, List.set_cons_succ]
                  refine take_no (i := 23) (d := 67) rfl rfl (by kernel_rfl) (by kernel_rfl) (by kernel_rfl) (fun _ _ _ h => h) (by kernel_rfl) hHeld ?_
                  try simp only [Act.put, List.setIfInBounds_toArray, List.set_cons_zero, List.set_cons_succ]
                  refine take_no (i := 24) (d := 68) rfl rfl (by kernel_rfl) (by kernel_rfl) (by kernel_rfl) (fun _ _ _ h => h) (by kernel_rfl) hHeld ?_
                  try simp only [Act.put, List.setIfInBounds_toArray, List.set_cons_zero, List.set_cons_succ]
                  refine take_yes (i := 25) (d := 69) (v := ?_) rfl rfl (by kernel_rfl) (by kernel_rfl) (by kernel_rfl) (fun _ _ _ h => h) (by kernel_rfl) ?_ hHeld ?_
                  rotate_left
                  · (intro w hSw; (try dsimp only at hSw); go_simp; try (with_reducible rfl))
                  try simp only [Act.put, List.setIfInBounds_toArray, List.set_cons_zero, List.set_cons_succ]
                  refine wpAnyH_done (by kernel_rfl) ?_ _
                  refine NoPanic.normal ?_
                  go_wp2
                  go_roundw
                  case rel => exact ⟨k + 1, by omega, by go_num, HS.out, HW1.out.trans (hHeld.mono HW1.out.size)⟩
                  case measure => simp [intOf]; omega
                · have hk1 : 0 < k := by omega
                  obtain ⟨a', ha', p0, p1, p2⟩ := question_at (HD.out.below HW1.out) (show k - 1 < qs.length by omega)
                  obtain rfl : a = a' := by simpa using ha'
                  have t1 : IntKind.i64.wrap ((k : Int) - 1) = (k : Int) - 1 := by rw [IntKind.wrap_i64]; omega
                  have t2 : ((k : Int) - 1).toNat = k - 1 := by omega
                  have t3 : (0 : Int) ≤ (k : Int) - 1 := by omega
                  have t4 : (k : Int) - 1 < (qs.length : Int) := by omega
                  have t9 : decide ((0 : Int) < (k : Int)) = true := decide_eq_true (by omega)
                  have t5 : decide (0 < k) = true := decide_eq_true (by omega)
                  have t7 : (1 : Int) ≤ (k : Int) := by omega
                  have t8 : (k : Int) ≤ (qs.length : Int) := by omega
                  have Q2 := HQ2.out
                  have HP := Lib.hid (okQ_ix (show k - 1 < qs.length by omega) (allN_yes.1 hq.out (k - 1) (by omega)))
                  rw [show (k == 0) = false by simp; omega] at HK2
                  obtain ⟨p, hp⟩ : ∃ p, Hid (qs[k - 1] = p) := ⟨_, Lib.hid rfl⟩
                  rw [hp.out] at p0 p1 p2 HP HK2
                  clear ha' hk0 q2 hp
                  rcases Bool.eq_false_or_eq_true (lackB xs p) with hl | hl
                  · have HN := Lib.hid (pendB_no (rs := xs) hlt (show okQ xs qs k = false by rw [HK2, hl]; rfl))
                    clear hq HK HK2
                    refine wp_region_noPanic ?_
                    refine wp_region_held_drew (S := (fun w' => Below w1.heap.size w1 w' ∧ w'.cell? (a.add ((k - 1) * 3)) = some (.int .i64 p.r) ∧ w'.cell? ⟨(a.add ((k - 1) * 3)).block, (a.add ((k - 1) * 3)).off + 1, none⟩ = some (.int .i64 p.m) ∧ w'.cell? ⟨(a.add ((k - 1) * 3)).block, (a.add ((k - 1) * 3)).off + 2, none⟩ = some (.bool p.s) ∧ w'.cell? ⟨wr.heap.size, 0, none⟩ = some (.int .i64 q.r) ∧ w'.cell? ⟨wr.heap.size, 1, none⟩ = some (.int .i64 q.m) ∧ w'.cell? ⟨wr.heap.size, 2, none⟩ = some (.bool q.s))) (by kernel_rfl) ?_ (fun hHeld => ?_)
                    · ((try dsimp only); (first | exact ⟨HB3.out, (HB3.out.cell (World.block_lt_of_cell? _ _ p0)).trans p0, (HB3.out.cell (World.block_lt_of_cell? _ _ p1)).trans p1, (HB3.out.cell (World.block_lt_of_cell? _ _ p2)).trans p2, (HB3.out.cell (World.block_lt_of_cell? _ _ q0)).trans q0, (HB3.out.cell (World.block_lt_of_cell? _ _ q1)).trans q1, (HB3.out.cell (World.block_lt_of_cell? _ _ Q2)).trans Q2⟩ | exact ⟨HB2.out, (HB2.out.cell (World.block_lt_of_cell? _ _ p0)).trans p0, (HB2.out.cell (World.block_lt_of_cell? _ _ p1)).trans p1, (HB2.out.cell (World.block_lt_of_cell? _ _ p2)).trans p2, (HB2.out.cell (World.block_lt_of_cell? _ _ q0)).trans q0, (HB2.out.cell (World.block_lt_of_cell? _ _ q1)).trans q1, (HB2.out.cell (World.block_lt_of_cell? _ _ Q2)).trans Q2⟩ | exact ⟨HB1.out, (HB1.out.cell (World.block_lt_of_cell? _ _ p0)).trans p0, (HB1.out.cell (World.block_lt_of_cell? _ _ p1)).trans p1, (HB1.out.cell (World.block_lt_of_cell? _ _ p2)).trans p2, (HB1.out.cell (World.block_lt_of_cell? _ _ q0)).trans q0, (HB1.out.cell (World.block_lt_of_cell? _ _ q1)).trans q1, (HB1.out.cell (World.block_lt_of_cell? _ _ Q2)).trans Q2⟩ | exact ⟨(Below.refl _ _).drew, p0, p1, p2, q0, q1, Q2⟩))
                    refine take_yes (i := 0) (d := 44) (v := ?_) rfl rfl (by kernel_rfl) (by kernel_rfl) (by kernel_rfl) (fun _ _ _ h => h) (by kernel_rfl) ?_ hHeld ?_
                    rotate_left
                    · (intro w hSw; (try dsimp only at hSw); go_simp; try (with_reducible rfl))
                    try simp only [Act.put, List.setIfInBounds_toArray, List.set_cons_zero, List.set_cons_succ]
                    refine take_yes (i := 1) (d := 45) (v := ?_) rfl rfl (by kernel_rfl) (by kernel_rfl) (by kernel_rfl) (fun _ _ _ h => h) (by kernel_rfl) ?_ hHeld ?_
                    rotate_left
                    · (intro w hSw; (try dsimp only at hSw); go_simp; try (with_reducible rfl))
                    try simp only [Act.put, List.setIfInBounds_toArray, List.set_cons_zero, List.set_cons_succ]
                    refine take_yes (i := 2) (d := 46) (v := ?_) rfl rfl (by kernel_rfl) (by kernel_rfl) (by kernel_rfl) (fun _ _ _ h => h) (by kernel_rfl) ?_ hHeld ?_
                    rotate_left
                    · (intro w hSw; (try dsimp only at hSw); go_simp; try (with_reducible rfl))
                    try simp only [Act.put, List.setIfInBounds_toArray, List.set_cons_zero, List.set_cons_succ]
                    refine take_yes (i := 3) (d := 47) (v := ?_) rfl rfl (by kernel_rfl) (by kernel_rfl) (by kernel_rfl) (fun _ _ _ h => h) (by kernel_rfl) ?_ hHeld ?_
                    rotate_left
                    · (intro w hSw; (try dsimp only at hSw); go_simp; try (with_reducible rfl))
                    try simp only [Act.put, List.setIfInBounds_toArray, List.set_cons_zero, List.set_cons_succ]
                    refine take_yes (i := 4) (d := 48) (v := ?_) rfl rfl (by kernel_rfl) (by kernel_rfl) (by kernel_rfl) (fun _ _ _ h => h) (by kernel_rfl) ?_ hHeld ?_
                    rotate_left
                    · (intro w hSw; (try dsimp only at hSw); go_simp; try (with_reducible rfl))
                    try simp only [Act.put, List.setIfInBounds_toArray, List.set_cons_zero, List.set_cons_succ]
                    refine take_yes (i := 5) (d := 49) (v := ?_) rfl rfl (by kernel_rfl) (by kernel_rfl) (by kernel_rfl) (fun _ _ _ h => h) (by kernel_rfl) ?_ hHeld ?_
                    rotate_left
                    · (intro w hSw; (try dsimp only at hSw); go_simp; try (with_reducible rfl))
                    try simp only [Act.put, List.setIfInBounds_toArray, List.set_cons_zero, List.set_cons_succ]
                    refine take_yes (i := 6) (d := 50) (v := ?_) rfl rfl (by kernel_rfl) (by kernel_rfl) (by kernel_rfl) (fun _ _ _ h => h) (by kernel_rfl) ?_ hHeld ?_
                    rotate_left
                    · (intro w hSw; (try dsimp only at hSw); go_simp; try (with_reducible rfl))
                    try simp only [Act.put, List.setIfInBounds_toArray, List.set_cons_zero, List.set_cons_succ]
                    refine take_yes (i := 7) (d := 51) (v := ?_) rfl rfl (by kernel_rfl) (by kernel_rfl) (by kernel_rfl) (fun _ _ _ h => h) (by kernel_rfl) ?_ hHeld ?_
                    rotate_left
                    · (intro w hSw; (try dsimp only at hSw); go_simp; try (with_reducible rfl))
                    try simp only [Act.put, List.setIfInBounds_toArray, List.set_cons_zero, List.set_cons_succ]
                    refine take_yes (i := 8) (d := 52) (v := ?_) rfl rfl (by kernel_rfl) (by kernel_rfl) (by kernel_rfl) (fun _ _ _ h => h) (by kernel_rfl) ?_ hHeld ?_
                    rotate_left
                    · (intro w hSw; (try dsimp only at hSw); go_simp; try (with_reducible rfl))
                    try simp only [Act.put, List.setIfInBounds_toArray, List.set_cons_zero, List.set_cons_succ]
                    refine wpAnyH_ready (rs := [9]) (by kernel_rfl) (by simp) ?_
                    refine AllReadyH.cons rfl (fun K hK => ?_) AllReadyH.nil
                    go_simp
                    (go_at_call 79; refine (lacksSecond_at A c xs p _ (HA.out.below (below_drewN HW1.out 1)) hm HP.out).mono ?_; rintro e w4 ⟨rfl, hb⟩; rw [hl]; have HB1 := Lib.hid ((below_drewN (Below.refl w1.heap.size w1) 1).trans hb); clear hb)
                    (first | refine hK.out _ _ ?_ (fun hHeld1 => ?_) | (go_wp2_with fail; refine hK.out _ _ ?_ (fun hHeld1 => ?_)))
                    · ((try dsimp only); (first | exact ⟨HB3.out, (HB3.out.cell (World.block_lt_of_cell? _ _ p0)).trans p0, (HB3.out.cell (World.block_lt_of_cell? _ _ p1)).trans p1, (HB3.out.cell (World.block_lt_of_cell? _ _ p2)).trans p2, (HB3.out.cell (World.block_lt_of_cell? _ _ q0)).trans q0, (HB3.out.cell (World.block_lt_of_cell? _ _ q1)).trans q1, (HB3.out.cell (World.block_lt_of_cell? _ _ Q2)).trans Q2⟩ | exact ⟨HB2.out, (HB2.out.cell (World.block_lt_of_cell? _ _ p0)).trans p0, (HB2.out.cell (World.block_lt_of_cell? _ _ p1)).trans p1, (HB2.out.cell (World.block_lt_of_cell? _ _ p2)).trans p2, (HB2.out.cell (World.block_lt_of_cell? _ _ q0)).trans q0, (HB2.out.cell (World.block_lt_of_cell? _ _ q1)).trans q1, (HB2.out.cell (World.block_lt_of_cell? _ _ Q2)).trans Q2⟩ | exact ⟨HB1.out, (HB1.out.cell (World.block_lt_of_cell? _ _ p0)).trans p0, (HB1.out.cell (World.block_lt_of_cell? _ _ p1)).trans p1, (HB1.out.cell (World.block_lt_of_cell? _ _ p2)).trans p2, (HB1.out.cell (World.block_lt_of_cell? _ _ q0)).trans q0, (HB1.out.cell (World.block_lt_of_cell? _ _ q1)).trans q1, (HB1.out.cell (World.block_lt_of_cell? _ _ Q2)).trans Q2⟩ | exact ⟨(Below.refl _ _).drew, p0, p1, p2, q0, q1, Q2⟩))
                    clear hK K hHeld
                    have hHeld := hHeld1
                    clear hHeld1
                    try simp only [Act.put, List.setIfInBounds_toArray, List.set_cons_zero, List.set_cons_succ]
                    refine take_yes (i := 10) (d := 54) (v := ?_) rfl rfl (by kernel_rfl) (by kernel_rfl) (by kernel_rfl) (fun _ _ _ h => h) (by kernel_rfl) ?_ hHeld ?_
                    rotate_left
                    · (intro w hSw; (try dsimp only at hSw); go_simp; try (with_reducible rfl))
                    try simp only [Act.put, List.setIfInBounds_toArray, List.set_cons_zero, List.set_cons_succ]
                    refine take_no (i := 11) (d := 55) rfl rfl (by kernel_rfl) (by kernel_rfl) (by kernel_rfl) (fun _ _ _ h => h) (by kernel_rfl) hHeld ?_
                    try simp only [Act.put, List.setIfInBounds_toArray, List.set_cons_zero, List.set_cons_succ]
                    refine take_no (i := 12) (d := 56) rfl rfl (by kernel_rfl) (by kernel_rfl) (by kernel_rfl) (fun _ _ _ h => h) (by kernel_rfl) hHeld ?_
                    try simp only [Act.put, List.setIfInBounds_toArray, List.set_cons_zero, List.set_cons_succ]
                    refine take_no (i := 13) (d := 57) rfl rfl (by kernel_rfl) (by kernel_rfl) (by kernel_rfl) (fun _ _ _ h => h) (by kernel_rfl) hHeld ?_
                    try simp only [Act.put, List.setIfInBounds_toArray, List.set_cons_zero, List.set_cons_succ]
                    refine take_no (i := 14) (d := 58) rfl rfl (by kernel_rfl) (by kernel_rfl) (by kernel_rfl) (fun _ _ _ h => h) (by kernel_rfl) hHeld ?_
                    try simp only [Act.put, List.setIfInBounds_toArray, List.set_cons_zero, List.set_cons_succ]
                    refine take_no (i := 15) (d := 59) rfl rfl (by kernel_rfl) (by kernel_rfl) (by kernel_rfl) (fun _ _ _ h => h) (by kernel_rfl) hHeld ?_
                    try simp only [Act.put, List.setIfInBounds_toArray, List.set_cons_zero, List.set_cons_succ]
                    refine take_no (i := 16) (d := 60) rfl rfl (by kernel_rfl) (by kernel_rfl) (by kernel_rfl) (fun _ _ _ h => h) (by kernel_rfl) hHeld ?_
                    try simp only [Act.put, List.setIfInBounds_toArray, List.set_cons_zero, List.set_cons_succ]
                    refine take_no (i := 17) (d := 61) rfl rfl (by kernel_rfl) (by kernel_rfl) (by kernel_rfl) (fun _ _ _ h => h) (by kernel_rfl) hHeld ?_
                    try simp only [Act.put, List.setIfInBounds_toArray, List.set_cons_zero, List.set_cons_succ]
                    refine take_no (i := 18) (d := 62) rfl rfl (by kernel_rfl) (by kernel_rfl) (by kernel_rfl) (fun _ _ _ h => h) (by kernel_rfl) hHeld ?_
                    try simp only [Act.put, List.setIfInBounds_toArray, List.set_cons_zero, List.set_cons_succ]
                    refine take_no (i := 19) (d := 63) rfl rfl (by kernel_rfl) (by kernel_rfl) (by kernel_rfl) (fun _ _ _ h => h) (by kernel_rfl) hHeld ?_
                    try simp only [Act.put, List.setIfInBounds_toArray, List.set_cons_zero, List.set_cons_succ]
                    refine take_no (i := 20) (d := 64) rfl rfl (by kernel_rfl) (by kernel_rfl) (by kernel_rfl) (fun _ _ _ h => h) (by kernel_rfl) hHeld ?_
                    try simp only [Act.put, List.setIfInBounds_toArray, List.set_cons_zero, List.set_cons_succ]
                    refine take_no (i := 21) (d := 65) rfl rfl (by kernel_rfl) (by kernel_rfl) (by kernel_rfl) (fun _ _ _ h => h) (by kernel_rfl) hHeld ?_
                    try simp only [Act.put, List.setIfInBounds_toArray, List.set_cons_zero, List.set_cons_succ]
                    refine take_no (i := 22) (d := 66) rfl rfl (by kernel_rfl) (by kernel_rfl) (by kernel_rfl) (fun _ _ _ h => h) (by kernel_rfl) hHeld ?_
                    try simp only [Act.put, List.setIfInBounds_toArray, List.set_cons_zero, List.set_cons_succ]
                    refine take_no (i := 23) (d := 67) rfl rfl (by kernel_rfl) (by kernel_rfl) (by kernel_rfl) (fun _ _ _ h => h) (by kernel_rfl) hHeld ?_
                    try simp only [Act.put, List.setIfInBounds_toArray, List.set_cons_zero, List.set_cons_succ]
                    refine take_yes (i := 24) (d := 68) (v := ?_) rfl rfl (by kernel_rfl) (by kernel_rfl) (by kernel_rfl) (fun _ _ _ h => h) (by kernel_rfl) ?_ hHeld ?_
                    rotate_left
                    · (intro w hSw; (try dsimp only at hSw); go_simp; try (with_reducible rfl))
                    try simp only [Act.put, List.setIfInBounds_toArray, List.set_cons_zero, List.set_cons_succ]
                    refine take_yes (i := 25) (d := 69) (v := ?_) rfl rfl (by kernel_rfl) (by kernel_rfl) (by kernel_rfl) (fun _ _ _ h => h) (by kernel_rfl) ?_ hHeld ?_
                    rotate_left
                    · (intro w hSw; (try dsimp only at hSw); go_simp; try (with_reducible rfl))
                    try simp only [Act.put, List.setIfInBounds_toArray, List.set_cons_zero, List.set_cons_succ]
                    refine wpAnyH_done (by kernel_rfl) ?_ _
                    refine NoPanic.normal ?_
                    go_wp2
                    go_ret
                    exact ⟨ret_bool HN.out.symm, HW1.out.trans (HB1.out.mono HW1.out.size)⟩
                  · by_cases hr2 : (ruleAt xs q).rk ≤ (ruleAt xs p).rk
                    · have HN := Lib.hid (pendB_no (rs := xs) hlt (show okQ xs qs k = false by rw [HK2, hl, decide_eq_true hr2]; rfl))
                      have hg : decide ((ruleAt xs q).rk ≤ (ruleAt xs p).rk) = true := decide_eq_true hr2
                      have hfl := fld_rk
                      clear hq HK HK2 hr2
                      refine wp_region_noPanic ?_
                      refine wp_region_held_drew (S := (fun w' => Below w1.heap.size w1 w' ∧ w'.cell? (a.add ((k - 1) * 3)) = some (.int .i64 p.r) ∧ w'.cell? ⟨(a.add ((k - 1) * 3)).block, (a.add ((k - 1) * 3)).off + 1, none⟩ = some (.int .i64 p.m) ∧ w'.cell? ⟨(a.add ((k - 1) * 3)).block, (a.add ((k - 1) * 3)).off + 2, none⟩ = some (.bool p.s) ∧ w'.cell? ⟨wr.heap.size, 0, none⟩ = some (.int .i64 q.r) ∧ w'.cell? ⟨wr.heap.size, 1, none⟩ = some (.int .i64 q.m) ∧ w'.cell? ⟨wr.heap.size, 2, none⟩ = some (.bool q.s))) (by kernel_rfl) ?_ (fun hHeld => ?_)
                      · ((try dsimp only); (first | exact ⟨HB3.out, (HB3.out.cell (World.block_lt_of_cell? _ _ p0)).trans p0, (HB3.out.cell (World.block_lt_of_cell? _ _ p1)).trans p1, (HB3.out.cell (World.block_lt_of_cell? _ _ p2)).trans p2, (HB3.out.cell (World.block_lt_of_cell? _ _ q0)).trans q0, (HB3.out.cell (World.block_lt_of_cell? _ _ q1)).trans q1, (HB3.out.cell (World.block_lt_of_cell? _ _ Q2)).trans Q2⟩ | exact ⟨HB2.out, (HB2.out.cell (World.block_lt_of_cell? _ _ p0)).trans p0, (HB2.out.cell (World.block_lt_of_cell? _ _ p1)).trans p1, (HB2.out.cell (World.block_lt_of_cell? _ _ p2)).trans p2, (HB2.out.cell (World.block_lt_of_cell? _ _ q0)).trans q0, (HB2.out.cell (World.block_lt_of_cell? _ _ q1)).trans q1, (HB2.out.cell (World.block_lt_of_cell? _ _ Q2)).trans Q2⟩ | exact ⟨HB1.out, (HB1.out.cell (World.block_lt_of_cell? _ _ p0)).trans p0, (HB1.out.cell (World.block_lt_of_cell? _ _ p1)).trans p1, (HB1.out.cell (World.block_lt_of_cell? _ _ p2)).trans p2, (HB1.out.cell (World.block_lt_of_cell? _ _ q0)).trans q0, (HB1.out.cell (World.block_lt_of_cell? _ _ q1)).trans q1, (HB1.out.cell (World.block_lt_of_cell? _ _ Q2)).trans Q2⟩ | exact ⟨(Below.refl _ _).drew, p0, p1, p2, q0, q1, Q2⟩))
                      refine take_yes (i := 0) (d := 44) (v := ?_) rfl rfl (by kernel_rfl) (by kernel_rfl) (by kernel_rfl) (fun _ _ _ h => h) (by kernel_rfl) ?_ hHeld ?_
                      rotate_left
                      · (intro w hSw; (try dsimp only at hSw); go_simp; try (with_reducible rfl))
                      try simp only [Act.put, List.setIfInBounds_toArray, List.set_cons_zero, List.set_cons_succ]
                      refine take_yes (i := 1) (d := 45) (v := ?_) rfl rfl (by kernel_rfl) (by kernel_rfl) (by kernel_rfl) (fun _ _ _ h => h) (by kernel_rfl) ?_ hHeld ?_
                      rotate_left
                      · (intro w hSw; (try dsimp only at hSw); go_simp; try (with_reducible rfl))
                      try simp only [Act.put, List.setIfInBounds_toArray, List.set_cons_zero, List.set_cons_succ]
                      refine take_yes (i := 2) (d := 46) (v := ?_) rfl rfl (by kernel_rfl) (by kernel_rfl) (by kernel_rfl) (fun _ _ _ h => h) (by kernel_rfl) ?_ hHeld ?_
                      rotate_left
                      · (intro w hSw; (try dsimp only at hSw); go_simp; try (with_reducible rfl))
                      try simp only [Act.put, List.setIfInBounds_toArray, List.set_cons_zero, List.set_cons_succ]
                      refine take_yes (i := 3) (d := 47) (v := ?_) rfl rfl (by kernel_rfl) (by kernel_rfl) (by kernel_rfl) (fun _ _ _ h => h) (by kernel_rfl) ?_ hHeld ?_
                      rotate_left
                      · (intro w hSw; (try dsimp only at hSw); go_simp; try (with_reducible rfl))
                      try simp only [Act.put, List.setIfInBounds_toArray, List.set_cons_zero, List.set_cons_succ]
                      refine take_yes (i := 4) (d := 48) (v := ?_) rfl rfl (by kernel_rfl) (by kernel_rfl) (by kernel_rfl) (fun _ _ _ h => h) (by kernel_rfl) ?_ hHeld ?_
                      rotate_left
                      · (intro w hSw; (try dsimp only at hSw); go_simp; try (with_reducible rfl))
                      try simp only [Act.put, List.setIfInBounds_toArray, List.set_cons_zero, List.set_cons_succ]
                      refine take_yes (i := 5) (d := 49) (v := ?_) rfl rfl (by kernel_rfl) (by kernel_rfl) (by kernel_rfl) (fun _ _ _ h => h) (by kernel_rfl) ?_ hHeld ?_
                      rotate_left
                      · (intro w hSw; (try dsimp only at hSw); go_simp; try (with_reducible rfl))
                      try simp only [Act.put, List.setIfInBounds_toArray, List.set_cons_zero, List.set_cons_succ]
                      refine take_yes (i := 6) (d := 50) (v := ?_) rfl rfl (by kernel_rfl) (by kernel_rfl) (by kernel_rfl) (fun _ _ _ h => h) (by kernel_rfl) ?_ hHeld ?_
                      rotate_left
                      · (intro w hSw; (try dsimp only at hSw); go_simp; try (with_reducible rfl))
                      try simp only [Act.put, List.setIfInBounds_toArray, List.set_cons_zero, List.set_cons_succ]
                      refine take_yes (i := 7) (d := 51) (v := ?_) rfl rfl (by kernel_rfl) (by kernel_rfl) (by kernel_rfl) (fun _ _ _ h => h) (by kernel_rfl) ?_ hHeld ?_
                      rotate_left
                      · (intro w hSw; (try dsimp only at hSw); go_simp; try (with_reducible rfl))
                      try simp only [Act.put, List.setIfInBounds_toArray, List.set_cons_zero, List.set_cons_succ]
                      refine take_yes (i := 8) (d := 52) (v := ?_) rfl rfl (by kernel_rfl) (by kernel_rfl) (by kernel_rfl) (fun _ _ _ h => h) (by kernel_rfl) ?_ hHeld ?_
                      rotate_left
                      · (intro w hSw; (try dsimp only at hSw); go_simp; try (with_reducible rfl))
                      try simp only [Act.put, List.setIfInBounds_toArray, List.set_cons_zero, List.set_cons_succ]
                      refine wpAnyH_ready (rs := [9]) (by kernel_rfl) (by simp) ?_
                      refine AllReadyH.cons rfl (fun K hK => ?_) AllReadyH.nil
                      go_simp
                      (go_at_call 79; refine (lacksSecond_at A c xs p _ (HA.out.below (below_drewN HW1.out 1)) hm HP.out).mono ?_; rintro e w4 ⟨rfl, hb⟩; rw [hl]; have HB1 := Lib.hid ((below_drewN (Below.refl w1.heap.size w1) 1).trans hb); clear hb)
                      (first | refine hK.out _ _ ?_ (fun hHeld1 => ?_) | (go_wp2_with fail; refine hK.out _ _ ?_ (fun hHeld1 => ?_)))
                      · ((try dsimp only); (first | exact ⟨HB3.out, (HB3.out.cell (World.block_lt_of_cell? _ _ p0)).trans p0, (HB3.out.cell (World.block_lt_of_cell? _ _ p1)).trans p1, (HB3.out.cell (World.block_lt_of_cell? _ _ p2)).trans p2, (HB3.out.cell (World.block_lt_of_cell? _ _ q0)).trans q0, (HB3.out.cell (World.block_lt_of_cell? _ _ q1)).trans q1, (HB3.out.cell (World.block_lt_of_cell? _ _ Q2)).trans Q2⟩ | exact ⟨HB2.out, (HB2.out.cell (World.block_lt_of_cell? _ _ p0)).trans p0, (HB2.out.cell (World.block_lt_of_cell? _ _ p1)).trans p1, (HB2.out.cell (World.block_lt_of_cell? _ _ p2)).trans p2, (HB2.out.cell (World.block_lt_of_cell? _ _ q0)).trans q0, (HB2.out.cell (World.block_lt_of_cell? _ _ q1)).trans q1, (HB2.out.cell (World.block_lt_of_cell? _ _ Q2)).trans Q2⟩ | exact ⟨HB1.out, (HB1.out.cell (World.block_lt_of_cell? _ _ p0)).trans p0, (HB1.out.cell (World.block_lt_of_cell? _ _ p1)).trans p1, (HB1.out.cell (World.block_lt_of_cell? _ _ p2)).trans p2, (HB1.out.cell (World.block_lt_of_cell? _ _ q0)).trans q0, (HB1.out.cell (World.block_lt_of_cell? _ _ q1)).trans q1, (HB1.out.cell (World.block_lt_of_cell? _ _ Q2)).trans Q2⟩ | exact ⟨(Below.refl _ _).drew, p0, p1, p2, q0, q1, Q2⟩))
                      clear hK K hHeld
                      have hHeld := hHeld1
                      clear hHeld1
                      try simp only [Act.put, List.setIfInBounds_toArray, List.set_cons_zero, List.set_cons_succ]
                      refine take_yes (i := 10) (d := 54) (v := ?_) rfl rfl (by kernel_rfl) (by kernel_rfl) (by kernel_rfl) (fun _ _ _ h => h) (by kernel_rfl) ?_ hHeld ?_
                      rotate_left
                      · (intro w hSw; (try dsimp only at hSw); go_simp; try (with_reducible rfl))
                      try simp only [Act.put, List.setIfInBounds_toArray, List.set_cons_zero, List.set_cons_succ]
                      refine take_yes (i := 11) (d := 55) (v := ?_) rfl rfl (by kernel_rfl) (by kernel_rfl) (by kernel_rfl) (fun _ _ _ h => h) (by kernel_rfl) ?_ hHeld ?_
                      rotate_left
                      · (intro w hSw; (try dsimp only at hSw); go_simp; try (with_reducible rfl))
                      try simp only [Act.put, List.setIfInBounds_toArray, List.set_cons_zero, List.set_cons_succ]
                      refine take_yes (i := 12) (d := 56) (v := ?_) rfl rfl (by kernel_rfl) (by kernel_rfl) (by kernel_rfl) (fun _ _ _ h => h) (by kernel_rfl) ?_ hHeld ?_
                      rotate_left
                      · (intro w hSw; (try dsimp only at hSw); go_simp; try (with_reducible rfl))
                      try simp only [Act.put, List.setIfInBounds_toArray, List.set_cons_zero, List.set_cons_succ]
                      refine take_yes (i := 13) (d := 57) (v := ?_) rfl rfl (by kernel_rfl) (by kernel_rfl) (by kernel_rfl) (fun _ _ _ h => h) (by kernel_rfl) ?_ hHeld ?_
                      rotate_left
                      · (intro w hSw; (try dsimp only at hSw); go_simp; try (with_reducible rfl))
                      try simp only [Act.put, List.setIfInBounds_toArray, List.set_cons_zero, List.set_cons_succ]
                      refine take_yes (i := 14) (d := 58) (v := ?_) rfl rfl (by kernel_rfl) (by kernel_rfl) (by kernel_rfl) (fun _ _ _ h => h) (by kernel_rfl) ?_ hHeld ?_
                      rotate_left
                      · (intro w hSw; (try dsimp only at hSw); go_simp; try (with_reducible rfl))
                      try simp only [Act.put, List.setIfInBounds_toArray, List.set_cons_zero, List.set_cons_succ]
                      refine take_yes (i := 15) (d := 59) (v := ?_) rfl rfl (by kernel_rfl) (by kernel_rfl) (by kernel_rfl) (fun _ _ _ h => h) (by kernel_rfl) ?_ hHeld ?_
                      rotate_left
                      · (intro w hSw; (try dsimp only at hSw); go_simp; try (with_reducible rfl))
                      try simp only [Act.put, List.setIfInBounds_toArray, List.set_cons_zero, List.set_cons_succ]
                      refine take_yes (i := 16) (d := 60) (v := ?_) rfl rfl (by kernel_rfl) (by kernel_rfl) (by kernel_rfl) (fun _ _ _ h => h) (by kernel_rfl) ?_ hHeld ?_
                      rotate_left
                      · (intro w hSw; (try dsimp only at hSw); go_simp; try (with_reducible rfl))
                      try simp only [Act.put, List.setIfInBounds_toArray, List.set_cons_zero, List.set_cons_succ]
                      refine take_yes (i := 19) (d := 63) (v := ?_) rfl rfl (by kernel_rfl) (by kernel_rfl) (by kernel_rfl) (fun _ _ _ h => h) (by kernel_rfl) ?_ hHeld ?_
                      rotate_left
                      · (intro w hSw; (try dsimp only at hSw); go_simp; try (with_reducible rfl))
                      try simp only [Act.put, List.setIfInBounds_toArray, List.set_cons_zero, List.set_cons_succ]
                      refine take_yes (i := 20) (d := 64) (v := ?_) rfl rfl (by kernel_rfl) (by kernel_rfl) (by kernel_rfl) (fun _ _ _ h => h) (by kernel_rfl) ?_ hHeld ?_
                      rotate_left
                      · (intro w hSw; (try dsimp only at hSw); go_simp; try (with_reducible rfl))
                      try simp only [Act.put, List.setIfInBounds_toArray, List.set_cons_zero, List.set_cons_succ]
                      refine wpAnyH_ready (rs := [17]) (by kernel_rfl) (by simp) ?_
                      refine AllReadyH.cons rfl (fun K hK => ?_) AllReadyH.nil
                      go_simp
                      (go_at_call 78; refine (ruleOf_at A c xs p _ ((HA.out.below HW1.out).below HB1.out) hm HP.out).mono ?_; rintro e w5 ⟨rfl, hb⟩; have HB2 := Lib.hid (HB1.out.trans (hb.mono HB1.out.size)); clear hb)
                      (first | refine hK.out _ _ ?_ (fun hHeld1 => ?_) | (go_wp2_with fail; refine hK.out _ _ ?_ (fun hHeld1 => ?_)))
                      · ((try dsimp only); (first | exact ⟨HB3.out, (HB3.out.cell (World.block_lt_of_cell? _ _ p0)).trans p0, (HB3.out.cell (World.block_lt_of_cell? _ _ p1)).trans p1, (HB3.out.cell (World.block_lt_of_cell? _ _ p2)).trans p2, (HB3.out.cell (World.block_lt_of_cell? _ _ q0)).trans q0, (HB3.out.cell (World.block_lt_of_cell? _ _ q1)).trans q1, (HB3.out.cell (World.block_lt_of_cell? _ _ Q2)).trans Q2⟩ | exact ⟨HB2.out, (HB2.out.cell (World.block_lt_of_cell? _ _ p0)).trans p0, (HB2.out.cell (World.block_lt_of_cell? _ _ p1)).trans p1, (HB2.out.cell (World.block_lt_of_cell? _ _ p2)).trans p2, (HB2.out.cell (World.block_lt_of_cell? _ _ q0)).trans q0, (HB2.out.cell (World.block_lt_of_cell? _ _ q1)).trans q1, (HB2.out.cell (World.block_lt_of_cell? _ _ Q2)).trans Q2⟩ | exact ⟨HB1.out, (HB1.out.cell (World.block_lt_of_cell? _ _ p0)).trans p0, (HB1.out.cell (World.block_lt_of_cell? _ _ p1)).trans p1, (HB1.out.cell (World.block_lt_of_cell? _ _ p2)).trans p2, (HB1.out.cell (World.block_lt_of_cell? _ _ q0)).trans q0, (HB1.out.cell (World.block_lt_of_cell? _ _ q1)).trans q1, (HB1.out.cell (World.block_lt_of_cell? _ _ Q2)).trans Q2⟩ | exact ⟨(Below.refl _ _).drew, p0, p1, p2, q0, q1, Q2⟩))
                      clear hK K hHeld
                      have hHeld := hHeld1
                      clear hHeld1
                      try simp only [Act.put, List.setIfInBounds_toArray, List.set_cons_zero, List.set_cons_succ]
                      refine take_yes (i := 18) (d := 62) (v := ?_) rfl rfl (by kernel_rfl) (by kernel_rfl) (by kernel_rfl) (fun _ _ _ h => h) (by kernel_rfl) ?_ hHeld ?_
                      rotate_left
                      · (intro w hSw; (try dsimp only at hSw); go_simp; try (with_reducible rfl))
                      try simp only [Act.put, List.setIfInBounds_toArray, List.set_cons_zero, List.set_cons_succ]
                      refine wpAnyH_ready (rs := [21]) (by kernel_rfl) (by simp) ?_
                      refine AllReadyH.cons rfl (fun K hK => ?_) AllReadyH.nil
                      go_simp
                      (go_at_call 78; refine (ruleOf_at A c xs q _ ((HA.out.below HW1.out).below HB2.out) hm HIX.out).mono ?_; rintro e w6 ⟨rfl, hb⟩; have HB3 := Lib.hid (HB2.out.trans (hb.mono HB2.out.size)); clear hb)
                      (first | refine hK.out _ _ ?_ (fun hHeld1 => ?_) | (go_wp2_with fail; refine hK.out _ _ ?_ (fun hHeld1 => ?_)))
                      · ((try dsimp only); (first | exact ⟨HB3.out, (HB3.out.cell (World.block_lt_of_cell? _ _ p0)).trans p0, (HB3.out.cell (World.block_lt_of_cell? _ _ p1)).trans p1, (HB3.out.cell (World.block_lt_of_cell? _ _ p2)).trans p2, (HB3.out.cell (World.block_lt_of_cell? _ _ q0)).trans q0, (HB3.out.cell (World.block_lt_of_cell? _ _ q1)).trans q1, (HB3.out.cell (World.block_lt_of_cell? _ _ Q2)).trans Q2⟩ | exact ⟨HB2.out, (HB2.out.cell (World.block_lt_of_cell? _ _ p0)).trans p0, (HB2.out.cell (World.block_lt_of_cell? _ _ p1)).trans p1, (HB2.out.cell (World.block_lt_of_cell? _ _ p2)).trans p2, (HB2.out.cell (World.block_lt_of_cell? _ _ q0)).trans q0, (HB2.out.cell (World.block_lt_of_cell? _ _ q1)).trans q1, (HB2.out.cell (World.block_lt_of_cell? _ _ Q2)).trans Q2⟩ | exact ⟨HB1.out, (HB1.out.cell (World.block_lt_of_cell? _ _ p0)).trans p0, (HB1.out.cell (World.block_lt_of_cell? _ _ p1)).trans p1, (HB1.out.cell (World.block_lt_of_cell? _ _ p2)).trans p2, (HB1.out.cell (World.block_lt_of_cell? _ _ q0)).trans q0, (HB1.out.cell (World.block_lt_of_cell? _ _ q1)).trans q1, (HB1.out.cell (World.block_lt_of_cell? _ _ Q2)).trans Q2⟩ | exact ⟨(Below.refl _ _).drew, p0, p1, p2, q0, q1, Q2⟩))
                      clear hK K hHeld
                      have hHeld := hHeld1
                      clear hHeld1
                      try simp only [Act.put, List.setIfInBounds_toArray, List.set_cons_zero, List.set_cons_succ]
                      refine take_yes (i := 22) (d := 66) (v := ?_) rfl rfl (by kernel_rfl) (by kernel_rfl) (by kernel_rfl) (fun _ _ _ h => h) (by kernel_rfl) ?_ hHeld ?_
                      rotate_left
                      · (intro w hSw; (try dsimp only at hSw); go_simp; try (with_reducible rfl))
                      try simp only [Act.put, List.setIfInBounds_toArray, List.set_cons_zero, List.set_cons_succ]
                      refine take_yes (i := 23) (d := 67) (v := ?_) rfl rfl (by kernel_rfl) (by kernel_rfl) (by kernel_rfl) (fun _ _ _ h => h) (by kernel_rfl) ?_ hHeld ?_
                      rotate_left
                      · (intro w hSw; (try dsimp only at hSw); go_simp; try (with_reducible rfl))
                      try simp only [Act.put, List.setIfInBounds_toArray, List.set_cons_zero, List.set_cons_succ]
                      refine take_yes (i := 24) (d := 68) (v := ?_) rfl rfl (by kernel_rfl) (by kernel_rfl) (by kernel_rfl) (fun _ _ _ h => h) (by kernel_rfl) ?_ hHeld ?_
                      rotate_left
                      · (intro w hSw; (try dsimp only at hSw); go_simp; try (with_reducible rfl))
                      try simp only [Act.put, List.setIfInBounds_toArray, List.set_cons_zero, List.set_cons_succ]
                      refine take_yes (i := 25) (d := 69) (v := ?_) rfl rfl (by kernel_rfl) (by kernel_rfl) (by kernel_rfl) (fun _ _ _ h => h) (by kernel_rfl) ?_ hHeld ?_
                      rotate_left
                      · (intro w hSw; (try dsimp only at hSw); go_simp; try (with_reducible rfl))
                      try simp only [Act.put, List.setIfInBounds_toArray, List.set_cons_zero, List.set_cons_succ]
                      refine wpAnyH_done (by kernel_rfl) ?_ _
                      refine NoPanic.normal ?_
                      go_wp2
                      go_ret
                      exact ⟨ret_bool HN.out.symm, HW1.out.trans (HB3.out.mono HW1.out.size)⟩
                    · have HS := Lib.hid (allN_step hq.out (show okQ xs qs k = true by rw [HK2, hl, decide_eq_false hr2]; rfl))
                      have hg : decide ((ruleAt xs q).rk ≤ (ruleAt xs p).rk) = false := decide_eq_false hr2
                      have hfl := fld_rk
                      clear hq HK HK2 hr2
                      refine wp_region_noPanic ?_
                      refine wp_region_held_drew (S := (fun w' => Below w1.heap.size w1 w' ∧ w'.cell? (a.add ((k - 1) * 3)) = some (.int .i64 p.r) ∧ w'.cell? ⟨(a.add ((k - 1) * 3)).block, (a.add ((k - 1) * 3)).off + 1, none⟩ = some (.int .i64 p.m) ∧ w'.cell? ⟨(a.add ((k - 1) * 3)).block, (a.add ((k - 1) * 3)).off + 2, none⟩ = some (.bool p.s) ∧ w'.cell? ⟨wr.heap.size, 0, none⟩ = some (.int .i64 q.r) ∧ w'.cell? ⟨wr.heap.size, 1, none⟩ = some (.int .i64 q.m) ∧ w'.cell? ⟨wr.heap.size, 2, none⟩ = some (.bool q.s))) (by kernel_rfl) ?_ (fun hHeld => ?_)
                      · ((try dsimp only); (first | exact ⟨HB3.out, (HB3.out.cell (World.block_lt_of_cell? _ _ p0)).trans p0, (HB3.out.cell (World.block_lt_of_cell? _ _ p1)).trans p1, (HB3.out.cell (World.block_lt_of_cell? _ _ p2)).trans p2, (HB3.out.cell (World.block_lt_of_cell? _ _ q0)).trans q0, (HB3.out.cell (World.block_lt_of_cell? _ _ q1)).trans q1, (HB3.out.cell (World.block_lt_of_cell? _ _ Q2)).trans Q2⟩ | exact ⟨HB2.out, (HB2.out.cell (World.block_lt_of_cell? _ _ p0)).trans p0, (HB2.out.cell (World.block_lt_of_cell? _ _ p1)).trans p1, (HB2.out.cell (World.block_lt_of_cell? _ _ p2)).trans p2, (HB2.out.cell (World.block_lt_of_cell? _ _ q0)).trans q0, (HB2.out.cell (World.block_lt_of_cell? _ _ q1)).trans q1, (HB2.out.cell (World.block_lt_of_cell? _ _ Q2)).trans Q2⟩ | exact ⟨HB1.out, (HB1.out.cell (World.block_lt_of_cell? _ _ p0)).trans p0, (HB1.out.cell (World.block_lt_of_cell? _ _ p1)).trans p1, (HB1.out.cell (World.block_lt_of_cell? _ _ p2)).trans p2, (HB1.out.cell (World.block_lt_of_cell? _ _ q0)).trans q0, (HB1.out.cell (World.block_lt_of_cell? _ _ q1)).trans q1, (HB1.out.cell (World.block_lt_of_cell? _ _ Q2)).trans Q2⟩ | exact ⟨(Below.refl _ _).drew, p0, p1, p2, q0, q1, Q2⟩))
                      refine take_yes (i := 0) (d := 44) (v := ?_) rfl rfl (by kernel_rfl) (by kernel_rfl) (by kernel_rfl) (fun _ _ _ h => h) (by kernel_rfl) ?_ hHeld ?_
                      rotate_left
                      · (intro w hSw; (try dsimp only at hSw); go_simp; try (with_reducible rfl))
                      try simp only [Act.put, List.setIfInBounds_toArray, List.set_cons_zero, List.set_cons_succ]
                      refine take_yes (i := 1) (d := 45) (v := ?_) rfl rfl (by kernel_rfl) (by kernel_rfl) (by kernel_rfl) (fun _ _ _ h => h) (by kernel_rfl) ?_ hHeld ?_
                      rotate_left
                      · (intro w hSw; (try dsimp only at hSw); go_simp; try (with_reducible rfl))
                      try simp only [Act.put, List.setIfInBounds_toArray, List.set_cons_zero, List.set_cons_succ]
                      refine take_yes (i := 2) (d := 46) (v := ?_) rfl rfl (by kernel_rfl) (by kernel_rfl) (by kernel_rfl) (fun _ _ _ h => h) (by kernel_rfl) ?_ hHeld ?_
                      rotate_left
                      · (intro w hSw; (try dsimp only at hSw); go_simp; try (with_reducible rfl))
                      try simp only [Act.put, List.setIfInBounds_toArray, List.set_cons_zero, List.set_cons_succ]
                      refine take_yes (i := 3) (d := 47) (v := ?_) rfl rfl (by kernel_rfl) (by kernel_rfl) (by kernel_rfl) (fun _ _ _ h => h) (by kernel_rfl) ?_ hHeld ?_
                      rotate_left
                      · (intro w hSw; (try dsimp only at hSw); go_simp; try (with_reducible rfl))
                      try simp only [Act.put, List.setIfInBounds_toArray, List.set_cons_zero, List.set_cons_succ]
                      refine take_yes (i := 4) (d := 48) (v := ?_) rfl rfl (by kernel_rfl) (by kernel_rfl) (by kernel_rfl) (fun _ _ _ h => h) (by kernel_rfl) ?_ hHeld ?_
                      rotate_left
                      · (intro w hSw; (try dsimp only at hSw); go_simp; try (with_reducible rfl))
                      try simp only [Act.put, List.setIfInBounds_toArray, List.set_cons_zero, List.set_cons_succ]
                      refine take_yes (i := 5) (d := 49) (v := ?_) rfl rfl (by kernel_rfl) (by kernel_rfl) (by kernel_rfl) (fun _ _ _ h => h) (by kernel_rfl) ?_ hHeld ?_
                      rotate_left
                      · (intro w hSw; (try dsimp only at hSw); go_simp; try (with_reducible rfl))
                      try simp only [Act.put, List.setIfInBounds_toArray, List.set_cons_zero, List.set_cons_succ]
                      refine take_yes (i := 6) (d := 50) (v := ?_) rfl rfl (by kernel_rfl) (by kernel_rfl) (by kernel_rfl) (fun _ _ _ h => h) (by kernel_rfl) ?_ hHeld ?_
                      rotate_left
                      · (intro w hSw; (try dsimp only at hSw); go_simp; try (with_reducible rfl))
                      try simp only [Act.put, List.setIfInBounds_toArray, List.set_cons_zero, List.set_cons_succ]
                      refine take_yes (i := 7) (d := 51) (v := ?_) rfl rfl (by kernel_rfl) (by kernel_rfl) (by kernel_rfl) (fun _ _ _ h => h) (by kernel_rfl) ?_ hHeld ?_
                      rotate_left
                      · (intro w hSw; (try dsimp only at hSw); go_simp; try (with_reducible rfl))
                      try simp only [Act.put, List.setIfInBounds_toArray, List.set_cons_zero, List.set_cons_succ]
                      refine take_yes (i := 8) (d := 52) (v := ?_) rfl rfl (by kernel_rfl) (by kernel_rfl) (by kernel_rfl) (fun _ _ _ h => h) (by kernel_rfl) ?_ hHeld ?_
                      rotate_left
                      · (intro w hSw; (try dsimp only at hSw); go_simp; try (with_reducible rfl))
                      try simp only [Act.put, List.setIfInBounds_toArray, List.set_cons_zero, List.set_cons_succ]
                      refine wpAnyH_ready (rs := [9]) (by kernel_rfl) (by simp) ?_
                      refine AllReadyH.cons rfl (fun K hK => ?_) AllReadyH.nil
                      go_simp
                      (go_at_call 79; refine (lacksSecond_at A c xs p _ (HA.out.below (below_drewN HW1.out 1)) hm HP.out).mono ?_; rintro e w4 ⟨rfl, hb⟩; rw [hl]; have HB1 := Lib.hid ((below_drewN (Below.refl w1.heap.size w1) 1).trans hb); clear hb)
                      (first | refine hK.out _ _ ?_ (fun hHeld1 => ?_) | (go_wp2_with fail; refine hK.out _ _ ?_ (fun hHeld1 => ?_)))
                      · ((try dsimp only); (first | exact ⟨HB3.out, (HB3.out.cell (World.block_lt_of_cell? _ _ p0)).trans p0, (HB3.out.cell (World.block_lt_of_cell? _ _ p1)).trans p1, (HB3.out.cell (World.block_lt_of_cell? _ _ p2)).trans p2, (HB3.out.cell (World.block_lt_of_cell? _ _ q0)).trans q0, (HB3.out.cell (World.block_lt_of_cell? _ _ q1)).trans q1, (HB3.out.cell (World.block_lt_of_cell? _ _ Q2)).trans Q2⟩ | exact ⟨HB2.out, (HB2.out.cell (World.block_lt_of_cell? _ _ p0)).trans p0, (HB2.out.cell (World.block_lt_of_cell? _ _ p1)).trans p1, (HB2.out.cell (World.block_lt_of_cell? _ _ p2)).trans p2, (HB2.out.cell (World.block_lt_of_cell? _ _ q0)).trans q0, (HB2.out.cell (World.block_lt_of_cell? _ _ q1)).trans q1, (HB2.out.cell (World.block_lt_of_cell? _ _ Q2)).trans Q2⟩ | exact ⟨HB1.out, (HB1.out.cell (World.block_lt_of_cell? _ _ p0)).trans p0, (HB1.out.cell (World.block_lt_of_cell? _ _ p1)).trans p1, (HB1.out.cell (World.block_lt_of_cell? _ _ p2)).trans p2, (HB1.out.cell (World.block_lt_of_cell? _ _ q0)).trans q0, (HB1.out.cell (World.block_lt_of_cell? _ _ q1)).trans q1, (HB1.out.cell (World.block_lt_of_cell? _ _ Q2)).trans Q2⟩ | exact ⟨(Below.refl _ _).drew, p0, p1, p2, q0, q1, Q2⟩))
                      clear hK K hHeld
                      have hHeld := hHeld1
                      clear hHeld1
                      try simp only [Act.put, List.setIfInBounds_toArray, List.set_cons_zero, List.set_cons_succ]
                      refine take_yes (i := 10) (d := 54) (v := ?_) rfl rfl (by kernel_rfl) (by kernel_rfl) (by kernel_rfl) (fun _ _ _ h => h) (by kernel_rfl) ?_ hHeld ?_
                      rotate_left
                      · (intro w hSw; (try dsimp only at hSw); go_simp; try (with_reducible rfl))
                      try simp only [Act.put, List.setIfInBounds_toArray, List.set_cons_zero, List.set_cons_succ]
                      refine take_yes (i := 11) (d := 55) (v := ?_) rfl rfl (by kernel_rfl) (by kernel_rfl) (by kernel_rfl) (fun _ _ _ h => h) (by kernel_rfl) ?_ hHeld ?_
                      rotate_left
                      · (intro w hSw; (try dsimp only at hSw); go_simp; try (with_reducible rfl))
                      try simp only [Act.put, List.setIfInBounds_toArray, List.set_cons_zero, List.set_cons_succ]
                      refine take_yes (i := 12) (d := 56) (v := ?_) rfl rfl (by kernel_rfl) (by kernel_rfl) (by kernel_rfl) (fun _ _ _ h => h) (by kernel_rfl) ?_ hHeld ?_
                      rotate_left
                      · (intro w hSw; (try dsimp only at hSw); go_simp; try (with_reducible rfl))
                      try simp only [Act.put, List.setIfInBounds_toArray, List.set_cons_zero, List.set_cons_succ]
                      refine take_yes (i := 13) (d := 57) (v := ?_) rfl rfl (by kernel_rfl) (by kernel_rfl) (by kernel_rfl) (fun _ _ _ h => h) (by kernel_rfl) ?_ hHeld ?_
                      rotate_left
                      · (intro w hSw; (try dsimp only at hSw); go_simp; try (with_reducible rfl))
                      try simp only [Act.put, List.setIfInBounds_toArray, List.set_cons_zero, List.set_cons_succ]
                      refine take_yes (i := 14) (d := 58) (v := ?_) rfl rfl (by kernel_rfl) (by kernel_rfl) (by kernel_rfl) (fun _ _ _ h => h) (by kernel_rfl) ?_ hHeld ?_
                      rotate_left
                      · (intro w hSw; (try dsimp only at hSw); go_simp; try (with_reducible rfl))
                      try simp only [Act.put, List.setIfInBounds_toArray, List.set_cons_zero, List.set_cons_succ]
                      refine take_yes (i := 15) (d := 59) (v := ?_) rfl rfl (by kernel_rfl) (by kernel_rfl) (by kernel_rfl) (fun _ _ _ h => h) (by kernel_rfl) ?_ hHeld ?_
                      rotate_left
                      · (intro w hSw; (try dsimp only at hSw); go_simp; try (with_reducible rfl))
                      try simp only [Act.put, List.setIfInBounds_toArray, List.set_cons_zero, List.set_cons_succ]
                      refine take_yes (i := 16) (d := 60) (v := ?_) rfl rfl (by kernel_rfl) (by kernel_rfl) (by kernel_rfl) (fun _ _ _ h => h) (by kernel_rfl) ?_ hHeld ?_
                      rotate_left
                      · (intro w hSw; (try dsimp only at hSw); go_simp; try (with_reducible rfl))
                      try simp only [Act.put, List.setIfInBounds_toArray, List.set_cons_zero, List.set_cons_succ]
                      refine take_yes (i := 19) (d := 63) (v := ?_) rfl rfl (by kernel_rfl) (by kernel_rfl) (by kernel_rfl) (fun _ _ _ h => h) (by kernel_rfl) ?_ hHeld ?_
                      rotate_left
                      · (intro w hSw; (try dsimp only at hSw); go_simp; try (with_reducible rfl))
                      try simp only [Act.put, List.setIfInBounds_toArray, List.set_cons_zero, List.set_cons_succ]
                      refine take_yes (i := 20) (d := 64) (v := ?_) rfl rfl (by kernel_rfl) (by kernel_rfl) (by kernel_rfl) (fun _ _ _ h => h) (by kernel_rfl) ?_ hHeld ?_
                      rotate_left
                      · (intro w hSw; (try dsimp only at hSw); go_simp; try (with_reducible rfl))
                      try simp only [Act.put, List.setIfInBounds_toArray, List.set_cons_zero, List.set_cons_succ]
                      refine wpAnyH_ready (rs := [17]) (by kernel_rfl) (by simp) ?_
                      refine AllReadyH.cons rfl (fun K hK => ?_) AllReadyH.nil
                      go_simp
                      (go_at_call 78; refine (ruleOf_at A c xs p _ ((HA.out.below HW1.out).below HB1.out) hm HP.out).mono ?_; rintro e w5 ⟨rfl, hb⟩; have HB2 := Lib.hid (HB1.out.trans (hb.mono HB1.out.size)); clear hb)
                      (first | refine hK.out _ _ ?_ (fun hHeld1 => ?_) | (go_wp2_with fail; refine hK.out _ _ ?_ (fun hHeld1 => ?_)))
                      · ((try dsimp only); (first | exact ⟨HB3.out, (HB3.out.cell (World.block_lt_of_cell? _ _ p0)).trans p0, (HB3.out.cell (World.block_lt_of_cell? _ _ p1)).trans p1, (HB3.out.cell (World.block_lt_of_cell? _ _ p2)).trans p2, (HB3.out.cell (World.block_lt_of_cell? _ _ q0)).trans q0, (HB3.out.cell (World.block_lt_of_cell? _ _ q1)).trans q1, (HB3.out.cell (World.block_lt_of_cell? _ _ Q2)).trans Q2⟩ | exact ⟨HB2.out, (HB2.out.cell (World.block_lt_of_cell? _ _ p0)).trans p0, (HB2.out.cell (World.block_lt_of_cell? _ _ p1)).trans p1, (HB2.out.cell (World.block_lt_of_cell? _ _ p2)).trans p2, (HB2.out.cell (World.block_lt_of_cell? _ _ q0)).trans q0, (HB2.out.cell (World.block_lt_of_cell? _ _ q1)).trans q1, (HB2.out.cell (World.block_lt_of_cell? _ _ Q2)).trans Q2⟩ | exact ⟨HB1.out, (HB1.out.cell (World.block_lt_of_cell? _ _ p0)).trans p0, (HB1.out.cell (World.block_lt_of_cell? _ _ p1)).trans p1, (HB1.out.cell (World.block_lt_of_cell? _ _ p2)).trans p2, (HB1.out.cell (World.block_lt_of_cell? _ _ q0)).trans q0, (HB1.out.cell (World.block_lt_of_cell? _ _ q1)).trans q1, (HB1.out.cell (World.block_lt_of_cell? _ _ Q2)).trans Q2⟩ | exact ⟨(Below.refl _ _).drew, p0, p1, p2, q0, q1, Q2⟩))
                      clear hK K hHeld
                      have hHeld := hHeld1
                      clear hHeld1
                      try simp only [Act.put, List.setIfInBounds_toArray, List.set_cons_zero, List.set_cons_succ]
                      refine take_yes (i := 18) (d := 62) (v := ?_) rfl rfl (by kernel_rfl) (by kernel_rfl) (by kernel_rfl) (fun _ _ _ h => h) (by kernel_rfl) ?_ hHeld ?_
                      rotate_left
                      · (intro w hSw; (try dsimp only at hSw); go_simp; try (with_reducible rfl))
                      try simp only [Act.put, List.setIfInBounds_toArray, List.set_cons_zero, List.set_cons_succ]
                      refine wpAnyH_ready (rs := [21]) (by kernel_rfl) (by simp) ?_
                      refine AllReadyH.cons rfl (fun K hK => ?_) AllReadyH.nil
                      go_simp
                      (go_at_call 78; refine (ruleOf_at A c xs q _ ((HA.out.below HW1.out).below HB2.out) hm HIX.out).mono ?_; rintro e w6 ⟨rfl, hb⟩; have HB3 := Lib.hid (HB2.out.trans (hb.mono HB2.out.size)); clear hb)
                      (first | refine hK.out _ _ ?_ (fun hHeld1 => ?_) | (go_wp2_with fail; refine hK.out _ _ ?_ (fun hHeld1 => ?_)))
                      · ((try dsimp only); (first | exact ⟨HB3.out, (HB3.out.cell (World.block_lt_of_cell? _ _ p0)).trans p0, (HB3.out.cell (World.block_lt_of_cell? _ _ p1)).trans p1, (HB3.out.cell (World.block_lt_of_cell? _ _ p2)).trans p2, (HB3.out.cell (World.block_lt_of_cell? _ _ q0)).trans q0, (HB3.out.cell (World.block_lt_of_cell? _ _ q1)).trans q1, (HB3.out.cell (World.block_lt_of_cell? _ _ Q2)).trans Q2⟩ | exact ⟨HB2.out, (HB2.out.cell (World.block_lt_of_cell? _ _ p0)).trans p0, (HB2.out.cell (World.block_lt_of_cell? _ _ p1)).trans p1, (HB2.out.cell (World.block_lt_of_cell? _ _ p2)).trans p2, (HB2.out.cell (World.block_lt_of_cell? _ _ q0)).trans q0, (HB2.out.cell (World.block_lt_of_cell? _ _ q1)).trans q1, (HB2.out.cell (World.block_lt_of_cell? _ _ Q2)).trans Q2⟩ | exact ⟨HB1.out, (HB1.out.cell (World.block_lt_of_cell? _ _ p0)).trans p0, (HB1.out.cell (World.block_lt_of_cell? _ _ p1)).trans p1, (HB1.out.cell (World.block_lt_of_cell? _ _ p2)).trans p2, (HB1.out.cell (World.block_lt_of_cell? _ _ q0)).trans q0, (HB1.out.cell (World.block_lt_of_cell? _ _ q1)).trans q1, (HB1.out.cell (World.block_lt_of_cell? _ _ Q2)).trans Q2⟩ | exact ⟨(Below.refl _ _).drew, p0, p1, p2, q0, q1, Q2⟩))
                      clear hK K hHeld
                      have hHeld := hHeld1
                      clear hHeld1
                      try simp only [Act.put, List.setIfInBounds_toArray, List.set_cons_zero, List.set_cons_succ]
                      refine take_yes (i := 22) (d := 66) (v := ?_) rfl rfl (by kernel_rfl) (by kernel_rfl) (by kernel_rfl) (fun _ _ _ h => h) (by kernel_rfl) ?_ hHeld ?_
                      rotate_left
                      · (intro w hSw; (try dsimp only at hSw); go_simp; try (with_reducible rfl))
                      try simp only [Act.put, List.setIfInBounds_toArray, List.set_cons_zero, List.set_cons_succ]
                      refine take_yes (i := 23) (d := 67) (v := ?_) rfl rfl (by kernel_rfl) (by kernel_rfl) (by kernel_rfl) (fun _ _ _ h => h) (by kernel_rfl) ?_ hHeld ?_
                      rotate_left
                      · (intro w hSw; (try dsimp only at hSw); go_simp; try (with_reducible rfl))
                      try simp only [Act.put, List.setIfInBounds_toArray, List.set_cons_zero, List.set_cons_succ]
                      refine take_yes (i := 24) (d := 68) (v := ?_) rfl rfl (by kernel_rfl) (by kernel_rfl) (by kernel_rfl) (fun _ _ _ h => h) (by kernel_rfl) ?_ hHeld ?_
                      rotate_left
                      · (intro w hSw; (try dsimp only at hSw); go_simp; try (with_reducible rfl))
                      try simp only [Act.put, List.setIfInBounds_toArray, List.set_cons_zero, List.set_cons_succ]
                      refine take_yes (i := 25) (d := 69) (v := ?_) rfl rfl (by kernel_rfl) (by kernel_rfl) (by kernel_rfl) (fun _ _ _ h => h) (by kernel_rfl) ?_ hHeld ?_
                      rotate_left
                      · (intro w hSw; (try dsimp only at hSw); go_simp; try (with_reducible rfl))
                      try simp only [Act.put, List.setIfInBounds_toArray, List.set_cons_zero, List.set_cons_succ]
                      refine wpAnyH_done (by kernel_rfl) ?_ _
                      refine NoPanic.normal ?_
                      go_wp2
                      go_roundw
                      case rel => exact ⟨k + 1, by omega, by go_num, HS.out, HW1.out.trans (HB3.out.mono HW1.out.size)⟩
                      case measure => simp [intOf]; omega
            · have HN := Lib.hid (pendB_no (rs := xs) hlt (show okQ xs qs k = false by rw [HK.out, hmm]; simp))
              clear hq HK
              go_wp2_with fail
              refine (isMember_any q.m _).mono ?_
              rintro e w2 ⟨rfl, rfl⟩
              rw [hmm]
              go_wp2
              go_ret
              exact ⟨ret_bool HN.out.symm, HW1.out⟩
          · have HN := Lib.hid (pendB_no (rs := xs) hlt (show okQ xs qs k = false by rw [HK.out, decide_eq_false hix]; simp))
            have hix2 : ixR xs q.r < 0 := by omega
            clear hix hq HK
            go_wp2
            go_ret
            exact ⟨ret_bool HN.out.symm, HW1.out⟩
        · obtain rfl : k = qs.length := by omega
          have HA := Lib.hid (HR.out.trans hq.out)
          go_wp2
          go_ret
          exact ⟨ret_bool HA.out.symm, HB.out⟩
    · have HR := Lib.hid (show pendB xs qs = false by unfold pendB; rw [decide_eq_false h6]; simp)
      go_enter Try.func16, Try.ntmps16
      go_wp2_with (go_at_call 76; refine (HV.out _ HA.out).mono ?_; rintro e w1 ⟨rfl, hb⟩; rw [hr]; have HB0 := Lib.hid hb; clear hb)
      go_ret
      exact ⟨ret_bool HR.out.symm, HB0.out⟩
  · have HR := Lib.hid (show pendB xs qs = false by unfold pendB; rw [hr]; simp)
    go_enter Try.func16, Try.ntmps16
    go_wp2_with (go_at_call 76; refine (HV.out _ HA.out).mono ?_; rintro e w1 ⟨rfl, hb⟩; rw [hr]; have HB0 := Lib.hid hb; clear hb)
    go_ret
    exact ⟨ret_bool HR.out.symm, HB0.out⟩
end Go.Proofs.Ytifahgdalgjgfaa
