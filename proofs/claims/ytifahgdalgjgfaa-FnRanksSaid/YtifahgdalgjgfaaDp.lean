/- The draw of pending questions, and the draws of chapter 7's laws. Conditions: the ranges named. -/
import Derived.Test.YtifahgdalgjgfaaDr7
import Derived.Test.YtifahgdalgjgfaaPi
import Derived.Test.YtifahgdalgjgfaaPj
import Derived.Test.YtifahgdalgjgfaaPk
namespace Go.Proofs.Ytifahgdalgjgfaa
open Go.RowKit
set_option linter.unusedVariables false
set_option linter.unusedSimpArgs false
attribute [local go_sem ↓] Go.wp_at_zero Go.wp_at_succ
theorem moveL_len (xs : List Rul) (qs : List Qst) (i m : Int) : (moveL xs qs i m).length ≤ qs.length + 1 := by
  unfold moveL; split <;> simp
theorem secL_len (xs : List Rul) (qs : List Qst) (m : Int) : (secL xs qs m).length ≤ qs.length + 1 := by
  unfold secL; split
  · unfold sndL; first | (simp; done) | (simp; omega)
  · simp
theorem fitQ {xs : List Qst} : ∀ y ∈ xs, QuestionK.fit y := fun _ _ => trivial
set_option maxRecDepth 100000 in
set_option maxHeartbeats 8000000 in
theorem pending_any (P : Option Addr) (p lo : Nat) (xs : List Rul) (b : Nat) (A : Option Addr) (n c m : Nat) (w : World) (h : Cur w b A n c m) (hm : m ≤ 500000) (hR : OwD RuleK 52 lo w P p xs) (hxl : xs.length ≤ 100) (hbl : b < lo) :
    Calls Try.prog 68 #[.pointer (some ⟨b, 0, none⟩), .slice P xs.length p] w fun e w' => ∃ (O : Option Addr) (oc : Nat) (qs : List Qst), e = .returned (.slice O qs.length oc) ∧ qs.length ≤ 20 ∧ OwD QuestionK 32 w.heap.size w' O oc qs ∧ Cur w' b A n c (m + 100) ∧ Only b (b + 1) w w' := by
  have hb0 := h.lt
  have S := Lib.hid ((Std.start h).alloc (.cells #[] 32))
  have RR := Lib.hid (hR.alloc (.cells #[] 32))
  have O1 := Lib.hid (show OwD QuestionK 32 w.heap.size (w.alloc (.cells #[] 32)) (some ⟨w.heap.size, 0, none⟩) 0 [] from Ow.mk (K := QuestionK) (own_nil_lit w w.heap.size w.heap.size 32 3 rfl (Nat.le_refl _)) (by simp) (by simp))
  clear h hR
  go_enter Try.func68, Try.ntmps68
  go_upto_region 2 with fail
  generalize (w.alloc (.cells #[] 32)) = v1 at *
  go_wp2_with fail
  refine (pick_any 6 (by omega) (by omega) b A n c _ _ S.out.cur (by omega)).mono ?_
  rintro e v2 ⟨⟨k, rfl, hk⟩, hc, ho⟩
  replace S := Lib.hid (S.out.draw hc ho)
  replace RR := Lib.hid (RR.out.draw ho (by omega))
  replace O1 := Lib.hid (O1.out.draw ho (by omega))
  clear hc ho 
  go_upto_block 0 with fail
  go_cut [5, 6] (fun l i wx => ∃ (m2 : Nat) (O : Option Addr) (oc : Nat) (qs : List Qst), l = .slice O qs.length oc ∧ m2 ≤ m + 60 ∧ qs.length ≤ 14 ∧ Hid (Std w wx b A n c m2) ∧ Hid (OwD RuleK 52 lo wx P p xs) ∧ Hid (OwD QuestionK 32 w.heap.size wx O oc qs))
  case first =>
    go_wp2_with fail
    go_loopw [5, 6] (fun l i wr => ∃ (j m2 : Nat) (O : Option Addr) (oc : Nat) (qs : List Qst), i = .int .i64 j ∧ l = .slice O qs.length oc ∧ j ≤ 5 ∧ m2 + 4 * j ≤ m + 40 ∧ qs.length + 2 * j ≤ 12 ∧ Hid (Std w wr b A n c m2) ∧ Hid (OwD RuleK 52 lo wr P p xs) ∧ Hid (OwD QuestionK 32 w.heap.size wr O oc qs)) (fun _ i _ => (intOf i).toNat)
    case atStart => exact ⟨k, _, _, 0, [], rfl, rfl, by omega, by omega, by simp; omega, S, RR, O1⟩
    case round =>
      clear S RR O1 hk
      obtain ⟨wq, hwq⟩ : ∃ x : World, x = wr := ⟨_, rfl⟩
      subst hwq
      obtain ⟨j, m2, O, oc, qs, rfl, rfl, hj, hm2, hl, S, RR, O1⟩ := hrel
      rcases Nat.eq_zero_or_pos j with h0 | h0
      · subst h0
        go_wp2_with fail
        go_meet
        exact ⟨_, O, oc, qs, rfl, by omega, by omega, S, RR, O1⟩
      · have i0 : (0 : Int) < (j : Int) := by omega
        have q2 : IntKind.i64.wrap ((j : Int) - 1) = ((j - 1 : Nat) : Int) := by rw [IntKind.wrap_i64]; omega
        go_wp2_with fail
        refine (good_any (PA.of RR.out.rd O1.out.rd)).mono ?_
        rintro e v3 ⟨rfl, hb⟩
        replace S := Lib.hid (S.out.call hb)
        replace RR := Lib.hid (RR.out.call hb)
        replace O1 := Lib.hid (O1.out.call hb)
        clear hb
        rcases Bool.eq_false_or_eq_true (pendB xs qs) with hp | hp
        · rw [hp]
          have HP := Lib.hid hp
          clear hp
          have hlo := S.out.sz
          go_wp2_with fail
          refine (l7May_any P p xs O oc qs v3 (PA.of RR.out.rd O1.out.rd) HP.out).mono ?_
          rintro e v4 ⟨M, mc, rfl, om, hb⟩
          replace S := Lib.hid (S.out.call hb)
          replace RR := Lib.hid (RR.out.call hb)
          replace O1 := Lib.hid (O1.out.call hb)
          have OM := Lib.hid (OwD.low (show OwD IntK 3 _ v4 M mc (mayL xs qs) from om) hlo)
          have hml := may_le (xs := xs) (qs := qs)
          obtain ⟨may, hmay⟩ : ∃ may, Hid (mayL xs qs = may) := ⟨_, Lib.hid rfl⟩
          rw [hmay.out] at OM hml ⊢
          clear hb om hlo hmay
          by_cases hz : may.length = 0
          · have kz : ((may.length : Int) == 0) = true := by simp [hz]
            have HZ := Lib.hid hz
            clear hz
            go_wp2_with fail
            go_meet
            exact ⟨_, O, oc, qs, rfl, by omega, by omega, S, RR, O1⟩
          · have kz : ((may.length : Int) == 0) = false := (beq_eq_false_iff_ne).2 (by omega)
            obtain ⟨a, ha, _⟩ := int_at OM.out.rd.cells (show 0 < may.length by omega)
            subst ha
            go_upto_region 7 with fail
            refine wp_region_noPanic ?_
            refine wp_region_held_drew (S := fun w9 => Cells w9 (some a) (IntK.row may)) (by kernel_rfl) OM.out.rd.cells (fun hHeld => ?_)
            replace S := Lib.hid (S.out.call (show Below v4.heap.size v4 v4.drew from (Below.refl _ _).drew))
            replace RR := Lib.hid (RR.out.call (show Below v4.heap.size v4 v4.drew from (Below.refl _ _).drew))
            replace O1 := Lib.hid (O1.out.call (show Below v4.heap.size v4 v4.drew from (Below.refl _ _).drew))
            replace OM := Lib.hid (OM.out.call (show Below v4.heap.size v4 v4.drew from (Below.refl _ _).drew))
            generalize v4.drew = v5 at *
            refine take_yes (i := 0) (d := 29) (v := ?_) rfl rfl (by kernel_rfl) (by kernel_rfl) (by kernel_rfl) (fun _ _ _ h => h) (by kernel_rfl) ?_ hHeld ?_
            rotate_left
            · (intro w hSw; (try dsimp only at hSw); go_simp; try (with_reducible rfl))
            try simp only [Act.put, List.setIfInBounds_toArray, List.set_cons_zero, List.set_cons_succ]
            refine take_yes (i := 1) (d := 30) (v := ?_) rfl rfl (by kernel_rfl) (by kernel_rfl) (by kernel_rfl) (fun _ _ _ h => h) (by kernel_rfl) ?_ hHeld ?_
            rotate_left
            · (intro w hSw; (try dsimp only at hSw); go_simp; try (with_reducible rfl))
            try simp only [Act.put, List.setIfInBounds_toArray, List.set_cons_zero, List.set_cons_succ]
            refine take_yes (i := 2) (d := 31) (v := ?_) rfl rfl (by kernel_rfl) (by kernel_rfl) (by kernel_rfl) (fun _ _ _ h => h) (by kernel_rfl) ?_ hHeld ?_
            rotate_left
            · (intro w hSw; (try dsimp only at hSw); go_simp; try (with_reducible rfl))
            try simp only [Act.put, List.setIfInBounds_toArray, List.set_cons_zero, List.set_cons_succ]
            refine take_yes (i := 3) (d := 32) (v := ?_) rfl rfl (by kernel_rfl) (by kernel_rfl) (by kernel_rfl) (fun _ _ _ h => h) (by kernel_rfl) ?_ hHeld ?_
            rotate_left
            · (intro w hSw; (try dsimp only at hSw); go_simp; try (with_reducible rfl))
            try simp only [Act.put, List.setIfInBounds_toArray, List.set_cons_zero, List.set_cons_succ]
            refine take_yes (i := 4) (d := 33) (v := ?_) rfl rfl (by kernel_rfl) (by kernel_rfl) (by kernel_rfl) (fun _ _ _ h => h) (by kernel_rfl) ?_ hHeld ?_
            rotate_left
            · (intro w hSw; (try dsimp only at hSw); go_simp; try (with_reducible rfl))
            try simp only [Act.put, List.setIfInBounds_toArray, List.set_cons_zero, List.set_cons_succ]
            refine take_yes (i := 5) (d := 34) (v := ?_) rfl rfl (by kernel_rfl) (by kernel_rfl) (by kernel_rfl) (fun _ _ _ h => h) (by kernel_rfl) ?_ hHeld ?_
            rotate_left
            · (intro w hSw; (try dsimp only at hSw); go_simp; try (with_reducible rfl))
            try simp only [Act.put, List.setIfInBounds_toArray, List.set_cons_zero, List.set_cons_succ]
            refine take_yes (i := 9) (d := 38) (v := ?_) rfl rfl (by kernel_rfl) (by kernel_rfl) (by kernel_rfl) (fun _ _ _ h => h) (by kernel_rfl) ?_ hHeld ?_
            rotate_left
            · (intro w hSw; (try dsimp only at hSw); go_simp; try (with_reducible rfl))
            try simp only [Act.put, List.setIfInBounds_toArray, List.set_cons_zero, List.set_cons_succ]
            refine wpAnyH_ready (rs := [6]) (by kernel_rfl) (by simp) ?_
            refine AllReadyH.cons rfl (fun K hK => ?_) (AllReadyH.nil)
            go_simp
            (go_at_call 84; refine (pickZ_any (may.length : Int) (by omega) b A n c _ _ S.out.cur (by omega)).mono ?_; rintro e v6 ⟨⟨y, rfl, hy⟩, hc, ho⟩; have HC := Lib.hid hc; have HO := Lib.hid ho; clear hc ho)
            replace OM := Lib.hid (OM.out.draw HO.out (by omega))
            (first | refine hK.out _ _ ?_ (fun hHeld1 => ?_) | (go_wp2_with fail; refine hK.out _ _ ?_ (fun hHeld1 => ?_)))
            · ((try dsimp only); exact OM.out.rd.cells)
            clear hK K hHeld
            have hHeld := hHeld1
            clear hHeld1
            try simp only [Act.put, List.setIfInBounds_toArray, List.set_cons_zero, List.set_cons_succ]
            replace S := Lib.hid (S.out.draw HC.out HO.out)
            replace RR := Lib.hid (RR.out.draw HO.out (by omega))
            replace O1 := Lib.hid (O1.out.draw HO.out (by omega))
            clear HC HO
            have hyl : y < may.length := by omega
            have i1 : (y : Int) < (may.length : Int) := by omega
            obtain ⟨x, hx⟩ : ∃ x, may[y] = x := ⟨_, rfl⟩
            have HXX := Lib.hid hx
            clear hx
            refine take_yes (i := 7) (d := 36) (v := ?_) rfl rfl (by kernel_rfl) (by kernel_rfl) (by kernel_rfl) (fun _ _ _ h => h) (by kernel_rfl) ?_ hHeld ?_
            rotate_left
            · (intro w hSw; (try dsimp only at hSw); go_simp; try (with_reducible rfl))
            try simp only [Act.put, List.setIfInBounds_toArray, List.set_cons_zero, List.set_cons_succ]
            refine take_yes (i := 8) (d := 37) (v := ?_) rfl rfl (by kernel_rfl) (by kernel_rfl) (by kernel_rfl) (fun _ _ _ h => h) (by kernel_rfl) ?_ hHeld ?_
            rotate_left
            · (intro w9 hSw; obtain ⟨a9, ha9, hc9⟩ := int_at hSw hyl; obtain rfl := Option.some.inj ha9; rw [HXX.out] at hc9; go_simp; try (with_reducible rfl))
            try simp only [Act.put, List.setIfInBounds_toArray, List.set_cons_zero, List.set_cons_succ]
            refine wpAnyH_ready (rs := [10]) (by kernel_rfl) (by simp) ?_
            refine AllReadyH.cons rfl (fun K hK => ?_) (AllReadyH.nil)
            go_simp
            (go_at_call 84; refine (pick_any 5 (by omega) (by omega) b A n c _ _ S.out.cur (by omega)).mono ?_; rintro e v7 ⟨⟨z, rfl, hz2⟩, hc, ho⟩; have HC := Lib.hid hc; have HO := Lib.hid ho; clear hc ho)
            replace OM := Lib.hid (OM.out.draw HO.out (by omega))
            (first | refine hK.out _ _ ?_ (fun hHeld1 => ?_) | (go_wp2_with fail; refine hK.out _ _ ?_ (fun hHeld1 => ?_)))
            · ((try dsimp only); exact OM.out.rd.cells)
            clear hK K hHeld
            have hHeld := hHeld1
            clear hHeld1
            try simp only [Act.put, List.setIfInBounds_toArray, List.set_cons_zero, List.set_cons_succ]
            replace S := Lib.hid (S.out.draw HC.out HO.out)
            replace RR := Lib.hid (RR.out.draw HO.out (by omega))
            replace O1 := Lib.hid (O1.out.draw HO.out (by omega))
            clear HC HO
            have qz : IntKind.i64.wrap (1 + (z : Int)) = 1 + (z : Int) := by rw [IntKind.wrap_i64]; omega
            refine take_yes (i := 11) (d := 40) (v := ?_) rfl rfl (by kernel_rfl) (by kernel_rfl) (by kernel_rfl) (fun _ _ _ h => h) (by kernel_rfl) ?_ hHeld ?_
            rotate_left
            · (intro w hSw; (try dsimp only at hSw); go_simp; try (with_reducible rfl))
            try simp only [Act.put, List.setIfInBounds_toArray, List.set_cons_zero, List.set_cons_succ]
            refine wpAnyH_ready (rs := [12]) (by kernel_rfl) (by simp) ?_
            refine AllReadyH.cons rfl (fun K hK => ?_) (AllReadyH.nil)
            have hlo := S.out.sz
            go_simp
            (go_at_call 25; refine (sMoveQuestion_any P p xs O oc qs x (1 + (z : Int)) _ (PA.of RR.out.rd O1.out.rd)).mono ?_; rintro e v8 ⟨Q, q, rfl, oq, hb⟩; have HB := Lib.hid hb; clear hb)
            replace OM := Lib.hid (OM.out.call HB.out)
            (first | refine hK.out _ _ ?_ (fun hHeld1 => ?_) | (go_wp2_with fail; refine hK.out _ _ ?_ (fun hHeld1 => ?_)))
            · ((try dsimp only); exact OM.out.rd.cells)
            clear hK K hHeld
            have hHeld := hHeld1
            clear hHeld1
            try simp only [Act.put, List.setIfInBounds_toArray, List.set_cons_zero, List.set_cons_succ]
            replace S := Lib.hid (S.out.call HB.out)
            replace RR := Lib.hid (RR.out.call HB.out)
            replace O1 := Lib.hid (O1.out.call HB.out)
            clear HB
            have N1 := Lib.hid (OwD.low (show OwD QuestionK 32 _ v8 Q q (moveL xs qs x (1 + (z : Int))) from oq) hlo)
            clear oq hlo
            refine take_yes (i := 13) (d := 28) (v := ?_) rfl rfl (by kernel_rfl) (by kernel_rfl) (by kernel_rfl) (fun _ _ _ h => h) (by kernel_rfl) ?_ hHeld ?_
            rotate_left
            · (intro w hSw; (try dsimp only at hSw); go_simp; try (with_reducible rfl))
            try simp only [Act.put, List.setIfInBounds_toArray, List.set_cons_zero, List.set_cons_succ]
            refine take_yes (i := 14) (d := 42) (v := ?_) rfl rfl (by kernel_rfl) (by kernel_rfl) (by kernel_rfl) (fun _ _ _ h => h) (by kernel_rfl) ?_ hHeld ?_
            rotate_left
            · (intro w hSw; (try dsimp only at hSw); go_simp; try (with_reducible rfl))
            try simp only [Act.put, List.setIfInBounds_toArray, List.set_cons_zero, List.set_cons_succ]
            refine take_yes (i := 15) (d := 43) (v := ?_) rfl rfl (by kernel_rfl) (by kernel_rfl) (by kernel_rfl) (fun _ _ _ h => h) (by kernel_rfl) ?_ hHeld ?_
            rotate_left
            · (intro w hSw; (try dsimp only at hSw); go_simp; try (with_reducible rfl))
            try simp only [Act.put, List.setIfInBounds_toArray, List.set_cons_zero, List.set_cons_succ]
            refine take_yes (i := 16) (d := 5) (v := ?_) rfl rfl (by kernel_rfl) (by kernel_rfl) (by kernel_rfl) (fun _ _ _ h => h) (by kernel_rfl) ?_ hHeld ?_
            rotate_left
            · (intro w hSw; (try dsimp only at hSw); go_simp; try (with_reducible rfl))
            try simp only [Act.put, List.setIfInBounds_toArray, List.set_cons_zero, List.set_cons_succ]
            refine wpAnyH_done (by kernel_rfl) ?_ _
            refine NoPanic.normal ?_
            clear hHeld O1 OM HXX
            have hgl := moveL_len xs qs x (1 + (z : Int))
            obtain ⟨gs, hgs⟩ : ∃ gs, moveL xs qs x (1 + (z : Int)) = gs := ⟨_, rfl⟩
            rw [hgs] at hgl N1 ⊢
            clear hgs
            have hlo := S.out.sz
            go_wp2_with fail
            refine (sSecondQuestion_any P p xs Q q gs 6 _ (PA.of RR.out.rd N1.out.rd)).mono ?_
            rintro e v9 ⟨U, u_, rfl, ou, hb⟩
            replace S := Lib.hid (S.out.call hb)
            replace RR := Lib.hid (RR.out.call hb)
            replace N1 := Lib.hid (N1.out.call hb)
            have N2 := Lib.hid (OwD.low (show OwD QuestionK 32 _ v9 U u_ (secL xs gs 6) from ou) hlo)
            have hgl2 := secL_len xs gs 6
            obtain ⟨hs, hhs⟩ : ∃ hs, secL xs gs 6 = hs := ⟨_, rfl⟩
            rw [hhs] at hgl2 N2 ⊢
            clear hhs hb ou hlo
            rcases Bool.eq_false_or_eq_true (secB xs gs 6) with hk | hk
            · rw [hk]
              go_wp2_with fail
              refine (one_any 4 (by omega) (by omega) b A n c _ _ S.out.cur (by omega)).mono ?_
              rintro e v10 ⟨⟨z4, rfl⟩, hc, ho⟩
              replace S := Lib.hid (S.out.draw hc ho)
              replace RR := Lib.hid (RR.out.draw ho (by omega))
              replace N1 := Lib.hid (N1.out.draw ho (by omega))
              replace N2 := Lib.hid (N2.out.draw ho (by omega))
              clear hc ho 
              rcases Bool.eq_false_or_eq_true z4 with hz4 | hz4
              · subst hz4
                go_wp2
                go_roundw
                case rel =>
                  first
                    | exact ⟨j - 1, _, Q, q, gs, by go_num, rfl, by omega, by omega, by omega, S, RR, N1⟩
                    | (refine ⟨_, _, _, _, _, _, _, _, _, _, _, _, _, _, _, _, _, _, _, _, _, _, _, _, _, _, _, _, _, _, _, _, _, _, _, _, _, _, _, _, _, _, _, _, _, _, _, _, _, ?_, rfl⟩; exact ⟨j - 1, _, Q, q, gs, by go_num, rfl, by omega, by omega, by omega, S, RR, N1⟩)
                case measure => (first | (simp [intOf]; done) | (simp [intOf]; omega))
              · subst hz4
                go_wp2
                go_roundw
                case rel =>
                  first
                    | exact ⟨j - 1, _, U, u_, hs, by go_num, rfl, by omega, by omega, by omega, S, RR, N2⟩
                    | (refine ⟨_, _, _, _, _, _, _, _, _, _, _, _, _, _, _, _, _, _, _, _, _, _, _, _, _, _, _, _, _, _, _, _, _, _, _, _, _, _, _, _, _, _, _, _, _, _, _, _, _, ?_, rfl⟩; exact ⟨j - 1, _, U, u_, hs, by go_num, rfl, by omega, by omega, by omega, S, RR, N2⟩)
                case measure => (first | (simp [intOf]; done) | (simp [intOf]; omega))
            · rw [hk]
              go_wp2
              go_roundw
              case rel =>
                first
                  | exact ⟨j - 1, _, Q, q, gs, by go_num, rfl, by omega, by omega, by omega, S, RR, N1⟩
                  | (refine ⟨_, _, _, _, _, _, _, _, _, _, _, _, _, _, _, _, _, _, _, _, _, _, _, _, _, _, _, _, _, _, _, _, _, _, _, _, _, _, _, _, _, _, _, _, _, _, _, _, _, ?_, rfl⟩; exact ⟨j - 1, _, Q, q, gs, by go_num, rfl, by omega, by omega, by omega, S, RR, N1⟩)
              case measure => (first | (simp [intOf]; done) | (simp [intOf]; omega))
        · rw [hp]
          clear hp
          go_wp2_with fail
          go_meet
          exact ⟨_, O, oc, qs, rfl, by omega, by omega, S, RR, O1⟩
  case rest =>
    clear S RR O1 hk
    obtain ⟨W, rfl⟩ : ∃ W, W = wc := ⟨_, rfl⟩
    obtain ⟨m2, O, oc, qs, rfl, hm2, hl, S, RR, O1⟩ := hcut
    go_wp2_with fail
    refine (pick_any 24 (by omega) (by omega) b A n c _ _ S.out.cur (by omega)).mono ?_
    rintro e v11 ⟨⟨y, rfl, hy⟩, hc, ho⟩
    replace S := Lib.hid (S.out.draw hc ho)
    replace RR := Lib.hid (RR.out.draw ho (by omega))
    replace O1 := Lib.hid (O1.out.draw ho (by omega))
    clear hc ho 
    rcases (show y = 0 ∨ y = 1 ∨ 2 ≤ y by omega) with rfl | rfl | hy2
    · skip
      go_wp2_with fail
      refine (ruleOf_any_ P p lo xs b A n c _ _ S.out.cur (by omega) RR.out hxl hbl).mono ?_
      rintro e v12 ⟨⟨x1, rfl⟩, hc, ho⟩
      replace S := Lib.hid (S.out.draw hc ho)
      replace RR := Lib.hid (RR.out.draw ho (by omega))
      replace O1 := Lib.hid (O1.out.draw ho (by omega))
      clear hc ho 
      go_wp2_with fail
      refine (member_any b A n c _ _ S.out.cur (by omega)).mono ?_
      rintro e v13 ⟨⟨x2, rfl, hx2⟩, hc, ho⟩
      replace S := Lib.hid (S.out.draw hc ho)
      replace RR := Lib.hid (RR.out.draw ho (by omega))
      replace O1 := Lib.hid (O1.out.draw ho (by omega))
      clear hc ho 
      go_wp2_with fail
      refine (one_any 2 (by omega) (by omega) b A n c _ _ S.out.cur (by omega)).mono ?_
      rintro e v14 ⟨⟨z3, rfl⟩, hc, ho⟩
      replace S := Lib.hid (S.out.draw hc ho)
      replace RR := Lib.hid (RR.out.draw ho (by omega))
      replace O1 := Lib.hid (O1.out.draw ho (by omega))
      clear hc ho 
      have HL := Lib.hid (show Cells _ _ (QuestionK.row [⟨x1, x2, z3⟩]) from cells_arr v14 #[.int .i64 x1, .int .i64 x2, .bool z3] 32 v14.heap.size rfl)
      have hbl := below1 v14 (.cells #[.int .i64 x1, .int .i64 x2, .bool z3] 32)
      replace S := Lib.hid (S.out.call hbl)
      replace RR := Lib.hid (RR.out.call hbl)
      replace O1 := Lib.hid (O1.out.call hbl)
      clear hbl
      have hlz := S.out.sz
      go_wp2_with (first | (at_builtin; go_must (refine list_append_gr elQst _ rfl _ _ rfl w.heap.size O _ oc qs.length 1 1 (QuestionK.row qs) (QuestionK.row [⟨x1, x2, z3⟩]) rfl rfl rfl O1.out.1 HL.out qst_one hlz (by omega) ?_); intro Q3 q3 v15 own hb hg; have HG := Lib.hid hg; have HW := Lib.hid own; clear own hb hg; replace S := Lib.hid (S.out.grow O1.out.1 (by omega) HG.out); have N3 := Lib.hid (show OwD QuestionK 32 w.heap.size v15 Q3 q3 (qs ++ [⟨x1, x2, z3⟩]) from Ow.mk (K := QuestionK) (by rw [List.length_append, List.length_singleton, Kd.row_append]; exact HW.out) (by simp; omega) fitQ)) | (go_ret; exact ⟨Q3, q3, qs ++ [⟨x1, x2, z3⟩], (by simp; first | done | rfl), (by simp; omega), N3.out, S.out.cur.mono (by omega), S.out.on⟩))
    · skip
      have HL := Lib.hid (show Cells _ _ (QuestionK.row [⟨20, 1, false⟩]) from cells_arr v11 #[.int .i64 20, .int .i64 1, .bool false] 32 v11.heap.size rfl)
      have hbl := below1 v11 (.cells #[.int .i64 20, .int .i64 1, .bool false] 32)
      replace S := Lib.hid (S.out.call hbl)
      replace RR := Lib.hid (RR.out.call hbl)
      replace O1 := Lib.hid (O1.out.call hbl)
      clear hbl
      have hlz := S.out.sz
      go_wp2_with (first | (at_builtin; go_must (refine list_append_gr elQst _ rfl _ _ rfl w.heap.size O _ oc qs.length 1 1 (QuestionK.row qs) (QuestionK.row [⟨20, 1, false⟩]) rfl rfl rfl O1.out.1 HL.out qst_one hlz (by omega) ?_); intro Q3 q3 v16 own hb hg; have HG := Lib.hid hg; have HW := Lib.hid own; clear own hb hg; replace S := Lib.hid (S.out.grow O1.out.1 (by omega) HG.out); have N3 := Lib.hid (show OwD QuestionK 32 w.heap.size v16 Q3 q3 (qs ++ [⟨20, 1, false⟩]) from Ow.mk (K := QuestionK) (by rw [List.length_append, List.length_singleton, Kd.row_append]; exact HW.out) (by simp; omega) fitQ)) | (go_ret; exact ⟨Q3, q3, qs ++ [⟨20, 1, false⟩], (by simp; first | done | rfl), (by simp; omega), N3.out, S.out.cur.mono (by omega), S.out.on⟩))
    · skip
      have e0 : ((y : Int) == 0) = false := by simp; omega
      have e1 : ((y : Int) == 1) = false := by simp; omega
      go_wp2_with (go_ret; exact ⟨O, oc, qs, rfl, by omega, O1.out, S.out.cur.mono (by omega), S.out.on⟩)
end Go.Proofs.Ytifahgdalgjgfaa
