/- The draws of a list of rules and of a rule's id. Conditions: the ranges named. -/
import Derived.Test.YtifahgdalgjgfaaDr2
import Derived.Test.YtifahgdalgjgfaaAr1
namespace Go.Proofs.Ytifahgdalgjgfaa
open Go.RowKit
set_option linter.unusedVariables false
set_option linter.unusedSimpArgs false
attribute [local go_sem ↓] Go.wp_at_zero Go.wp_at_succ
theorem adL_len (xs : List Rul) (x : Rul) : (adL xs x).length ≤ xs.length + 1 := by
  unfold adL; split
  · exact Nat.le_of_eq (insR_len x xs)
  · simp
def wdab : List ByteArray := [⟨#[97]⟩, ⟨#[98]⟩]
theorem wdab_short : ∀ s ∈ wdab, s.size ≤ 11 := by
  intro s hs
  simp only [wdab, List.mem_cons, List.not_mem_nil, or_false] at hs
  rcases hs with rfl | rfl <;> decide
theorem fit11 {x : Rul} (h : x.nm.size ≤ 11) : RuleK.fit x := Nat.le_trans h (by unfold maxLen; omega)
theorem fitR {xs : List Rul} {x : Rul} (h : ∀ y ∈ xs, RuleK.fit y) (hx : RuleK.fit x) : ∀ y ∈ xs ++ [x], RuleK.fit y := fun y hy => by
  rcases List.mem_append.1 hy with h1 | h1
  · exact h y h1
  · simp at h1; subst h1; exact hx
theorem member_any (b : Nat) (A : Option Addr) (n c m : Nat) (w : World) (h : Cur w b A n c m) (hm : m ≤ 1000000) :
    Calls Try.prog 69 #[.pointer (some ⟨b, 0, none⟩)] w fun e w' => (∃ x : Int, e = .returned (.int .i64 x) ∧ 0 ≤ x ∧ x ≤ 100) ∧ Cur w' b A n c (m + 1) ∧ Only b (b + 1) w w' := by
  have hb0 := h.lt
  have S := Lib.hid (Std.start h)
  clear h
  go_enter Try.func69, Try.ntmps69
  have HL := Lib.hid (lit_cellsI w [1, 2, 3, 4, 5, 99, 1, 2, 3, 0, 100] 3 w.heap.size rfl)
  have HLb : w.heap.size ≠ b := by have := S.out.bw; omega
  have hbl := below1 w (.cells ((([1, 2, 3, 4, 5, 99, 1, 2, 3, 0, 100] : List Int).map (Value.int .i64)).toArray) 3)
  replace S := Lib.hid (S.out.call hbl)
  clear hbl
  go_wp2_with fail
  refine (among_any [1, 2, 3, 4, 5, 99, 1, 2, 3, 0, 100] (some ⟨w.heap.size, 0, none⟩) 11 (by simp) (by simp) b A n c _ _ S.out.cur (by omega) HL.out (fun a ha => by obtain rfl := Option.some.inj ha; exact HLb)).mono ?_
  rintro e v1 ⟨⟨x, rfl, hx⟩, hc, ho⟩
  replace S := Lib.hid (S.out.draw hc ho)
  clear hc ho HL HLb 
  have hx2 : 0 ≤ x ∧ x ≤ 100 := by simp at hx; omega
  clear hx
  go_wp2_with (go_ret; exact ⟨⟨x, rfl, hx2⟩, S.out.cur, S.out.on⟩)
set_option maxRecDepth 100000 in
set_option maxHeartbeats 8000000 in
theorem rules_any (b : Nat) (A : Option Addr) (n c m : Nat) (w : World) (h : Cur w b A n c m) (hm : m ≤ 700000) :
    Calls Try.prog 93 #[.pointer (some ⟨b, 0, none⟩)] w fun e w' => ∃ (O : Option Addr) (oc : Nat) (xs : List Rul), e = .returned (.slice O xs.length oc) ∧ xs.length ≤ 20 ∧ OwD RuleK 52 w.heap.size w' O oc xs ∧ Cur w' b A n c (m + 200) ∧ Only b (b + 1) w w' := by
  have hb0 := h.lt
  have S := Lib.hid ((Std.start h).alloc (.cells #[] 52))
  have O1 := Lib.hid (show OwD RuleK 52 w.heap.size (w.alloc (.cells #[] 52)) (some ⟨w.heap.size, 0, none⟩) 0 [] from Ow.mk (K := RuleK) (own_nil_lit w w.heap.size w.heap.size 52 7 rfl (Nat.le_refl _)) (by simp) (by simp))
  clear h
  go_enter Try.func93, Try.ntmps93
  go_upto_region 2 with fail
  generalize (w.alloc (.cells #[] 52)) = v1 at *
  go_wp2_with fail
  refine (pick_any 7 (by omega) (by omega) b A n c _ _ S.out.cur (by omega)).mono ?_
  rintro e v2 ⟨⟨k, rfl, hk⟩, hc, ho⟩
  replace S := Lib.hid (S.out.draw hc ho)
  replace O1 := Lib.hid (O1.out.draw ho (by omega))
  clear hc ho 
  go_wp2
  go_loopw [3, 4] (fun l i wr => ∃ (j m2 : Nat) (O : Option Addr) (oc : Nat) (xs : List Rul), i = .int .i64 j ∧ l = .slice O xs.length oc ∧ j ≤ 6 ∧ m2 + 14 * j ≤ m + 100 ∧ xs.length + j ≤ 6 ∧ Hid (Std w wr b A n c m2) ∧ Hid (OwD RuleK 52 w.heap.size wr O oc xs)) (fun _ i _ => (intOf i).toNat)
  case atStart => exact ⟨k, _, _, 0, [], rfl, rfl, by omega, by omega, by simp; omega, S, O1⟩
  case round =>
    clear S O1 hk
    obtain ⟨wq, hwq⟩ : ∃ x : World, x = wr := ⟨_, rfl⟩
    subst hwq
    obtain ⟨j, m2, O, oc, xs, rfl, rfl, hj, hm2, hl, S, O1⟩ := hrel
    rcases Nat.eq_zero_or_pos j with h0 | h0
    · subst h0
      go_wp2_with fail
      refine (pick_any 24 (by omega) (by omega) b A n c _ _ S.out.cur (by omega)).mono ?_
      rintro e v3 ⟨⟨y, rfl, hy⟩, hc, ho⟩
      replace S := Lib.hid (S.out.draw hc ho)
      replace O1 := Lib.hid (O1.out.draw ho (by omega))
      clear hc ho 
      go_upto_block 2 with fail
      go_cut [3] (fun l wx => ∃ (m2 : Nat) (O : Option Addr) (oc : Nat) (xs : List Rul), l = .slice O xs.length oc ∧ m2 ≤ m + 150 ∧ xs.length ≤ 20 ∧ Hid (Std w wx b A n c m2) ∧ Hid (OwD RuleK 52 w.heap.size wx O oc xs))
      case first =>
        rcases (show y = 0 ∨ y = 1 ∨ 2 ≤ y by omega) with rfl | rfl | hy2
        · skip
          go_wp2_with fail
          refine (rule_any b A n c _ _ S.out.cur (by omega)).mono ?_
          rintro e v4 ⟨x, rfl, hx, hc, ho⟩
          replace S := Lib.hid (S.out.draw hc ho)
          replace O1 := Lib.hid (O1.out.draw ho (by omega))
          have HX := Lib.hid (fit11 hx)
          clear hc ho hx
          have HL := Lib.hid (show Cells _ _ (RuleK.row [x]) from cells_arr v4 #[.int .i64 x.id, .string x.nm, .int .i64 x.rk, .bool x.sc, .bool x.db, .bool x.am, .int .i64 x.nd] 52 v4.heap.size rfl)
          have hbl := below1 v4 (.cells #[.int .i64 x.id, .string x.nm, .int .i64 x.rk, .bool x.sc, .bool x.db, .bool x.am, .int .i64 x.nd] 52)
          replace S := Lib.hid (S.out.call hbl)
          replace O1 := Lib.hid (O1.out.call hbl)
          clear hbl
          have hlz := S.out.sz
          go_wp2_with (at_builtin; go_must (refine list_append_gr elRul _ rfl _ _ rfl w.heap.size O _ oc xs.length 1 1 (RuleK.row xs) (RuleK.row [x]) rfl rfl rfl O1.out.1 HL.out rul_one hlz (by omega) ?_); intro Q3 q3 v5 own hb hg; have HG := Lib.hid hg; have HW := Lib.hid own; clear own hb hg)
          replace S := Lib.hid (S.out.grow O1.out.1 (by omega) HG.out)
          have N3 := Lib.hid (show OwD RuleK 52 w.heap.size v5 Q3 q3 (xs ++ [x]) from Ow.mk (K := RuleK) (by rw [List.length_append, List.length_singleton, Kd.row_append]; exact HW.out) (by simp; omega) (fitR O1.out.2.2.2 HX.out))
          clear HG HW O1 HL hlz
          go_meet
          exact ⟨_, Q3, q3, xs ++ [x], by simp, by omega, by simp; omega, S, N3⟩
        · skip
          go_wp2_with fail
          go_loopw [3, 7] (fun l i wr => ∃ (k m3 : Nat) (O : Option Addr) (oc : Nat) (xs : List Rul), i = .int .i64 k ∧ l = .slice O xs.length oc ∧ k ≤ 10 ∧ m3 ≤ m + 110 + 2 * k ∧ xs.length ≤ 8 + k ∧ Hid (Std w wr b A n c m3) ∧ Hid (OwD RuleK 52 w.heap.size wr O oc xs)) (fun _ i _ => 10 - (intOf i).toNat)
          case atStart => exact ⟨0, _, O, oc, xs, rfl, rfl, by omega, by omega, by omega, S, O1⟩
          case round =>
            clear S O1 hm2 hl
            obtain ⟨wq, hwq⟩ : ∃ x : World, x = wr := ⟨_, rfl⟩
            subst hwq
            obtain ⟨k, m3, O, oc, xs, rfl, rfl, hk, hm3, hl, S, O1⟩ := hrel
            go_wp2_with fail
            refine (pick_any 2 (by omega) (by omega) b A n c _ _ S.out.cur (by omega)).mono ?_
            rintro e v6 ⟨⟨t, rfl, ht⟩, hc, ho⟩
            replace S := Lib.hid (S.out.draw hc ho)
            replace O1 := Lib.hid (O1.out.draw ho (by omega))
            clear hc ho 
            have qt : IntKind.i64.wrap (8 + (t : Int)) = 8 + (t : Int) := by rw [IntKind.wrap_i64]; omega
            by_cases hlt : (xs.length : Int) < 8 + (t : Int)
            · have hd : decide ((xs.length : Int) < 8 + (t : Int)) = true := decide_eq_true hlt
              by_cases hk4 : k < 10
              · have hk5 : (k : Int) < 10 := by omega
                go_upto_region 15 with fail
                obtain ⟨r, hr⟩ : ∃ r, Hid (k % 8 = r) := ⟨_, Lib.hid rfl⟩
                have e2 : (k : Int) % 8 = (r : Int) := by have := hr.out; omega
                have e3 : (k : Int).tmod 8 = (r : Int) := by rw [Int.tmod_eq_emod_of_nonneg (by omega)]; exact e2
                have hr8 : (r : Int) ≤ 8 := by have := hr.out; omega
                have hr9 : r ≤ 8 := by have := hr.out; omega
                have hr0 : (0 : Int) ≤ (r : Int) := by omega
                have qk : IntKind.i64.wrap (11 + (k : Int)) = 11 + (k : Int) := by rw [IntKind.wrap_i64]; omega
                have qk2 : IntKind.i64.wrap ((k : Int) + 1) = ((k + 1 : Nat) : Int) := by rw [IntKind.wrap_i64]; omega
                refine wp_region_noPanic ?_
                refine wp_region_held_drew (S := fun w9 => Below 0 w9 w9) (by kernel_rfl) (Below.refl 0 _) (fun hHeld => ?_)
                replace S := Lib.hid (S.out.call (show Below v6.heap.size v6 v6.drew from (Below.refl _ _).drew))
                replace O1 := Lib.hid (O1.out.call (show Below v6.heap.size v6 v6.drew from (Below.refl _ _).drew))
                generalize v6.drew = v7 at *
                refine take_yes (i := 0) (d := 47) (v := ?_) rfl rfl (by kernel_rfl) (by kernel_rfl) (by kernel_rfl) (fun _ _ _ h => h) (by kernel_rfl) ?_ hHeld ?_
                rotate_left
                · (intro w hSw; (try dsimp only at hSw); go_simp; try (with_reducible rfl))
                try simp only [Act.put, List.setIfInBounds_toArray, List.set_cons_zero, List.set_cons_succ]
                refine take_yes (i := 1) (d := 48) (v := ?_) rfl rfl (by kernel_rfl) (by kernel_rfl) (by kernel_rfl) (fun _ _ _ h => h) (by kernel_rfl) ?_ hHeld ?_
                rotate_left
                · (intro w hSw; (try dsimp only at hSw); go_simp; try (with_reducible rfl))
                try simp only [Act.put, List.setIfInBounds_toArray, List.set_cons_zero, List.set_cons_succ]
                refine take_yes (i := 2) (d := 49) (v := ?_) rfl rfl (by kernel_rfl) (by kernel_rfl) (by kernel_rfl) (fun _ _ _ h => h) (by kernel_rfl) ?_ hHeld ?_
                rotate_left
                · (intro w hSw; (try dsimp only at hSw); go_simp; try (with_reducible rfl))
                try simp only [Act.put, List.setIfInBounds_toArray, List.set_cons_zero, List.set_cons_succ]
                refine take_yes (i := 3) (d := 50) (v := ?_) rfl rfl (by kernel_rfl) (by kernel_rfl) (by kernel_rfl) (fun _ _ _ h => h) (by kernel_rfl) ?_ hHeld ?_
                rotate_left
                · (intro w hSw; (try dsimp only at hSw); go_simp; try (with_reducible rfl))
                try simp only [Act.put, List.setIfInBounds_toArray, List.set_cons_zero, List.set_cons_succ]
                refine take_yes (i := 7) (d := 54) (v := ?_) rfl rfl (by kernel_rfl) (by kernel_rfl) (by kernel_rfl) (fun _ _ _ h => h) (by kernel_rfl) ?_ hHeld ?_
                rotate_left
                · (intro w hSw; (try dsimp only at hSw); go_simp; try (with_reducible rfl))
                try simp only [Act.put, List.setIfInBounds_toArray, List.set_cons_zero, List.set_cons_succ]
                refine take_yes (i := 8) (d := 55) (v := ?_) rfl rfl (by kernel_rfl) (by kernel_rfl) (by kernel_rfl) (fun _ _ _ h => h) (by kernel_rfl) ?_ hHeld ?_
                rotate_left
                · (intro w hSw; (try dsimp only at hSw); go_simp; try (with_reducible rfl))
                try simp only [Act.put, List.setIfInBounds_toArray, List.set_cons_zero, List.set_cons_succ]
                refine take_yes (i := 9) (d := 56) (v := ?_) rfl rfl (by kernel_rfl) (by kernel_rfl) (by kernel_rfl) (fun _ _ _ h => h) (by kernel_rfl) ?_ hHeld ?_
                rotate_left
                · (intro w hSw; (try dsimp only at hSw); go_simp; try (with_reducible rfl))
                try simp only [Act.put, List.setIfInBounds_toArray, List.set_cons_zero, List.set_cons_succ]
                refine wpAnyH_ready (rs := [4]) (by kernel_rfl) (by simp) ?_
                refine AllReadyH.cons rfl (fun K hK => ?_) (AllReadyH.nil)
                try go_simp
                have HL := Lib.hid (lit_cellsS v7 wdab 9 v7.heap.size rfl)
                have HLb : v7.heap.size ≠ b := by have := S.out.bw; omega
                have hbl := below1 v7 (.cells (wdab.map Value.string).toArray 9)
                replace S := Lib.hid (S.out.call hbl)
                replace O1 := Lib.hid (O1.out.call hbl)
                clear hbl
                (first | refine hK.out _ _ ?_ (fun hHeld1 => ?_) | (go_wp2_with fail; refine hK.out _ _ ?_ (fun hHeld1 => ?_)))
                · ((try dsimp only); exact Below.refl 0 _)
                clear hK K hHeld
                have hHeld := hHeld1
                clear hHeld1
                try simp only [Act.put, List.setIfInBounds_toArray, List.set_cons_zero, List.set_cons_succ]
                refine wpAnyH_ready (rs := [5]) (by kernel_rfl) (by simp) ?_
                refine AllReadyH.cons rfl (fun K hK => ?_) (AllReadyH.nil)
                go_simp
                (go_at_call 133; refine (of_any wdab (some ⟨v7.heap.size, 0, none⟩) 2 (by decide) (by decide) b A n c _ _ S.out.cur (by omega) HL.out (fun a ha => by obtain rfl := Option.some.inj ha; exact HLb)).mono ?_; rintro e v8 ⟨⟨s, rfl, hs⟩, hc, ho⟩; have HC := Lib.hid hc; have HO := Lib.hid ho; have HS := Lib.hid (wdab_short s hs); clear hc ho hs)
                (first | refine hK.out _ _ ?_ (fun hHeld1 => ?_) | (go_wp2_with fail; refine hK.out _ _ ?_ (fun hHeld1 => ?_)))
                · ((try dsimp only); exact Below.refl 0 _)
                clear hK K hHeld
                have hHeld := hHeld1
                clear hHeld1
                try simp only [Act.put, List.setIfInBounds_toArray, List.set_cons_zero, List.set_cons_succ]
                replace S := Lib.hid (S.out.draw HC.out HO.out)
                replace O1 := Lib.hid (O1.out.draw HO.out (by omega))
                clear HC HO HL HLb
                have y0 := HS.out
                have hes : ((⟨#[97, 98, 99, 100, 101, 102, 103, 104]⟩ : ByteArray).extract 0 r).size ≤ 8 := by (rw [ByteArray.size_extract]; show min r 8 - 0 ≤ 8; omega)
                have y1 : ¬ 9223372036854775807 < 1 + s.size := by omega
                have y2 : ¬ 9223372036854775807 < 1 + s.size + ((⟨#[97, 98, 99, 100, 101, 102, 103, 104]⟩ : ByteArray).extract 0 r).size := by omega
                have y3 : ¬ 9223372036854775807 < 1 + s.size + r := by omega
                refine take_yes (i := 6) (d := 53) (v := ?_) rfl rfl (by kernel_rfl) (by kernel_rfl) (by kernel_rfl) (fun _ _ _ h => h) (by kernel_rfl) ?_ hHeld ?_
                rotate_left
                · (intro w hSw; (try dsimp only at hSw); go_simp; try (with_reducible rfl))
                try simp only [Act.put, List.setIfInBounds_toArray, List.set_cons_zero, List.set_cons_succ]
                refine take_yes (i := 10) (d := 57) (v := ?_) rfl rfl (by kernel_rfl) (by kernel_rfl) (by kernel_rfl) (fun _ _ _ h => h) (by kernel_rfl) ?_ hHeld ?_
                rotate_left
                · (intro w hSw; (try dsimp only at hSw); go_simp; try (with_reducible rfl))
                try simp only [Act.put, List.setIfInBounds_toArray, List.set_cons_zero, List.set_cons_succ]
                refine take_yes (i := 11) (d := 58) (v := ?_) rfl rfl (by kernel_rfl) (by kernel_rfl) (by kernel_rfl) (fun _ _ _ h => h) (by kernel_rfl) ?_ hHeld ?_
                rotate_left
                · (intro w hSw; (try dsimp only at hSw); go_simp; try (with_reducible rfl))
                try simp only [Act.put, List.setIfInBounds_toArray, List.set_cons_zero, List.set_cons_succ]
                refine wpAnyH_ready (rs := [12]) (by kernel_rfl) (by simp) ?_
                refine AllReadyH.cons rfl (fun K hK => ?_) (AllReadyH.nil)
                have HNM := Lib.hid (show ((⟨#[120]⟩ : ByteArray) ++ s ++ (⟨#[97, 98, 99, 100, 101, 102, 103, 104]⟩ : ByteArray).extract 0 r).size ≤ 100 by (rw [ByteArray.size_append, ByteArray.size_append]; show 1 + s.size + _ ≤ 100; omega))
                clear y0 y1 y2 y3 hes
                obtain ⟨nm, hnm⟩ : ∃ nm, (⟨#[120]⟩ : ByteArray) ++ s ++ (⟨#[97, 98, 99, 100, 101, 102, 103, 104]⟩ : ByteArray).extract 0 r = nm := ⟨_, rfl⟩
                rw [hnm] at HNM ⊢
                clear hnm
                try go_simp
                have HL := Lib.hid (show Cells _ _ (RuleK.row [⟨11 + (k : Int), nm, 3, false, false, false, 1⟩]) from cells_arr v8 #[.int .i64 (11 + (k : Int)), .string nm, .int .i64 3, .bool false, .bool false, .bool false, .int .i64 1] 52 v8.heap.size rfl)
                have hbl := below1 v8 (.cells #[.int .i64 (11 + (k : Int)), .string nm, .int .i64 3, .bool false, .bool false, .bool false, .int .i64 1] 52)
                replace S := Lib.hid (S.out.call hbl)
                replace O1 := Lib.hid (O1.out.call hbl)
                clear hbl
                have hlz := S.out.sz
                (first | refine hK.out _ _ ?_ (fun hHeld1 => ?_) | (go_wp2_with fail; refine hK.out _ _ ?_ (fun hHeld1 => ?_)))
                · ((try dsimp only); exact Below.refl 0 _)
                clear hK K hHeld
                have hHeld := hHeld1
                clear hHeld1
                try simp only [Act.put, List.setIfInBounds_toArray, List.set_cons_zero, List.set_cons_succ]
                refine wpAnyH_ready (rs := [13]) (by kernel_rfl) (by simp) ?_
                refine AllReadyH.cons rfl (fun K hK => ?_) (AllReadyH.nil)
                refine step_append_gr elRul _ (by rfl) _ _ (by rfl) w.heap.size O _ oc xs.length 1 1 (RuleK.row xs) (RuleK.row [⟨11 + (k : Int), nm, 3, false, false, false, 1⟩]) (by rfl) (by rfl) rfl O1.out.1 HL.out rul_one hlz (by omega) ?_
                intro Q3 q3 v9 own hb hg
                have HG := Lib.hid hg
                have HW := Lib.hid own
                clear own hb hg
                (first | refine hK.out _ _ ?_ (fun hHeld1 => ?_) | (go_wp2_with fail; refine hK.out _ _ ?_ (fun hHeld1 => ?_)))
                · ((try dsimp only); exact Below.refl 0 _)
                clear hK K hHeld
                have hHeld := hHeld1
                clear hHeld1
                try simp only [Act.put, List.setIfInBounds_toArray, List.set_cons_zero, List.set_cons_succ]
                replace S := Lib.hid (S.out.grow O1.out.1 (by omega) HG.out)
                have N3 := Lib.hid (show OwD RuleK 52 w.heap.size v9 Q3 q3 (xs ++ [⟨11 + (k : Int), nm, 3, false, false, false, 1⟩]) from Ow.mk (K := RuleK) (by rw [List.length_append, List.length_singleton, Kd.row_append]; exact HW.out) (by simp; omega) (fitR O1.out.2.2.2 (Nat.le_trans HNM.out (by unfold maxLen; omega))))
                clear HG HW O1 HL hlz
                refine take_yes (i := 14) (d := 3) (v := ?_) rfl rfl (by kernel_rfl) (by kernel_rfl) (by kernel_rfl) (fun _ _ _ h => h) (by kernel_rfl) ?_ hHeld ?_
                rotate_left
                · (intro w hSw; (try dsimp only at hSw); go_simp; try (with_reducible rfl))
                try simp only [Act.put, List.setIfInBounds_toArray, List.set_cons_zero, List.set_cons_succ]
                refine wpAnyH_done (by kernel_rfl) ?_ _
                refine NoPanic.normal ?_
                clear hHeld
                go_wp2
                go_roundw
                case rel =>
                  refine ⟨_, _, _, _, _, _, _, _, _, _, _, _, _, _, _, _, _, _, _, _, _, _, _, _, _, _, _, _, ?_, rfl⟩
                  exact ⟨k + 1, _, Q3, q3, xs ++ [⟨11 + (k : Int), nm, 3, false, false, false, 1⟩], by go_num, by simp, by omega, by omega, by simp; omega, S, N3⟩
                case measure => (first | (simp [intOf]; done) | (simp [intOf]; omega))
              · have hk5 : ¬ (k : Int) < 10 := by omega
                have hd5 : decide ((k : Int) < 10) = false := decide_eq_false hk5
                go_wp2_with fail
                go_meet
                exact ⟨_, O, oc, xs, rfl, by omega, by omega, S, O1⟩
            · have hd : decide ((xs.length : Int) < 8 + (t : Int)) = false := decide_eq_false hlt
              go_wp2_with fail
              go_meet
              exact ⟨_, O, oc, xs, rfl, by omega, by omega, S, O1⟩
        · skip
          have e0 : ((y : Int) == 0) = false := by simp; omega
          have e1 : ((y : Int) == 1) = false := by simp; omega
          go_wp2_with fail
          go_meet
          exact ⟨_, O, oc, xs, rfl, by omega, by omega, S, O1⟩
      case rest =>
        clear S O1
        obtain ⟨W, rfl⟩ : ∃ W, W = wc := ⟨_, rfl⟩
        obtain ⟨m2, O, oc, xs, rfl, hm2, hl, S, O1⟩ := hcut
        go_wp2_with (go_ret; exact ⟨O, oc, xs, rfl, by omega, O1.out, S.out.cur.mono (by omega), S.out.on⟩)
    · have i0 : (0 : Int) < (j : Int) := by omega
      have q2 : IntKind.i64.wrap ((j : Int) - 1) = ((j - 1 : Nat) : Int) := by rw [IntKind.wrap_i64]; omega
      go_wp2_with fail
      refine (rule_any b A n c _ _ S.out.cur (by omega)).mono ?_
      rintro e v10 ⟨x, rfl, hx, hc, ho⟩
      replace S := Lib.hid (S.out.draw hc ho)
      replace O1 := Lib.hid (O1.out.draw ho (by omega))
      have HX := Lib.hid (fit11 hx)
      clear hc ho hx
      have hlo := S.out.sz
      go_wp2_with fail
      refine (sAddRule_any O oc xs x v10 O1.out.rd.cells (by omega) O1.out.rd.1 O1.out.2.2.2 HX.out).mono ?_
      rintro e v11 ⟨P, p, rfl, ow, hb⟩
      replace S := Lib.hid (S.out.call hb)
      replace O1 := Lib.hid (O1.out.call hb)
      have N1 := Lib.hid (OwD.low (show OwD RuleK 52 _ v11 P p (adL xs x) from ow) hlo)
      have hgl := adL_len xs x
      obtain ⟨g, hg⟩ : ∃ g, adL xs x = g := ⟨_, rfl⟩
      rw [hg] at hgl N1 ⊢
      clear hg hb ow hlo
      rcases Bool.eq_false_or_eq_true (adB xs x) with hk2 | hk2
      · rw [hk2]
        go_wp2
        go_roundw
        case rel => exact ⟨j - 1, _, P, p, g, by go_num, rfl, by omega, by omega, by omega, S, N1⟩
        case measure => (first | (simp [intOf]; done) | (simp [intOf]; omega))
      · rw [hk2]
        go_wp2
        go_roundw
        case rel => exact ⟨j - 1, _, O, oc, xs, by go_num, rfl, by omega, by omega, by omega, S, O1⟩
        case measure => (first | (simp [intOf]; done) | (simp [intOf]; omega))
end Go.Proofs.Ytifahgdalgjgfaa
