/- DisposeQuestion, in the program and in the reference. Conditions: the ranges named. -/
import Derived.Test.YtifahgdalgjgfaaPg
import Derived.Test.YtifahgdalgjgfaaSetc
import Derived.Deep.DrawnRows
namespace Go.Proofs.Ytifahgdalgjgfaa
open Go.RowKit
set_option linter.unusedVariables false
set_option linter.unusedSimpArgs false
attribute [local go_sem ↓] Go.wp_at_zero Go.wp_at_succ
def disB (xs : List Rul) (qs : List Qst) : Bool := pendB xs qs && !(qs.length == 0) && !(lkB xs qs)
def disQ (xs : List Rul) (qs : List Qst) : Qst := if disB xs qs then qs.getD (qs.length - 1) noQst else noQst
def disL (xs : List Rul) (qs : List Qst) : List Qst := if disB xs qs then qs.take (qs.length - 1) else []
/-- A call that returns a list of its own, a question and whether it could. -/
def ToLQB (w : World) (L : List Qst) (q : Qst) (ok : Bool) (e : Ending) (w' : World) : Prop := ∃ (A : Option Addr) (c : Nat), e = .returned (.tuple #[.slice A L.length c, .agg #[.int .i64 q.r, .int .i64 q.m, .bool q.s], .bool ok]) ∧ Ow QuestionK 32 w.heap.size w'.heap.size w' A c L ∧ Below w.heap.size w w'
theorem dis_no {xs : List Rul} {qs : List Qst} (h : disB xs qs = false) : disL xs qs = [] ∧ disQ xs qs = noQst ∧ disB xs qs = false := ⟨by unfold disL; rw [h]; rfl, by unfold disQ; rw [h]; rfl, h⟩
theorem dis_yes {xs : List Rul} {qs : List Qst} (h0 : 0 < qs.length) (h : disB xs qs = true) : disL xs qs = qs.take (qs.length - 1) ∧ disQ xs qs = (qs[qs.length - 1]'(by omega)) ∧ disB xs qs = true := ⟨by unfold disL; rw [h]; rfl, by unfold disQ; rw [h, getD_lt (show qs.length - 1 < qs.length by omega)]; rfl, h⟩
theorem ToLQB.none_ {w w' : World} {L : List Qst} {q : Qst} {ok : Bool} (h : L = [] ∧ q = noQst ∧ ok = false) (hb : Below w.heap.size w w') : ToLQB w L q ok (.returned (.tuple #[.slice none 0 0, .agg #[.int .i64 0, .int .i64 0, .bool false], .bool false])) w' := by
  obtain ⟨rfl, rfl, rfl⟩ := h
  exact ⟨none, 0, rfl, ow_nil, hb⟩
theorem ToLQB.own_ {w w' : World} {L ys : List Qst} {q p : Qst} {ok ok' : Bool} {O : Option Addr} {n oc : Nat} (h : w'.ownsRow w.heap.size 32 3 (.slice O n oc) n (QuestionK.row ys)) (hx : L = ys ∧ q = p ∧ ok = ok') (hn : n = ys.length) (hm : ys.length ≤ 1048576) (hb : Below w.heap.size w w') : ToLQB w L q ok (.returned (.tuple #[.slice O n oc, .agg #[.int .i64 p.r, .int .i64 p.m, .bool p.s], .bool ok'])) w' := by
  obtain ⟨rfl, rfl, rfl⟩ := hx
  subst hn
  exact ⟨O, oc, rfl, Ow.mk (K := QuestionK) h hm qfit, hb⟩
set_option maxRecDepth 100000 in
set_option maxHeartbeats 2000000 in
theorem DisposeQuestion_any (A : Option Addr) (c : Nat) (xs : List Rul) (D : Option Addr) (d : Nat) (qs : List Qst) (w : World) (h : PA w A c xs D d qs) :
    Calls Try.prog 12 #[.slice A xs.length c, .slice D qs.length d] w (ToLQB w (disL xs qs) (disQ xs qs) (disB xs qs)) := by
  have HP := Lib.hid h
  have hqm := h.qm
  have hqc := h.qc
  clear h
  have nb := BoxF.new w #[.int .i64 0, .int .i64 0, .bool false] 32
  have hW := below1 w (.cells #[.int .i64 0, .int .i64 0, .bool false] 32)
  have hsz : w.heap.size < (w.alloc (.cells #[.int .i64 0, .int .i64 0, .bool false] 32)).heap.size := by simp
  go_enter Try.func12, Try.ntmps12
  go_wp2_with fail
  generalize w.alloc (.cells #[.int .i64 0, .int .i64 0, .bool false] 32) = W at *
  refine (pend_any (HP.out.below hW)).mono ?_
  rintro e w1 ⟨rfl, hb⟩
  have nb1 := nb.below hb hsz
  have HB1 := Lib.hid (hW.trans (hb.mono hW.size))
  have hlt1 : w.heap.size < w1.heap.size := Nat.lt_of_lt_of_le hsz hb.size
  have HN1 := Lib.hid nb1
  clear nb hW hsz hb nb1
  rcases Bool.eq_false_or_eq_true (pendB xs qs) with hr | hr
  · rw [hr]
    rcases Nat.eq_zero_or_pos qs.length with h0 | h0
    · have HZ := Lib.hid (dis_no (show disB xs qs = false by unfold disB; rw [h0]; simp))
      have h1 : qs = [] := List.eq_nil_of_length_eq_zero h0
      subst h1
      simp only [List.length_nil]
      clear h0 hr hqm hqc
      have g0 := HN1.out.1 0 _ rfl
      have z0 := HN1.out.2 0
      have g1 := HN1.out.1 1 _ rfl
      have z1 := HN1.out.2 1
      have g2 := HN1.out.1 2 _ rfl
      have z2 := HN1.out.2 2
      go_wp2
      have KS := HN1.out.set3 (.int .i64 0) (.int .i64 0) (.bool false)
      have k0 := KS.1 0 _ rfl
      have k1 := KS.1 1 _ rfl
      have k2 := KS.1 2 _ rfl
      refine bodyPost_ret (v := .tuple #[.slice none 0 0, .agg #[.int .i64 0, .int .i64 0, .bool false], .bool false]) (by simp [results, Try.results12, go_sem, k0, k1, k2, g0, g1, g2]) rfl (ToLQB.none_ HZ.out ?_)
      have hb9 := HB1.out
      go_grown
    · obtain ⟨a, rfl, q0, q1, q2⟩ := question_at HP.out.qa (show qs.length - 1 < qs.length by omega)
      have t1 : IntKind.i64.wrap ((qs.length : Int) - 1) = (qs.length : Int) - 1 := by rw [IntKind.wrap_i64]; omega
      have t2 : ((qs.length : Int) - 1).toNat = qs.length - 1 := by omega
      have t3 : (0 : Int) ≤ (qs.length : Int) - 1 := by omega
      have t4 : (qs.length : Int) - 1 < (qs.length : Int) := by omega
      have t5 : decide (0 < qs.length) = true := decide_eq_true (by omega)
      have t7 : (1 : Int) ≤ (qs.length : Int) := by omega
      have t8 : (qs.length : Int) - 1 ≤ (d : Int) := by omega
      have t9 : (qs.length : Int) ≤ (d : Int) := by omega
      have e0 : ((qs.length : Int) == 0) = false := by rw [beq_eq_false_iff_ne]; omega
      have e1 : (qs.length == 0) = false := by rw [beq_eq_false_iff_ne]; omega
      obtain ⟨p, hp⟩ : ∃ p, Hid (qs[qs.length - 1]'(by omega) = p) := ⟨_, Lib.hid rfl⟩
      rw [hp.out] at q0 q1 q2
      have p0 := (HB1.out.cell (World.block_lt_of_cell? _ _ q0)).trans q0
      have p1 := (HB1.out.cell (World.block_lt_of_cell? _ _ q1)).trans q1
      have p2 := (HB1.out.cell (World.block_lt_of_cell? _ _ q2)).trans q2
      have HKP : Hid (∀ w', Below w.heap.size w w' → (fun w' => Below w.heap.size w w' ∧ w'.cell? (a.add ((qs.length - 1) * 3)) = some (.int .i64 p.r) ∧ w'.cell? ⟨(a.add ((qs.length - 1) * 3)).block, (a.add ((qs.length - 1) * 3)).off + 1, none⟩ = some (.int .i64 p.m) ∧ w'.cell? ⟨(a.add ((qs.length - 1) * 3)).block, (a.add ((qs.length - 1) * 3)).off + 2, none⟩ = some (.bool p.s)) w') := Lib.hid (fun w' hb => ⟨hb, (hb.cell (World.block_lt_of_cell? _ _ q0)).trans q0, (hb.cell (World.block_lt_of_cell? _ _ q1)).trans q1, (hb.cell (World.block_lt_of_cell? _ _ q2)).trans q2⟩)
      clear q0 q1 q2
      have HLP := Lib.hid (lkB_pos hr h0)
      have HDB := Lib.hid (show disB xs qs = !(lkB xs qs) by unfold disB; rw [hr, e1]; rfl)
      go_wp2_with fail
      refine (lacks_any _ c xs _ d qs _ (HP.out.below HB1.out)).mono ?_
      rintro e w2 ⟨rfl, hb⟩
      have HN2 := Lib.hid (HN1.out.below hb hlt1)
      have HB2 := Lib.hid (HB1.out.trans (hb.mono HB1.out.size))
      have hlt2 : w.heap.size < w2.heap.size := Nat.lt_of_lt_of_le hlt1 hb.size
      have p0 := (hb.cell (World.block_lt_of_cell? _ _ p0)).trans p0
      have p1 := (hb.cell (World.block_lt_of_cell? _ _ p1)).trans p1
      have p2 := (hb.cell (World.block_lt_of_cell? _ _ p2)).trans p2
      clear hb HB1 HN1 hlt1 hr
      rcases Bool.eq_false_or_eq_true (lkB xs qs) with hl | hl
      · rw [hl]
        have HZ := Lib.hid (dis_no (show disB xs qs = false by rw [HDB.out, hl]; rfl))
        clear p0 p1 p2
        have g0 := HN2.out.1 0 _ rfl
        have z0 := HN2.out.2 0
        have g1 := HN2.out.1 1 _ rfl
        have z1 := HN2.out.2 1
        have g2 := HN2.out.1 2 _ rfl
        have z2 := HN2.out.2 2
        go_wp2
        have KS := HN2.out.set3 (.int .i64 0) (.int .i64 0) (.bool false)
        have k0 := KS.1 0 _ rfl
        have k1 := KS.1 1 _ rfl
        have k2 := KS.1 2 _ rfl
        refine bodyPost_ret (v := .tuple #[.slice none 0 0, .agg #[.int .i64 0, .int .i64 0, .bool false], .bool false]) (by simp [results, Try.results12, go_sem, k0, k1, k2, g0, g1, g2]) rfl (ToLQB.none_ HZ.out ?_)
        have hb9 := HB2.out
        go_grown
      · rw [hl]
        have HZ := Lib.hid (dis_yes h0 (show disB xs qs = true by rw [HDB.out, hl]; rfl))
        rw [hp.out] at HZ
        clear p0 p1 p2
        go_wp2
        refine wp_region_noPanic ?_
        refine wp_region_held_drew (S := (fun w' => Below w.heap.size w w' ∧ w'.cell? (a.add ((qs.length - 1) * 3)) = some (.int .i64 p.r) ∧ w'.cell? ⟨(a.add ((qs.length - 1) * 3)).block, (a.add ((qs.length - 1) * 3)).off + 1, none⟩ = some (.int .i64 p.m) ∧ w'.cell? ⟨(a.add ((qs.length - 1) * 3)).block, (a.add ((qs.length - 1) * 3)).off + 2, none⟩ = some (.bool p.s))) (by kernel_rfl) ?_ (fun hHeld => ?_)
        · ((try dsimp only); (refine HKP.out _ ?_; first | exact HB2.out.drew | exact HB2.out | exact HB3.out | (have hb9 := HB2.out; go_grown; done) | (have hb9 := HB3.out; go_grown; done)))
        refine take_yes (i := 1) (d := 27) (v := ?_) rfl rfl (by kernel_rfl) (by kernel_rfl) (by kernel_rfl) (fun _ _ _ h => h) (by kernel_rfl) ?_ hHeld ?_
        rotate_left
        · (intro w hSw; (try dsimp only at hSw); go_simp; try (with_reducible rfl))
        try simp only [Act.put, List.setIfInBounds_toArray, List.set_cons_zero, List.set_cons_succ]
        refine take_yes (i := 2) (d := 28) (v := ?_) rfl rfl (by kernel_rfl) (by kernel_rfl) (by kernel_rfl) (fun _ _ _ h => h) (by kernel_rfl) ?_ hHeld ?_
        rotate_left
        · (intro w hSw; (try dsimp only at hSw); go_simp; try (with_reducible rfl))
        try simp only [Act.put, List.setIfInBounds_toArray, List.set_cons_zero, List.set_cons_succ]
        refine take_yes (i := 3) (d := 29) (v := ?_) rfl rfl (by kernel_rfl) (by kernel_rfl) (by kernel_rfl) (fun _ _ _ h => h) (by kernel_rfl) ?_ hHeld ?_
        rotate_left
        · (intro w hSw; (try dsimp only at hSw); go_simp; try (with_reducible rfl))
        try simp only [Act.put, List.setIfInBounds_toArray, List.set_cons_zero, List.set_cons_succ]
        refine take_yes (i := 5) (d := 31) (v := ?_) rfl rfl (by kernel_rfl) (by kernel_rfl) (by kernel_rfl) (fun _ _ _ h => h) (by kernel_rfl) ?_ hHeld ?_
        rotate_left
        · (intro w hSw; (try dsimp only at hSw); go_simp; try (with_reducible rfl))
        try simp only [Act.put, List.setIfInBounds_toArray, List.set_cons_zero, List.set_cons_succ]
        refine take_yes (i := 6) (d := 32) (v := ?_) rfl rfl (by kernel_rfl) (by kernel_rfl) (by kernel_rfl) (fun _ _ _ h => h) (by kernel_rfl) ?_ hHeld ?_
        rotate_left
        · (intro w hSw; (try dsimp only at hSw); go_simp; try (with_reducible rfl))
        try simp only [Act.put, List.setIfInBounds_toArray, List.set_cons_zero, List.set_cons_succ]
        refine take_yes (i := 7) (d := 33) (v := ?_) rfl rfl (by kernel_rfl) (by kernel_rfl) (by kernel_rfl) (fun _ _ _ h => h) (by kernel_rfl) ?_ hHeld ?_
        rotate_left
        · (intro w hSw; (try dsimp only at hSw); go_simp; try (with_reducible rfl))
        try simp only [Act.put, List.setIfInBounds_toArray, List.set_cons_zero, List.set_cons_succ]
        refine take_yes (i := 8) (d := 34) (v := ?_) rfl rfl (by kernel_rfl) (by kernel_rfl) (by kernel_rfl) (fun _ _ _ h => h) (by kernel_rfl) ?_ hHeld ?_
        rotate_left
        · (intro w hSw; (try dsimp only at hSw); go_simp; try (with_reducible rfl))
        try simp only [Act.put, List.setIfInBounds_toArray, List.set_cons_zero, List.set_cons_succ]
        refine wpAnyH_ready (rs := [0]) (by kernel_rfl) (by simp) ?_
        refine AllReadyH.cons rfl (fun K hK => ?_) AllReadyH.nil
        go_simp
        (first | refine hK.out _ _ ?_ (fun hHeld1 => ?_) | (go_wp2_with fail; refine hK.out _ _ ?_ (fun hHeld1 => ?_)))
        · ((try dsimp only); (refine HKP.out _ ?_; first | exact HB2.out.drew | exact HB2.out | exact HB3.out | (have hb9 := HB2.out; go_grown; done) | (have hb9 := HB3.out; go_grown; done)))
        clear hK K hHeld
        have hHeld := hHeld1
        clear hHeld1
        try simp only [Act.put, List.setIfInBounds_toArray, List.set_cons_zero, List.set_cons_succ]
        refine wpAnyH_ready (rs := [4]) (by kernel_rfl) (by simp) ?_
        refine AllReadyH.cons rfl (fun K hK => ?_) AllReadyH.nil
        refine step_append_lit elQst _ (by rfl) _ _ (by rfl) (w.heap.size + 1) w2.heap.size (some a) (qs.length - 1) d (QuestionK.row (qs.take (qs.length - 1))) (by rfl) (by rfl) (row_take_len (by omega)) ?_ ?_ qst_one ?_ (by omega) ?_
        · first | exact own_nil_lit_d _ _ _ _ _ (by simp) (by omega) | exact own_nil_lit _ _ _ _ _ (by simp) (by simp; omega)
        · exact rows_take QuestionK (HP.out.below (by have hb9 := HB2.out; go_grown)).qa
        · simp; omega
        intro O oc w3 own hb hq
        have HO := Lib.hid own
        have hb3 : Below w2.heap.size w2 w3 := (show Below w2.heap.size w2 _ by go_grown).trans (hb.mono (by simp))
        have HN3 := Lib.hid (HN2.out.below hb3 hlt2)
        have HB3 := Lib.hid (HB2.out.trans (hb3.mono HB2.out.size))
        clear own hb hq hb3
        have g0 := HN3.out.1 0 _ rfl
        have z0 := HN3.out.2 0
        have g1 := HN3.out.1 1 _ rfl
        have z1 := HN3.out.2 1
        have g2 := HN3.out.1 2 _ rfl
        have z2 := HN3.out.2 2
        (first | refine hK.out _ _ ?_ (fun hHeld1 => ?_) | (go_wp2_with fail; refine hK.out _ _ ?_ (fun hHeld1 => ?_)))
        · ((try dsimp only); (refine HKP.out _ ?_; first | exact HB2.out.drew | exact HB2.out | exact HB3.out | (have hb9 := HB2.out; go_grown; done) | (have hb9 := HB3.out; go_grown; done)))
        clear hK K hHeld
        have hHeld := hHeld1
        clear hHeld1
        try simp only [Act.put, List.setIfInBounds_toArray, List.set_cons_zero, List.set_cons_succ]
        refine take_yes (i := 9) (d := 4) (v := ?_) rfl rfl (by kernel_rfl) (by kernel_rfl) (by kernel_rfl) (fun _ _ _ h => h) (by kernel_rfl) ?_ hHeld ?_
        rotate_left
        · (intro w hSw; (try dsimp only at hSw); go_simp; try (with_reducible rfl))
        try simp only [Act.put, List.setIfInBounds_toArray, List.set_cons_zero, List.set_cons_succ]
        refine wpAnyH_ready (rs := [10]) (by kernel_rfl) (by simp) ?_
        refine AllReadyH.cons rfl (fun K hK => ?_) AllReadyH.nil
        go_simp
        (first | refine hK.out _ _ ?_ (fun hHeld1 => ?_) | (go_wp2_with fail; refine hK.out _ _ ?_ (fun hHeld1 => ?_)))
        · ((try dsimp only); (refine HKP.out _ ?_; first | exact HB2.out.drew | exact HB2.out | exact HB3.out | (have hb9 := HB2.out; go_grown; done) | (have hb9 := HB3.out; go_grown; done)))
        clear hK K hHeld
        have hHeld := hHeld1
        clear hHeld1
        try simp only [Act.put, List.setIfInBounds_toArray, List.set_cons_zero, List.set_cons_succ]
        refine take_yes (i := 11) (d := 6) (v := ?_) rfl rfl (by kernel_rfl) (by kernel_rfl) (by kernel_rfl) (fun _ _ _ h => h) (by kernel_rfl) ?_ hHeld ?_
        rotate_left
        · (intro w hSw; (try dsimp only at hSw); go_simp; try (with_reducible rfl))
        try simp only [Act.put, List.setIfInBounds_toArray, List.set_cons_zero, List.set_cons_succ]
        refine wpAnyH_done (by kernel_rfl) ?_ _
        refine NoPanic.normal ?_
        have KS := HN3.out.set3 (.int .i64 p.r) (.int .i64 p.m) (.bool p.s)
        have k0 := KS.1 0 _ rfl
        have k1 := KS.1 1 _ rfl
        have k2 := KS.1 2 _ rfl
        go_wp2
        refine bodyPost_ret (v := .tuple #[.slice O (qs.length - 1) oc, .agg #[.int .i64 p.r, .int .i64 p.m, .bool p.s], .bool true]) (by simp [results, Try.results12, go_sem, k0, k1, k2]) rfl ?_
        refine ToLQB.own_ (own_mono (own_off3 HO.out (fun e => by have := (HO.out.lt _ e).1; omega) _ _ _) (by omega)) HZ.out (by rw [List.length_take]; omega) (by rw [List.length_take]; omega) ?_
        have hb9 := HB3.out
        go_grown
  · rw [hr]
    have HZ := Lib.hid (dis_no (show disB xs qs = false by unfold disB; rw [hr]; rfl))
    clear hr
    have g0 := HN1.out.1 0 _ rfl
    have z0 := HN1.out.2 0
    have g1 := HN1.out.1 1 _ rfl
    have z1 := HN1.out.2 1
    have g2 := HN1.out.1 2 _ rfl
    have z2 := HN1.out.2 2
    go_wp2
    have KS := HN1.out.set3 (.int .i64 0) (.int .i64 0) (.bool false)
    have k0 := KS.1 0 _ rfl
    have k1 := KS.1 1 _ rfl
    have k2 := KS.1 2 _ rfl
    refine bodyPost_ret (v := .tuple #[.slice none 0 0, .agg #[.int .i64 0, .int .i64 0, .bool false], .bool false]) (by simp [results, Try.results12, go_sem, k0, k1, k2, g0, g1, g2]) rfl (ToLQB.none_ HZ.out ?_)
    have hb9 := HB1.out
    go_grown
set_option maxHeartbeats 2000000 in
set_option maxRecDepth 100000 in
theorem sDisposeQuestion_any (A : Option Addr) (c : Nat) (xs : List Rul) (D : Option Addr) (d : Nat) (qs : List Qst) (w : World) (h : PA w A c xs D d qs) :
    Calls Try.prog 15 #[.slice A xs.length c, .slice D qs.length d] w (ToLQB w (disL xs qs) (disQ xs qs) (disB xs qs)) := by
  have HP := Lib.hid h
  have hqm := h.qm
  have hqc := h.qc
  clear h
  have nb := BoxF.new w #[.int .i64 0, .int .i64 0, .bool false] 32
  have hW := below1 w (.cells #[.int .i64 0, .int .i64 0, .bool false] 32)
  have hsz : w.heap.size < (w.alloc (.cells #[.int .i64 0, .int .i64 0, .bool false] 32)).heap.size := by simp
  go_enter Try.func15, Try.ntmps15
  go_wp2_with fail
  generalize w.alloc (.cells #[.int .i64 0, .int .i64 0, .bool false] 32) = W at *
  refine (good_any (HP.out.below hW)).mono ?_
  rintro e w1 ⟨rfl, hb⟩
  have nb1 := nb.below hb hsz
  have HB1 := Lib.hid (hW.trans (hb.mono hW.size))
  have hlt1 : w.heap.size < w1.heap.size := Nat.lt_of_lt_of_le hsz hb.size
  have HN1 := Lib.hid nb1
  clear nb hW hsz hb nb1
  rcases Bool.eq_false_or_eq_true (pendB xs qs) with hr | hr
  · rw [hr]
    rcases Nat.eq_zero_or_pos qs.length with h0 | h0
    · have HZ := Lib.hid (dis_no (show disB xs qs = false by unfold disB; rw [h0]; simp))
      have h1 : qs = [] := List.eq_nil_of_length_eq_zero h0
      subst h1
      simp only [List.length_nil]
      clear h0 hr hqm hqc
      have g0 := HN1.out.1 0 _ rfl
      have z0 := HN1.out.2 0
      have g1 := HN1.out.1 1 _ rfl
      have z1 := HN1.out.2 1
      have g2 := HN1.out.1 2 _ rfl
      have z2 := HN1.out.2 2
      have HE := Lib.hid (own_nil_lit (((w1.setCell ⟨w.heap.size, 0, none⟩ (.int .i64 0)).setCell ⟨w.heap.size, 1, none⟩ (.int .i64 0)).setCell ⟨w.heap.size, 2, none⟩ (.bool false)) (w.heap.size + 1) w1.heap.size 32 3 (by simp) (by simp; omega))
      have HE2 := Lib.hid ((HN1.out.set3 (.int .i64 0) (.int .i64 0) (.bool false)).below (below1 (((w1.setCell ⟨w.heap.size, 0, none⟩ (.int .i64 0)).setCell ⟨w.heap.size, 1, none⟩ (.int .i64 0)).setCell ⟨w.heap.size, 2, none⟩ (.bool false)) (.cells #[] 32)) (by simp; omega))
      go_wp2
      have k0 := HE2.out.1 0 _ rfl
      have k1 := HE2.out.1 1 _ rfl
      have k2 := HE2.out.1 2 _ rfl
      refine bodyPost_ret (v := .tuple #[.slice (some ⟨w1.heap.size, 0, none⟩) 0 0, .agg #[.int .i64 0, .int .i64 0, .bool false], .bool false]) (by simp [results, Try.results15, go_sem, k0, k1, k2]) rfl ?_
      have hb9 := HB1.out
      refine ToLQB.own_ (ys := []) (p := noQst) (own_mono HE.out (by omega)) HZ.out rfl (by simp) ?_
      go_grown
    · obtain ⟨a, rfl, q0, q1, q2⟩ := question_at HP.out.qa (show qs.length - 1 < qs.length by omega)
      have t1 : IntKind.i64.wrap ((qs.length : Int) - 1) = (qs.length : Int) - 1 := by rw [IntKind.wrap_i64]; omega
      have t2 : ((qs.length : Int) - 1).toNat = qs.length - 1 := by omega
      have t3 : (0 : Int) ≤ (qs.length : Int) - 1 := by omega
      have t4 : (qs.length : Int) - 1 < (qs.length : Int) := by omega
      have t5 : decide (0 < qs.length) = true := decide_eq_true (by omega)
      have t7 : (1 : Int) ≤ (qs.length : Int) := by omega
      have t8 : (qs.length : Int) - 1 ≤ (d : Int) := by omega
      have t9 : (qs.length : Int) ≤ (d : Int) := by omega
      have e0 : ((qs.length : Int) == 0) = false := by rw [beq_eq_false_iff_ne]; omega
      have e1 : (qs.length == 0) = false := by rw [beq_eq_false_iff_ne]; omega
      have HLP := Lib.hid (lkB_pos hr h0)
      have HIX := Lib.hid (pend_ix hr (show qs.length - 1 < qs.length by omega))
      have HDB := Lib.hid (show disB xs qs = !(lkB xs qs) by unfold disB; rw [hr, e1]; rfl)
      have HZY := Lib.hid (fun hh => dis_yes (xs := xs) h0 hh)
      obtain ⟨p, hp⟩ : ∃ p, Hid (qs[qs.length - 1]'(by omega) = p) := ⟨_, Lib.hid rfl⟩
      rw [hp.out] at q0 q1 q2 HIX HLP HZY
      have p0 := (HB1.out.cell (World.block_lt_of_cell? _ _ q0)).trans q0
      have p1 := (HB1.out.cell (World.block_lt_of_cell? _ _ q1)).trans q1
      have p2 := (HB1.out.cell (World.block_lt_of_cell? _ _ q2)).trans q2
      have HKP : Hid (∀ w', Below w.heap.size w w' → (fun w' => Below w.heap.size w w' ∧ w'.cell? (a.add ((qs.length - 1) * 3)) = some (.int .i64 p.r) ∧ w'.cell? ⟨(a.add ((qs.length - 1) * 3)).block, (a.add ((qs.length - 1) * 3)).off + 1, none⟩ = some (.int .i64 p.m) ∧ w'.cell? ⟨(a.add ((qs.length - 1) * 3)).block, (a.add ((qs.length - 1) * 3)).off + 2, none⟩ = some (.bool p.s)) w') := Lib.hid (fun w' hb => ⟨hb, (hb.cell (World.block_lt_of_cell? _ _ q0)).trans q0, (hb.cell (World.block_lt_of_cell? _ _ q1)).trans q1, (hb.cell (World.block_lt_of_cell? _ _ q2)).trans q2⟩)
      clear q0 q1 q2
      go_wp2_with fail
      refine (l7Lacks_at _ c xs p _ (HP.out.below HB1.out).ra HP.out.rm HIX.out).mono ?_
      rintro e w2 ⟨rfl, hb⟩
      have HN2 := Lib.hid (HN1.out.below hb hlt1)
      have HB2 := Lib.hid (HB1.out.trans (hb.mono HB1.out.size))
      have hlt2 : w.heap.size < w2.heap.size := Nat.lt_of_lt_of_le hlt1 hb.size
      clear hb HB1 HN1 hlt1 hr p0 p1 p2
      rcases Bool.eq_false_or_eq_true (lackB xs p) with hl | hl
      · rw [hl]
        have HZ := Lib.hid (dis_no (show disB xs qs = false by rw [HDB.out, HLP.out, hl]; rfl))
        have g0 := HN2.out.1 0 _ rfl
        have z0 := HN2.out.2 0
        have g1 := HN2.out.1 1 _ rfl
        have z1 := HN2.out.2 1
        have g2 := HN2.out.1 2 _ rfl
        have z2 := HN2.out.2 2
        have HE := Lib.hid (own_nil_lit (((w2.setCell ⟨w.heap.size, 0, none⟩ (.int .i64 0)).setCell ⟨w.heap.size, 1, none⟩ (.int .i64 0)).setCell ⟨w.heap.size, 2, none⟩ (.bool false)) (w.heap.size + 1) w2.heap.size 32 3 (by simp) (by simp; omega))
        have HE2 := Lib.hid ((HN2.out.set3 (.int .i64 0) (.int .i64 0) (.bool false)).below (below1 (((w2.setCell ⟨w.heap.size, 0, none⟩ (.int .i64 0)).setCell ⟨w.heap.size, 1, none⟩ (.int .i64 0)).setCell ⟨w.heap.size, 2, none⟩ (.bool false)) (.cells #[] 32)) (by simp; omega))
        go_wp2
        have k0 := HE2.out.1 0 _ rfl
        have k1 := HE2.out.1 1 _ rfl
        have k2 := HE2.out.1 2 _ rfl
        refine bodyPost_ret (v := .tuple #[.slice (some ⟨w2.heap.size, 0, none⟩) 0 0, .agg #[.int .i64 0, .int .i64 0, .bool false], .bool false]) (by simp [results, Try.results15, go_sem, k0, k1, k2]) rfl ?_
        have hb9 := HB2.out
        refine ToLQB.own_ (ys := []) (p := noQst) (own_mono HE.out (by omega)) HZ.out rfl (by simp) ?_
        go_grown
      · rw [hl]
        have HZ := Lib.hid (HZY.out (show disB xs qs = true by rw [HDB.out, HLP.out, hl]; rfl))
        clear HZY
        go_wp2
        refine wp_region_noPanic ?_
        refine wp_region_held_drew (S := (fun w' => Below w.heap.size w w' ∧ w'.cell? (a.add ((qs.length - 1) * 3)) = some (.int .i64 p.r) ∧ w'.cell? ⟨(a.add ((qs.length - 1) * 3)).block, (a.add ((qs.length - 1) * 3)).off + 1, none⟩ = some (.int .i64 p.m) ∧ w'.cell? ⟨(a.add ((qs.length - 1) * 3)).block, (a.add ((qs.length - 1) * 3)).off + 2, none⟩ = some (.bool p.s))) (by kernel_rfl) ?_ (fun hHeld => ?_)
        · ((try dsimp only); (refine HKP.out _ ?_; first | exact HB2.out.drew | exact HB2.out | exact HB3.out | (have hb9 := HB2.out; go_grown; done) | (have hb9 := HB3.out; go_grown; done)))
        refine take_yes (i := 1) (d := 30) (v := ?_) rfl rfl (by kernel_rfl) (by kernel_rfl) (by kernel_rfl) (fun _ _ _ h => h) (by kernel_rfl) ?_ hHeld ?_
        rotate_left
        · (intro w hSw; (try dsimp only at hSw); go_simp; try (with_reducible rfl))
        try simp only [Act.put, List.setIfInBounds_toArray, List.set_cons_zero, List.set_cons_succ]
        refine take_yes (i := 2) (d := 31) (v := ?_) rfl rfl (by kernel_rfl) (by kernel_rfl) (by kernel_rfl) (fun _ _ _ h => h) (by kernel_rfl) ?_ hHeld ?_
        rotate_left
        · (intro w hSw; (try dsimp only at hSw); go_simp; try (with_reducible rfl))
        try simp only [Act.put, List.setIfInBounds_toArray, List.set_cons_zero, List.set_cons_succ]
        refine take_yes (i := 3) (d := 32) (v := ?_) rfl rfl (by kernel_rfl) (by kernel_rfl) (by kernel_rfl) (fun _ _ _ h => h) (by kernel_rfl) ?_ hHeld ?_
        rotate_left
        · (intro w hSw; (try dsimp only at hSw); go_simp; try (with_reducible rfl))
        try simp only [Act.put, List.setIfInBounds_toArray, List.set_cons_zero, List.set_cons_succ]
        refine take_yes (i := 4) (d := 33) (v := ?_) rfl rfl (by kernel_rfl) (by kernel_rfl) (by kernel_rfl) (fun _ _ _ h => h) (by kernel_rfl) ?_ hHeld ?_
        rotate_left
        · (intro w hSw; (try dsimp only at hSw); go_simp; try (with_reducible rfl))
        try simp only [Act.put, List.setIfInBounds_toArray, List.set_cons_zero, List.set_cons_succ]
        refine take_yes (i := 6) (d := 35) (v := ?_) rfl rfl (by kernel_rfl) (by kernel_rfl) (by kernel_rfl) (fun _ _ _ h => h) (by kernel_rfl) ?_ hHeld ?_
        rotate_left
        · (intro w hSw; (try dsimp only at hSw); go_simp; try (with_reducible rfl))
        try simp only [Act.put, List.setIfInBounds_toArray, List.set_cons_zero, List.set_cons_succ]
        refine take_yes (i := 7) (d := 36) (v := ?_) rfl rfl (by kernel_rfl) (by kernel_rfl) (by kernel_rfl) (fun _ _ _ h => h) (by kernel_rfl) ?_ hHeld ?_
        rotate_left
        · (intro w hSw; (try dsimp only at hSw); go_simp; try (with_reducible rfl))
        try simp only [Act.put, List.setIfInBounds_toArray, List.set_cons_zero, List.set_cons_succ]
        refine take_yes (i := 8) (d := 37) (v := ?_) rfl rfl (by kernel_rfl) (by kernel_rfl) (by kernel_rfl) (fun _ _ _ h => h) (by kernel_rfl) ?_ hHeld ?_
        rotate_left
        · (intro w hSw; (try dsimp only at hSw); go_simp; try (with_reducible rfl))
        try simp only [Act.put, List.setIfInBounds_toArray, List.set_cons_zero, List.set_cons_succ]
        refine take_yes (i := 9) (d := 38) (v := ?_) rfl rfl (by kernel_rfl) (by kernel_rfl) (by kernel_rfl) (fun _ _ _ h => h) (by kernel_rfl) ?_ hHeld ?_
        rotate_left
        · (intro w hSw; (try dsimp only at hSw); go_simp; try (with_reducible rfl))
        try simp only [Act.put, List.setIfInBounds_toArray, List.set_cons_zero, List.set_cons_succ]
        refine take_yes (i := 10) (d := 39) (v := ?_) rfl rfl (by kernel_rfl) (by kernel_rfl) (by kernel_rfl) (fun _ _ _ h => h) (by kernel_rfl) ?_ hHeld ?_
        rotate_left
        · (intro w hSw; (try dsimp only at hSw); go_simp; try (with_reducible rfl))
        try simp only [Act.put, List.setIfInBounds_toArray, List.set_cons_zero, List.set_cons_succ]
        refine wpAnyH_ready (rs := [0]) (by kernel_rfl) (by simp) ?_
        refine AllReadyH.cons rfl (fun K hK => ?_) AllReadyH.nil
        go_simp
        (first | refine hK.out _ _ ?_ (fun hHeld1 => ?_) | (go_wp2_with fail; refine hK.out _ _ ?_ (fun hHeld1 => ?_)))
        · ((try dsimp only); (refine HKP.out _ ?_; first | exact HB2.out.drew | exact HB2.out | exact HB3.out | (have hb9 := HB2.out; go_grown; done) | (have hb9 := HB3.out; go_grown; done)))
        clear hK K hHeld
        have hHeld := hHeld1
        clear hHeld1
        try simp only [Act.put, List.setIfInBounds_toArray, List.set_cons_zero, List.set_cons_succ]
        refine wpAnyH_ready (rs := [5]) (by kernel_rfl) (by simp) ?_
        refine AllReadyH.cons rfl (fun K hK => ?_) AllReadyH.nil
        refine step_append_lit elQst _ (by rfl) _ _ (by rfl) (w.heap.size + 1) w2.heap.size (some a) (qs.length - 1) d (QuestionK.row (qs.take (qs.length - 1))) (by rfl) (by rfl) (row_take_len (by omega)) ?_ ?_ qst_one ?_ (by omega) ?_
        · first | exact own_nil_lit_d _ _ _ _ _ (by simp) (by omega) | exact own_nil_lit _ _ _ _ _ (by simp) (by simp; omega)
        · exact rows_take QuestionK (HP.out.below (by have hb9 := HB2.out; go_grown)).qa
        · simp; omega
        intro O oc w3 own hb hq
        have HO := Lib.hid own
        have hb3 : Below w2.heap.size w2 w3 := (show Below w2.heap.size w2 _ by go_grown).trans (hb.mono (by simp))
        have HN3 := Lib.hid (HN2.out.below hb3 hlt2)
        have HB3 := Lib.hid (HB2.out.trans (hb3.mono HB2.out.size))
        clear own hb hq hb3
        have g0 := HN3.out.1 0 _ rfl
        have z0 := HN3.out.2 0
        have g1 := HN3.out.1 1 _ rfl
        have z1 := HN3.out.2 1
        have g2 := HN3.out.1 2 _ rfl
        have z2 := HN3.out.2 2
        (first | refine hK.out _ _ ?_ (fun hHeld1 => ?_) | (go_wp2_with fail; refine hK.out _ _ ?_ (fun hHeld1 => ?_)))
        · ((try dsimp only); (refine HKP.out _ ?_; first | exact HB2.out.drew | exact HB2.out | exact HB3.out | (have hb9 := HB2.out; go_grown; done) | (have hb9 := HB3.out; go_grown; done)))
        clear hK K hHeld
        have hHeld := hHeld1
        clear hHeld1
        try simp only [Act.put, List.setIfInBounds_toArray, List.set_cons_zero, List.set_cons_succ]
        refine take_yes (i := 11) (d := 4) (v := ?_) rfl rfl (by kernel_rfl) (by kernel_rfl) (by kernel_rfl) (fun _ _ _ h => h) (by kernel_rfl) ?_ hHeld ?_
        rotate_left
        · (intro w hSw; (try dsimp only at hSw); go_simp; try (with_reducible rfl))
        try simp only [Act.put, List.setIfInBounds_toArray, List.set_cons_zero, List.set_cons_succ]
        refine wpAnyH_ready (rs := [12]) (by kernel_rfl) (by simp) ?_
        refine AllReadyH.cons rfl (fun K hK => ?_) AllReadyH.nil
        go_simp
        (first | refine hK.out _ _ ?_ (fun hHeld1 => ?_) | (go_wp2_with fail; refine hK.out _ _ ?_ (fun hHeld1 => ?_)))
        · ((try dsimp only); (refine HKP.out _ ?_; first | exact HB2.out.drew | exact HB2.out | exact HB3.out | (have hb9 := HB2.out; go_grown; done) | (have hb9 := HB3.out; go_grown; done)))
        clear hK K hHeld
        have hHeld := hHeld1
        clear hHeld1
        try simp only [Act.put, List.setIfInBounds_toArray, List.set_cons_zero, List.set_cons_succ]
        refine take_yes (i := 13) (d := 6) (v := ?_) rfl rfl (by kernel_rfl) (by kernel_rfl) (by kernel_rfl) (fun _ _ _ h => h) (by kernel_rfl) ?_ hHeld ?_
        rotate_left
        · (intro w hSw; (try dsimp only at hSw); go_simp; try (with_reducible rfl))
        try simp only [Act.put, List.setIfInBounds_toArray, List.set_cons_zero, List.set_cons_succ]
        refine wpAnyH_done (by kernel_rfl) ?_ _
        refine NoPanic.normal ?_
        have KS := HN3.out.set3 (.int .i64 p.r) (.int .i64 p.m) (.bool p.s)
        have k0 := KS.1 0 _ rfl
        have k1 := KS.1 1 _ rfl
        have k2 := KS.1 2 _ rfl
        go_wp2
        refine bodyPost_ret (v := .tuple #[.slice O (qs.length - 1) oc, .agg #[.int .i64 p.r, .int .i64 p.m, .bool p.s], .bool true]) (by simp [results, Try.results15, go_sem, k0, k1, k2]) rfl ?_
        refine ToLQB.own_ (own_mono (own_off3 HO.out (fun e => by have := (HO.out.lt _ e).1; omega) _ _ _) (by omega)) HZ.out (by rw [List.length_take]; omega) (by rw [List.length_take]; omega) ?_
        have hb9 := HB3.out
        go_grown
  · rw [hr]
    have HZ := Lib.hid (dis_no (show disB xs qs = false by unfold disB; rw [hr]; rfl))
    clear hr
    have g0 := HN1.out.1 0 _ rfl
    have z0 := HN1.out.2 0
    have g1 := HN1.out.1 1 _ rfl
    have z1 := HN1.out.2 1
    have g2 := HN1.out.1 2 _ rfl
    have z2 := HN1.out.2 2
    have HE := Lib.hid (own_nil_lit (((w1.setCell ⟨w.heap.size, 0, none⟩ (.int .i64 0)).setCell ⟨w.heap.size, 1, none⟩ (.int .i64 0)).setCell ⟨w.heap.size, 2, none⟩ (.bool false)) (w.heap.size + 1) w1.heap.size 32 3 (by simp) (by simp; omega))
    have HE2 := Lib.hid ((HN1.out.set3 (.int .i64 0) (.int .i64 0) (.bool false)).below (below1 (((w1.setCell ⟨w.heap.size, 0, none⟩ (.int .i64 0)).setCell ⟨w.heap.size, 1, none⟩ (.int .i64 0)).setCell ⟨w.heap.size, 2, none⟩ (.bool false)) (.cells #[] 32)) (by simp; omega))
    go_wp2
    have k0 := HE2.out.1 0 _ rfl
    have k1 := HE2.out.1 1 _ rfl
    have k2 := HE2.out.1 2 _ rfl
    refine bodyPost_ret (v := .tuple #[.slice (some ⟨w1.heap.size, 0, none⟩) 0 0, .agg #[.int .i64 0, .int .i64 0, .bool false], .bool false]) (by simp [results, Try.results15, go_sem, k0, k1, k2]) rfl ?_
    have hb9 := HB1.out
    refine ToLQB.own_ (ys := []) (p := noQst) (own_mono HE.out (by omega)) HZ.out rfl (by simp) ?_
    go_grown
end Go.Proofs.Ytifahgdalgjgfaa
