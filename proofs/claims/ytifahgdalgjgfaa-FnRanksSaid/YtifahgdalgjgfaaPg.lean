/- DropUnseconded and WithdrawQuestion, in the program and in the reference. Conditions: the ranges named. -/
import Derived.Test.YtifahgdalgjgfaaAq
namespace Go.Proofs.Ytifahgdalgjgfaa
open Go.RowKit
set_option linter.unusedVariables false
def dropN (xs : List Rul) (qs : List Qst) : Nat := if lkB xs qs then qs.length - 1 else qs.length
def dropL (xs : List Rul) (qs : List Qst) : List Qst := if pendB xs qs then qs.take (dropN xs qs) else []
/-- The last question of a mover, below k. -/
def wdN (m : Int) (qs : List Qst) : Nat → Int
  | 0 => -1
  | k + 1 => if (qs.getD k noQst).m == m then k else wdN m qs k
theorem wdN_hit {m : Int} {qs : List Qst} {j : Nat} (hj : j < qs.length) (h : (qs[j].m == m) = true) : wdN m qs (j + 1) = j := by rw [wdN, getD_lt hj, h]; rfl
theorem wdN_miss {m : Int} {qs : List Qst} {j : Nat} (hj : j < qs.length) (h : (qs[j].m == m) = false) : wdN m qs (j + 1) = wdN m qs j := by rw [wdN, getD_lt hj, h]; rfl
theorem wdN_out {xs : List Rul} {m : Int} {qs : List Qst} (h : pendB xs qs = true) (hm : memB m = false) : ∀ k, k ≤ qs.length → wdN m qs k = -1
  | 0, _ => rfl
  | k + 1, hk => by
    have h1 := pend_mem h (show k < qs.length by omega)
    have h2 : (qs[k].m == m) = false := by
      rw [beq_eq_false_iff_ne]; intro e; rw [e, hm] at h1; cases h1
    rw [wdN_miss (by omega) h2]
    exact wdN_out h hm k (by omega)
def wdB (xs : List Rul) (qs : List Qst) (m : Int) : Bool := pendB xs qs && decide (0 ≤ wdN m qs qs.length)
def wdL (xs : List Rul) (qs : List Qst) (m : Int) : List Qst := if wdB xs qs m then qs.take (wdN m qs qs.length).toNat else []
theorem wd_no {xs : List Rul} {qs : List Qst} {m : Int} (h : pendB xs qs = false) : wdL xs qs m = [] ∧ wdB xs qs m = false := by
  have h2 : wdB xs qs m = false := by unfold wdB; rw [h]; rfl
  exact ⟨by unfold wdL; rw [h2]; rfl, h2⟩
theorem wd_neg {xs : List Rul} {qs : List Qst} {m : Int} (h : wdN m qs qs.length = -1) : wdL xs qs m = [] ∧ wdB xs qs m = false := by
  have h2 : wdB xs qs m = false := by unfold wdB; rw [h]; simp
  exact ⟨by unfold wdL; rw [h2]; rfl, h2⟩
theorem wd_yes {xs : List Rul} {qs : List Qst} {m : Int} {j : Nat} (h : pendB xs qs = true) (hj : wdN m qs qs.length = (j : Int)) : wdL xs qs m = qs.take j ∧ wdB xs qs m = true := by
  have h2 : wdB xs qs m = true := by unfold wdB; rw [h, hj]; simp
  exact ⟨by unfold wdL; rw [h2, hj]; rfl, h2⟩
theorem row_take_len {qs : List Qst} {j : Nat} (h : j ≤ qs.length) : (QuestionK.row (qs.take j)).length = j * 3 := by
  rw [QuestionK.row_len, List.length_take]
  show _ * 3 = _
  congr 1; omega
theorem qfit {qs : List Qst} : ∀ x ∈ qs, QuestionK.fit x := fun _ _ => trivial
set_option maxHeartbeats 1000000 in
theorem DropUnseconded_any (A : Option Addr) (c : Nat) (xs : List Rul) (D : Option Addr) (d : Nat) (qs : List Qst) (w : World) (h : PA w A c xs D d qs) :
    Calls Try.prog 13 #[.slice A xs.length c, .slice D qs.length d] w (ToLB QuestionK 32 w (dropL xs qs) (pendB xs qs)) := by
  have HP := Lib.hid h
  have hqm := h.qm
  have hqc := h.qc
  clear h
  go_enter Try.func13, Try.ntmps13
  go_wp2_with fail
  refine (pend_any HP.out).mono ?_
  rintro e w1 ⟨rfl, hb⟩
  have HB := Lib.hid hb
  clear hb
  rcases Bool.eq_false_or_eq_true (pendB xs qs) with hr | hr
  all_goals have HRT := Lib.hid hr
  · rw [hr]
    go_wp2_with (at_builtin; go_must (refine list_append_lit elQst _ rfl _ _ rfl w.heap.size _ _ qs.length _ (QuestionK.row qs) rfl rfl (QuestionK.row_len qs) (own_nil_lit _ _ _ _ _ (by simp) (by first | exact HB.out.size | (have := HB.out.size; simp; omega))) ((HP.out.below HB.out).qa.alloc_ _) qst_one (by have := HB.out.size; simp; omega) (by omega) ?_); intro O oc w2 own hb hq; have HO := Lib.hid own; have HB2 := Lib.hid (HB.out.trans ((bmono hb).mono HB.out.size)); clear own hb hq)
    refine (lacks_any A c xs D d qs _ (HP.out.below HB2.out)).mono ?_
    rintro e w3 ⟨rfl, hb⟩
    have HO3 := Lib.hid (own_keep HO.out hb)
    have HB3 := Lib.hid (HB2.out.trans (hb.mono HB2.out.size))
    clear hb
    rcases Bool.eq_false_or_eq_true (lkB xs qs) with hl | hl
    · have HD := Lib.hid (show dropL xs qs = qs.take (qs.length - 1) by unfold dropL dropN; rw [hr, hl]; rfl)
      have h0 : 0 < qs.length := by
        rcases Nat.eq_zero_or_pos qs.length with h | h
        · rw [lkB_nil h] at hl; cases hl
        · exact h
      have t1 : IntKind.i64.wrap ((qs.length : Int) - 1) = (qs.length : Int) - 1 := by rw [IntKind.wrap_i64]; omega
      have t2 : ((qs.length : Int) - 1).toNat = qs.length - 1 := by omega
      have t3 : (0 : Int) ≤ (qs.length : Int) - 1 := by omega
      have t6 := own_cap HO.out
      have t4 : (qs.length : Int) - 1 ≤ (oc : Int) := by omega
      have t7 : (1 : Int) ≤ (qs.length : Int) := by omega
      have t8 : qs.length - 1 ≤ oc := by omega
      rw [hl]
      clear hr
      go_wp2
      go_ret2
      refine ToLB.own_ (ys := qs.take (qs.length - 1)) (by rw [QuestionK.row_take]; exact own_prefix HO3.out (by omega)) HD.out (by rw [List.length_take]; omega) (by rw [List.length_take]; omega) qfit HRT.out HB3.out
    · have HD := Lib.hid (show dropL xs qs = qs by unfold dropL dropN; rw [hr, hl]; simp)
      rw [hl]
      clear hr
      go_wp2
      go_ret2
      exact ToLB.own_ HO3.out HD.out rfl (by omega) qfit HRT.out HB3.out
  · have HD := Lib.hid (show dropL xs qs = [] by unfold dropL; rw [hr]; rfl)
    rw [hr]
    go_wp2
    go_ret2
    exact ToLB.none_ HD.out HRT.out HB.out
set_option maxHeartbeats 1000000 in
theorem sDropUnseconded_any (A : Option Addr) (c : Nat) (xs : List Rul) (D : Option Addr) (d : Nat) (qs : List Qst) (w : World) (h : PA w A c xs D d qs) :
    Calls Try.prog 18 #[.slice A xs.length c, .slice D qs.length d] w (ToLB QuestionK 32 w (dropL xs qs) (pendB xs qs)) := by
  have HP := Lib.hid h
  have hqm := h.qm
  have hqc := h.qc
  clear h
  go_enter Try.func18, Try.ntmps18
  go_wp2_with fail
  refine (good_any HP.out).mono ?_
  rintro e w1 ⟨rfl, hb⟩
  have HB := Lib.hid hb
  clear hb
  rcases Bool.eq_false_or_eq_true (pendB xs qs) with hr | hr
  all_goals have HRT := Lib.hid hr
  · rw [hr]
    by_cases h0 : 0 < qs.length
    · obtain ⟨a, rfl, p0, p1, p2⟩ := question_at (HP.out.below HB.out).qa (show qs.length - 1 < qs.length by omega)
      have t1 : IntKind.i64.wrap ((qs.length : Int) - 1) = (qs.length : Int) - 1 := by rw [IntKind.wrap_i64]; omega
      have t2 : ((qs.length : Int) - 1).toNat = qs.length - 1 := by omega
      have t3 : (0 : Int) ≤ (qs.length : Int) - 1 := by omega
      have t4 : (qs.length : Int) - 1 < (qs.length : Int) := by omega
      have t5 : decide (0 < qs.length) = true := decide_eq_true (by omega)
      have t7 : (1 : Int) ≤ (qs.length : Int) := by omega
      have t8 : (qs.length : Int) - 1 ≤ (d : Int) := by omega
      have t9 : (qs.length : Int) ≤ (d : Int) := by omega
      have HIX := Lib.hid (pend_ix hr (show qs.length - 1 < qs.length by omega))
      have HL := Lib.hid (lkB_pos hr h0)
      obtain ⟨p, hp⟩ : ∃ p, Hid (qs[qs.length - 1] = p) := ⟨_, Lib.hid rfl⟩
      rw [hp.out] at p0 p1 p2 HIX HL
      rcases Bool.eq_false_or_eq_true (lackB xs p) with hl | hl
      · have HD := Lib.hid (show dropL xs qs = qs.take (qs.length - 1) by unfold dropL dropN; rw [hr, HL.out, hl]; rfl)
        clear hr
        go_wp2_with fail
        refine (l7Lacks_at A c xs p _ (HP.out.below HB.out).ra HP.out.rm HIX.out).mono ?_
        rintro e w2 ⟨rfl, hb⟩
        rw [hl]
        have HB2 := Lib.hid (HB.out.trans (hb.mono HB.out.size))
        clear hb p0 p1 p2
        go_wp2_with (at_builtin; go_must (refine list_append_lit elQst _ rfl _ _ rfl w.heap.size _ _ (qs.length - 1) _ (QuestionK.row (qs.take (qs.length - 1))) rfl rfl (row_take_len (by omega)) (own_nil_lit _ _ _ _ _ (by simp) (by first | exact HB2.out.size | (have := HB2.out.size; simp; omega))) (rows_take QuestionK ((HP.out.below HB2.out).qa.alloc_ _)) qst_one (by have := HB2.out.size; simp; omega) (by omega) ?_); intro O oc w3 own hb hq; have HO := Lib.hid own; have HB3 := Lib.hid (HB2.out.trans ((bmono hb).mono HB2.out.size)); clear own hb hq)
        go_ret2
        exact ToLB.own_ (ys := qs.take (qs.length - 1)) HO.out HD.out (by rw [List.length_take]; omega) (by rw [List.length_take]; omega) qfit HRT.out HB3.out
      · have HD := Lib.hid (show dropL xs qs = qs.take qs.length by unfold dropL dropN; rw [hr, HL.out, hl]; simp)
        clear hr
        go_wp2_with fail
        refine (l7Lacks_at A c xs p _ (HP.out.below HB.out).ra HP.out.rm HIX.out).mono ?_
        rintro e w2 ⟨rfl, hb⟩
        rw [hl]
        have HB2 := Lib.hid (HB.out.trans (hb.mono HB.out.size))
        clear hb p0 p1 p2
        go_wp2_with (at_builtin; go_must (refine list_append_lit elQst _ rfl _ _ rfl w.heap.size _ _ qs.length _ (QuestionK.row (qs.take qs.length)) rfl rfl (row_take_len (by omega)) (own_nil_lit _ _ _ _ _ (by simp) (by first | exact HB2.out.size | (have := HB2.out.size; simp; omega))) (rows_take QuestionK ((HP.out.below HB2.out).qa.alloc_ _)) qst_one (by have := HB2.out.size; simp; omega) (by omega) ?_); intro O oc w3 own hb hq; have HO := Lib.hid own; have HB3 := Lib.hid (HB2.out.trans ((bmono hb).mono HB2.out.size)); clear own hb hq)
        go_ret2
        exact ToLB.own_ (ys := qs.take qs.length) HO.out HD.out (by rw [List.length_take]; omega) (by rw [List.length_take]; omega) qfit HRT.out HB3.out
    · have h1 : qs.length = 0 := by omega
      have h2 : qs = [] := List.eq_nil_of_length_eq_zero h1
      have HD := Lib.hid (show dropL xs qs = [] by unfold dropL dropN; rw [hr, h2]; simp)
      have t5 : decide (0 < qs.length) = false := decide_eq_false (by omega)
      have t9 : (qs.length : Int) ≤ (d : Int) := by omega
      clear hr h2
      go_wp2_with (at_builtin; go_must (refine list_append_lit elQst _ rfl _ _ rfl w.heap.size _ _ 0 _ (QuestionK.row ([] : List Qst)) rfl rfl rfl (own_nil_lit _ _ _ _ _ (by simp) (by first | exact HB.out.size | (have := HB.out.size; simp; omega))) Cells.nil_ qst_one (by have := HB.out.size; simp; omega) (by omega) ?_); intro O oc w2 own hb hq; have HO := Lib.hid own; have HB2 := Lib.hid (HB.out.trans ((bmono hb).mono HB.out.size)); clear own hb hq)
      go_ret2
      exact ToLB.own_ (ys := []) HO.out HD.out rfl (by simp) (by simp) HRT.out HB2.out
  · have HD := Lib.hid (show dropL xs qs = [] by unfold dropL; rw [hr]; rfl)
    rw [hr]
    go_wp2
    go_ret2
    refine ToLB.own_ (ys := []) (own_nil_lit _ _ _ _ _ (by simp) HB.out.size) HD.out rfl (by simp) (by simp) HRT.out (HB.out.trans (((Below.refl _ _).alloc (Nat.le_refl _) _).mono HB.out.size))
set_option maxHeartbeats 2000000 in
theorem WithdrawQuestion_any (A : Option Addr) (c : Nat) (xs : List Rul) (D : Option Addr) (d : Nat) (qs : List Qst) (m : Int) (w : World) (h : PA w A c xs D d qs) :
    Calls Try.prog 32 #[.slice A xs.length c, .slice D qs.length d, .int .i64 m] w (ToLB QuestionK 32 w (wdL xs qs m) (wdB xs qs m)) := by
  have HP := Lib.hid h
  have hqm := h.qm
  have hqc := h.qc
  clear h
  go_enter Try.func32, Try.ntmps32
  go_wp2_with fail
  refine (pend_any HP.out).mono ?_
  rintro e w1 ⟨rfl, hb⟩
  have HB := Lib.hid hb
  clear hb
  rcases Bool.eq_false_or_eq_true (pendB xs qs) with hr | hr
  all_goals have HRT := Lib.hid hr
  · rw [hr]
    rcases Bool.eq_false_or_eq_true (memB m) with hm | hm
    · have l1 : IntKind.i64.wrap ((qs.length : Int) - 1) = (qs.length : Int) - 1 := by rw [IntKind.wrap_i64]; omega
      go_wp2_with (go_at_call 71; refine (isMember_any m _).mono ?_; rintro e w2 ⟨rfl, rfl⟩; rw [hm])
      go_loopw [8] (fun i wr => ∃ k : Nat, k ≤ qs.length ∧ i = .int .i64 ((k : Int) - 1) ∧ Hid (wdN m qs qs.length = wdN m qs k) ∧ Below w.heap.size w wr) (fun i _ => (intOf i + 1).toNat)
      case atStart => exact ⟨qs.length, Nat.le_refl _, rfl, rfl, HB.out⟩
      case round =>
        obtain ⟨k, hk, hi, hq, hB⟩ := hrel
        have HBr := Lib.hid hB
        clear hB
        rcases k with _ | j
        · obtain rfl : _ = Value.int .i64 (-1) := hi
          have HN := Lib.hid (wd_neg (xs := xs) hq.out)
          go_wp2
          go_ret2
          exact ToLB.none_ HN.out.1 HN.out.2 HBr.out
        · obtain rfl : _ = Value.int .i64 (j : Int) := hi.trans (by congr 1; omega)
          obtain ⟨a, rfl, p0, p1, p2⟩ := question_at (HP.out.below HBr.out).qa (show j < qs.length by omega)
          have j1 : (j : Int) < (qs.length : Int) := by omega
          have j2 : (j : Int) ≤ (d : Int) := by omega
          have j3 : IntKind.i64.wrap ((j : Int) - 1) = (j : Int) - 1 := by rw [IntKind.wrap_i64]; omega
          have hh := Lib.hid (wdN_hit (m := m) (qs := qs) (j := j) (by omega))
          have hmi := Lib.hid (wdN_miss (m := m) (qs := qs) (j := j) (by omega))
          obtain ⟨p, hp⟩ : ∃ p, Hid (qs[j] = p) := ⟨_, Lib.hid rfl⟩
          rw [hp.out] at p0 p1 p2 hh hmi
          clear p0 p2 hi
          rcases Bool.eq_false_or_eq_true (p.m == m) with he | he
          · have HY := Lib.hid (wd_yes (xs := xs) hr (hq.out.trans (hh.out he)))
            clear hq hh hmi hr
            go_wp2_with (at_builtin; go_must (refine list_append_lit elQst _ rfl _ _ rfl w.heap.size _ _ j _ (QuestionK.row (qs.take j)) rfl rfl (row_take_len (by omega)) (own_nil_lit _ _ _ _ _ (by simp) (by first | exact HBr.out.size | (have := HBr.out.size; simp; omega))) (rows_take QuestionK ((HP.out.below HBr.out).qa.alloc_ _)) qst_one (by have := HBr.out.size; simp; omega) (by omega) ?_); intro O oc w3 own hb hq; have HO := Lib.hid own; have HB3 := Lib.hid (HBr.out.trans ((bmono hb).mono HBr.out.size)); clear own hb hq)
            go_ret2
            exact ToLB.own_ (ys := qs.take j) HO.out HY.out.1 (by rw [List.length_take]; omega) (by rw [List.length_take]; omega) qfit HY.out.2 HB3.out
          · have HA := Lib.hid (hq.out.trans (hmi.out he))
            clear hq hh hmi hr
            go_wp2
            go_roundw
            case rel => exact ⟨j, by omega, rfl, HA.out, HBr.out⟩
            case measure => simp [intOf]; try omega
    · have HN := Lib.hid (wd_neg (xs := xs) (wdN_out hr hm qs.length (Nat.le_refl _)))
      go_wp2_with (go_at_call 71; refine (isMember_any m _).mono ?_; rintro e w2 ⟨rfl, rfl⟩; rw [hm])
      go_ret2
      exact ToLB.none_ HN.out.1 HN.out.2 HB.out
  · have HN := Lib.hid (wd_no (m := m) hr)
    rw [hr]
    go_wp2
    go_ret2
    exact ToLB.none_ HN.out.1 HN.out.2 HB.out
set_option maxHeartbeats 2000000 in
theorem sWithdrawQuestion_any (A : Option Addr) (c : Nat) (xs : List Rul) (D : Option Addr) (d : Nat) (qs : List Qst) (m : Int) (w : World) (h : PA w A c xs D d qs) :
    Calls Try.prog 35 #[.slice A xs.length c, .slice D qs.length d, .int .i64 m] w (ToLB QuestionK 32 w (wdL xs qs m) (wdB xs qs m)) := by
  have HP := Lib.hid h
  have hqm := h.qm
  have hqc := h.qc
  clear h
  go_enter Try.func35, Try.ntmps35
  go_wp2_with fail
  refine (good_any HP.out).mono ?_
  rintro e w1 ⟨rfl, hb⟩
  have HB := Lib.hid hb
  clear hb
  rcases Bool.eq_false_or_eq_true (pendB xs qs) with hr | hr
  all_goals have HRT := Lib.hid hr
  · rw [hr]
    have l1 : IntKind.i64.wrap ((qs.length : Int) - 1) = (qs.length : Int) - 1 := by rw [IntKind.wrap_i64]; omega
    go_wp2
    go_loopw [8] (fun i wr => ∃ k : Nat, k ≤ qs.length ∧ i = .int .i64 ((k : Int) - 1) ∧ Hid (wdN m qs qs.length = wdN m qs k) ∧ Below w.heap.size w wr) (fun i _ => (intOf i + 1).toNat)
    case atStart => exact ⟨qs.length, Nat.le_refl _, rfl, rfl, HB.out⟩
    case round =>
      obtain ⟨k, hk, hi, hq, hB⟩ := hrel
      have HBr := Lib.hid hB
      clear hB
      rcases k with _ | j
      · obtain rfl : _ = Value.int .i64 (-1) := hi
        have HN := Lib.hid (wd_neg (xs := xs) hq.out)
        go_wp2
        go_ret2
        exact ToLB.own_ (ys := []) (own_nil_lit _ _ _ _ _ (by simp) HBr.out.size) HN.out.1 rfl (by simp) (by simp) HN.out.2 (HBr.out.trans (((Below.refl _ _).alloc (Nat.le_refl _) _).mono HBr.out.size))
      · obtain rfl : _ = Value.int .i64 (j : Int) := hi.trans (by congr 1; omega)
        obtain ⟨a, rfl, p0, p1, p2⟩ := question_at (HP.out.below HBr.out).qa (show j < qs.length by omega)
        have j1 : (j : Int) < (qs.length : Int) := by omega
        have j2 : (j : Int) ≤ (d : Int) := by omega
        have j3 : IntKind.i64.wrap ((j : Int) - 1) = (j : Int) - 1 := by rw [IntKind.wrap_i64]; omega
        have hh := Lib.hid (wdN_hit (m := m) (qs := qs) (j := j) (by omega))
        have hmi := Lib.hid (wdN_miss (m := m) (qs := qs) (j := j) (by omega))
        obtain ⟨p, hp⟩ : ∃ p, Hid (qs[j] = p) := ⟨_, Lib.hid rfl⟩
        rw [hp.out] at p0 p1 p2 hh hmi
        clear p0 p2 hi
        rcases Bool.eq_false_or_eq_true (p.m == m) with he | he
        · have HY := Lib.hid (wd_yes (xs := xs) hr (hq.out.trans (hh.out he)))
          clear hq hh hmi hr
          go_wp2_with (at_builtin; go_must (refine list_append_lit elQst _ rfl _ _ rfl w.heap.size _ _ j _ (QuestionK.row (qs.take j)) rfl rfl (row_take_len (by omega)) (own_nil_lit _ _ _ _ _ (by simp) (by first | exact HBr.out.size | (have := HBr.out.size; simp; omega))) (rows_take QuestionK ((HP.out.below HBr.out).qa.alloc_ _)) qst_one (by have := HBr.out.size; simp; omega) (by omega) ?_); intro O oc w3 own hb hq; have HO := Lib.hid own; have HB3 := Lib.hid (HBr.out.trans ((bmono hb).mono HBr.out.size)); clear own hb hq)
          go_ret2
          exact ToLB.own_ (ys := qs.take j) HO.out HY.out.1 (by rw [List.length_take]; omega) (by rw [List.length_take]; omega) qfit HY.out.2 HB3.out
        · have HA := Lib.hid (hq.out.trans (hmi.out he))
          clear hq hh hmi hr
          go_wp2
          go_roundw
          case rel => exact ⟨j, by omega, rfl, HA.out, HBr.out⟩
          case measure => simp [intOf]; try omega
  · have HN := Lib.hid (wd_no (m := m) hr)
    rw [hr]
    go_wp2
    go_ret2
    exact ToLB.own_ (ys := []) (own_nil_lit _ _ _ _ _ (by simp) HB.out.size) HN.out.1 rfl (by simp) (by simp) HN.out.2 (HB.out.trans (((Below.refl _ _).alloc (Nat.le_refl _) _).mono HB.out.size))
end Go.Proofs.Ytifahgdalgjgfaa
