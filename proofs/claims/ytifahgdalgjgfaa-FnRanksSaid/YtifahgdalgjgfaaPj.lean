/- MoveQuestion and SecondQuestion, in the program and in the reference. Conditions: the ranges named. -/
import Derived.Test.YtifahgdalgjgfaaPi
import Derived.Test.YtifahgdalgjgfaaHas
namespace Go.Proofs.Ytifahgdalgjgfaa
open Go.RowKit
set_option linter.unusedVariables false
def moveB (xs : List Rul) (qs : List Qst) (i m : Int) : Bool := pendB xs qs && memB m && hasB i (mayL xs qs)
def moveL (xs : List Rul) (qs : List Qst) (i m : Int) : List Qst := if moveB xs qs i m then qs ++ [⟨i, m, false⟩] else []
theorem cells_three (w : World) (v0 v1 v2 : Value) (t : TypeId) (g : Nat) (hg : g = w.heap.size) : Cells (w.alloc (.cells #[v0, v1, v2] t)) (some ⟨g, 0, none⟩) [v0, v1, v2] := fun i u hi => by
  subst hg
  refine ⟨_, rfl, ?_⟩
  rw [add_head]
  refine (World.cell?_alloc_new w #[v0, v1, v2] t i).trans ?_
  simpa using hi
theorem move_no {xs : List Rul} {qs : List Qst} {i m : Int} (h : moveB xs qs i m = false) : moveL xs qs i m = [] ∧ moveB xs qs i m = false := ⟨by unfold moveL; rw [h]; rfl, h⟩
theorem qfit' {qs : List Qst} : ∀ x ∈ qs, QuestionK.fit x := fun _ _ => trivial
set_option maxHeartbeats 1000000 in
theorem MoveQuestion_any (A : Option Addr) (c : Nat) (xs : List Rul) (D : Option Addr) (d : Nat) (qs : List Qst) (i m : Int) (w : World) (h : PA w A c xs D d qs) :
    Calls Try.prog 24 #[.slice A xs.length c, .slice D qs.length d, .int .i64 i, .int .i64 m] w (ToLB QuestionK 32 w (moveL xs qs i m) (moveB xs qs i m)) := by
  have HP := Lib.hid h
  have hqm := h.qm
  have hrm := h.rm
  clear h
  go_enter Try.func24, Try.ntmps24
  go_wp2_with fail
  refine (pend_any HP.out).mono ?_
  rintro e w1 ⟨rfl, hb⟩
  have HB := Lib.hid hb
  clear hb
  rcases Bool.eq_false_or_eq_true (pendB xs qs) with hr | hr
  all_goals have HRT := Lib.hid hr
  · rw [hr]
    have h6 := pend_six hr
    clear hr
    rcases Bool.eq_false_or_eq_true (memB m) with hm | hm
    · go_wp2_with fail
      refine (isMember_any m _).mono ?_
      rintro e w2 ⟨rfl, rfl⟩
      rw [hm]
      go_wp2_with fail
      refine (mayBeMoved_any A c xs D d qs _ (HP.out.below HB.out) HRT.out).mono ?_
      rintro e w2 ⟨O, oc, rfl, own, hb⟩
      have HO := Lib.hid (Cells.of_own own.1)
      have HB2 := Lib.hid (HB.out.trans (hb.mono HB.out.size))
      clear own hb
      go_wp2_with fail
      refine (containsInt_any O _ oc (mayL xs qs) i _ rfl HO.out (Nat.le_trans may_le hrm)).mono ?_
      rintro e w3 ⟨rfl, rfl⟩
      rcases Bool.eq_false_or_eq_true (hasB i (mayL xs qs)) with hh | hh
      · have HN := Lib.hid (show moveB xs qs i m = true by unfold moveB; rw [HRT.out, hm, hh]; rfl)
        have HL := Lib.hid (show moveL xs qs i m = qs ++ [⟨i, m, false⟩] by unfold moveL; rw [HN.out]; rfl)
        rw [hh]
        clear hm hh HO
        go_wp2_with (first | (at_builtin; (refine list_append_lit elQst _ rfl _ _ rfl w.heap.size _ D _ _ (QuestionK.row qs) rfl rfl (QuestionK.row_len qs) (own_nil_lit _ _ _ _ _ (by simp) HB2.out.size) ((HP.out.below HB2.out).qa.alloc_ _) qst_one (by have hsx := HB2.out.size; simp; omega) (by omega) ?_); intro O2 oc2 w4 own hb hq; have HO2 := Lib.hid own; have HB4 := Lib.hid (HB2.out.trans ((bmono hb).mono HB2.out.size)); clear own hb hq) | (at_builtin; (refine list_append elQst _ rfl _ _ rfl w.heap.size O2 _ oc2 qs.length 1 1 (QuestionK.row qs) (QuestionK.row [⟨i, m, false⟩]) rfl rfl rfl (own_keep HO2.out ((Below.refl _ _).alloc (Nat.le_refl _) _)) (cells_three _ _ _ _ _ _ (by simp)) qst_one (by have hsx := HB4.out.size; simp; omega) (by omega) ?_); intro O3 oc3 w5 own hb; have HO3 := Lib.hid own; have HB5 := Lib.hid (HB4.out.trans ((((Below.refl _ _).alloc (Nat.le_refl _) _).mono HB4.out.size).trans hb)); clear own hb))
        go_ret2
        exact ToLB.own_ (ys := qs ++ [⟨i, m, false⟩]) (by rw [QuestionK.row_append]; exact HO3.out) HL.out (by simp) (by simp; omega) qfit' HN.out HB5.out
      · have HN := Lib.hid (move_no (show moveB xs qs i m = false by unfold moveB; rw [hh]; simp))
        rw [hh]
        go_wp2
        go_ret2
        exact ToLB.none_ HN.out.1 HN.out.2 HB2.out
    · have HN := Lib.hid (move_no (show moveB xs qs i m = false by unfold moveB; rw [hm]; simp))
      go_wp2_with (go_at_call 71; refine (isMember_any m _).mono ?_; rintro e w2 ⟨rfl, rfl⟩; rw [hm])
      go_ret2
      exact ToLB.none_ HN.out.1 HN.out.2 HB.out
  · have HN := Lib.hid (move_no (show moveB xs qs i m = false by unfold moveB; rw [hr]; rfl))
    rw [hr]
    clear hr
    go_wp2
    go_ret2
    exact ToLB.none_ HN.out.1 HN.out.2 HB.out
set_option maxHeartbeats 1000000 in
theorem sMoveQuestion_any (A : Option Addr) (c : Nat) (xs : List Rul) (D : Option Addr) (d : Nat) (qs : List Qst) (i m : Int) (w : World) (h : PA w A c xs D d qs) :
    Calls Try.prog 25 #[.slice A xs.length c, .slice D qs.length d, .int .i64 i, .int .i64 m] w (ToLB QuestionK 32 w (moveL xs qs i m) (moveB xs qs i m)) := by
  have HP := Lib.hid h
  have hqm := h.qm
  have hrm := h.rm
  clear h
  go_enter Try.func25, Try.ntmps25
  go_wp2_with fail
  refine (good_any HP.out).mono ?_
  rintro e w1 ⟨rfl, hb⟩
  have HB := Lib.hid hb
  clear hb
  rcases Bool.eq_false_or_eq_true (pendB xs qs) with hr | hr
  all_goals have HRT := Lib.hid hr
  · rw [hr]
    have h6 := pend_six hr
    clear hr
    rcases Bool.eq_false_or_eq_true (memB m) with hm | hm
    · go_wp2_with fail
      refine (l7Member_any m _).mono ?_
      rintro e w2 ⟨rfl, rfl⟩
      rw [hm]
      go_wp2_with fail
      refine (l7May_any A c xs D d qs _ (HP.out.below HB.out) HRT.out).mono ?_
      rintro e w2 ⟨O, oc, rfl, own, hb⟩
      have HO := Lib.hid (Cells.of_own own.1)
      have HB2 := Lib.hid (HB.out.trans (hb.mono HB.out.size))
      clear own hb
      go_wp2_with fail
      refine (l1Has_any O _ oc (mayL xs qs) i _ rfl HO.out (Nat.le_trans may_le hrm)).mono ?_
      rintro e w3 ⟨rfl, rfl⟩
      rcases Bool.eq_false_or_eq_true (hasB i (mayL xs qs)) with hh | hh
      · have HN := Lib.hid (show moveB xs qs i m = true by unfold moveB; rw [HRT.out, hm, hh]; rfl)
        have HL := Lib.hid (show moveL xs qs i m = qs ++ [⟨i, m, false⟩] by unfold moveL; rw [HN.out]; rfl)
        rw [hh]
        clear hm hh HO
        go_wp2_with (first | (at_builtin; (refine list_append_lit elQst _ rfl _ _ rfl w.heap.size _ D _ _ (QuestionK.row qs) rfl rfl (QuestionK.row_len qs) (own_nil_lit _ _ _ _ _ (by simp) HB2.out.size) ((HP.out.below HB2.out).qa.alloc_ _) qst_one (by have hsx := HB2.out.size; simp; omega) (by omega) ?_); intro O2 oc2 w4 own hb hq; have HO2 := Lib.hid own; have HB4 := Lib.hid (HB2.out.trans ((bmono hb).mono HB2.out.size)); clear own hb hq) | (at_builtin; (refine list_append elQst _ rfl _ _ rfl w.heap.size O2 _ oc2 qs.length 1 1 (QuestionK.row qs) (QuestionK.row [⟨i, m, false⟩]) rfl rfl rfl (own_keep HO2.out ((Below.refl _ _).alloc (Nat.le_refl _) _)) (cells_three _ _ _ _ _ _ (by simp)) qst_one (by have hsx := HB4.out.size; simp; omega) (by omega) ?_); intro O3 oc3 w5 own hb; have HO3 := Lib.hid own; have HB5 := Lib.hid (HB4.out.trans ((((Below.refl _ _).alloc (Nat.le_refl _) _).mono HB4.out.size).trans hb)); clear own hb))
        go_ret2
        exact ToLB.own_ (ys := qs ++ [⟨i, m, false⟩]) (by rw [QuestionK.row_append]; exact HO3.out) HL.out (by simp) (by simp; omega) qfit' HN.out HB5.out
      · have HN := Lib.hid (move_no (show moveB xs qs i m = false by unfold moveB; rw [hh]; simp))
        rw [hh]
        go_wp2
        go_ret2
        exact ToLB.own_ (ys := []) (own_nil_lit _ _ _ _ _ (by simp) HB2.out.size) HN.out.1 rfl (by simp) (by simp) HN.out.2 (HB2.out.trans (((Below.refl _ _).alloc (Nat.le_refl _) _).mono HB2.out.size))
    · have HN := Lib.hid (move_no (show moveB xs qs i m = false by unfold moveB; rw [hm]; simp))
      go_wp2_with (go_at_call 73; refine (l7Member_any m _).mono ?_; rintro e w2 ⟨rfl, rfl⟩; rw [hm])
      go_ret2
      exact ToLB.own_ (ys := []) (own_nil_lit _ _ _ _ _ (by simp) HB.out.size) HN.out.1 rfl (by simp) (by simp) HN.out.2 (HB.out.trans (((Below.refl _ _).alloc (Nat.le_refl _) _).mono HB.out.size))
  · have HN := Lib.hid (move_no (show moveB xs qs i m = false by unfold moveB; rw [hr]; rfl))
    rw [hr]
    clear hr
    go_wp2
    go_ret2
    exact ToLB.own_ (ys := []) (own_nil_lit _ _ _ _ _ (by simp) HB.out.size) HN.out.1 rfl (by simp) (by simp) HN.out.2 (HB.out.trans (((Below.refl _ _).alloc (Nat.le_refl _) _).mono HB.out.size))
def secB (xs : List Rul) (qs : List Qst) (m : Int) : Bool := lkB xs qs && memB m && !((qs.getD (qs.length - 1) noQst).m == m)
def sndL (qs : List Qst) : List Qst := qs.take (qs.length - 1) ++ [⟨(qs.getD (qs.length - 1) noQst).r, (qs.getD (qs.length - 1) noQst).m, true⟩]
def secL (xs : List Rul) (qs : List Qst) (m : Int) : List Qst := if secB xs qs m then sndL qs else []
theorem sec_no {xs : List Rul} {qs : List Qst} {m : Int} (h : secB xs qs m = false) : secL xs qs m = [] ∧ secB xs qs m = false := ⟨by unfold secL; rw [h]; rfl, h⟩
theorem sec_yes {xs : List Rul} {qs : List Qst} {m : Int} (h : secB xs qs m = true) : secL xs qs m = sndL qs ∧ secB xs qs m = true := ⟨by unfold secL; rw [h]; rfl, h⟩
theorem lkB_lt {xs : List Rul} {qs : List Qst} (h : lkB xs qs = true) : 0 < qs.length := by
  rcases Nat.eq_zero_or_pos qs.length with h1 | h1
  · rw [lkB_nil h1] at h; cases h
  · exact h1
theorem lkB_pend {xs : List Rul} {qs : List Qst} (h : lkB xs qs = true) : pendB xs qs = true := by
  unfold lkB at h
  simp only [Bool.and_eq_true] at h
  exact h.1.1
theorem sndL_len {qs : List Qst} (h : 0 < qs.length) : (sndL qs).length = qs.length := by unfold sndL; rw [List.length_append, List.length_take]; simp; omega
theorem row_split {qs : List Qst} (h : 0 < qs.length) : QuestionK.row qs = QuestionK.row (qs.take (qs.length - 1)) ++ [.int .i64 (qs[qs.length - 1]'(by omega)).r, .int .i64 (qs[qs.length - 1]'(by omega)).m, .bool (qs[qs.length - 1]'(by omega)).s] := by
  have h1 : qs = qs.take (qs.length - 1) ++ [qs[qs.length - 1]'(by omega)] := by
    conv => lhs; rw [← List.take_length (l := qs), show qs.length = (qs.length - 1) + 1 by omega]
    rw [List.take_succ_eq_append_getElem (show qs.length - 1 < qs.length by omega)]
  conv => lhs; rw [h1, QuestionK.row_append]
  rfl
theorem row_snd {qs : List Qst} (h : 0 < qs.length) : QuestionK.row (sndL qs) = QuestionK.row (qs.take (qs.length - 1)) ++ [.int .i64 (qs[qs.length - 1]'(by omega)).r, .int .i64 (qs[qs.length - 1]'(by omega)).m, .bool true] := by
  unfold sndL
  rw [QuestionK.row_append, getD_lt (show qs.length - 1 < qs.length by omega)]
  rfl
theorem snd_set {qs : List Qst} (h : 0 < qs.length) : (QuestionK.row qs).set ((qs.length - 1) * 3 + 2) (.bool true) = QuestionK.row (sndL qs) := by
  have hl : (QuestionK.row (qs.take (qs.length - 1))).length = (qs.length - 1) * 3 := by
    rw [QuestionK.row_len, List.length_take]; show _ * 3 = _; congr 1; omega
  rw [row_split h, row_snd h, List.set_append, if_neg (by omega), hl, show (qs.length - 1) * 3 + 2 - (qs.length - 1) * 3 = 2 by omega]
  rfl
theorem snd_set3 {qs : List Qst} (h : 0 < qs.length) : (((QuestionK.row qs).set ((qs.length - 1) * 3) (.int .i64 (qs[qs.length - 1]'(by omega)).r)).set ((qs.length - 1) * 3 + 1) (.int .i64 (qs[qs.length - 1]'(by omega)).m)).set ((qs.length - 1) * 3 + 2) (.bool true) = QuestionK.row (sndL qs) := by
  have hl : (QuestionK.row (qs.take (qs.length - 1))).length = (qs.length - 1) * 3 := by
    rw [QuestionK.row_len, List.length_take]; show _ * 3 = _; congr 1; omega
  rw [row_split h, row_snd h]
  rw [List.set_append, if_neg (by omega), hl, show (qs.length - 1) * 3 - (qs.length - 1) * 3 = 0 by omega]
  rw [List.set_append, if_neg (by omega), hl, show (qs.length - 1) * 3 + 1 - (qs.length - 1) * 3 = 1 by omega]
  rw [List.set_append, if_neg (by omega), hl, show (qs.length - 1) * 3 + 2 - (qs.length - 1) * 3 = 2 by omega]
  rfl
set_option maxHeartbeats 1000000 in
theorem SecondQuestion_any (A : Option Addr) (c : Nat) (xs : List Rul) (D : Option Addr) (d : Nat) (qs : List Qst) (m : Int) (w : World) (h : PA w A c xs D d qs) :
    Calls Try.prog 9 #[.slice A xs.length c, .slice D qs.length d, .int .i64 m] w (ToLB QuestionK 32 w (secL xs qs m) (secB xs qs m)) := by
  have HP := Lib.hid h
  have hqm := h.qm
  clear h
  go_enter Try.func9, Try.ntmps9
  go_wp2_with fail
  refine (lacks_any A c xs D d qs _ HP.out).mono ?_
  rintro e w1 ⟨rfl, hb⟩
  have HB := Lib.hid hb
  clear hb
  rcases Bool.eq_false_or_eq_true (lkB xs qs) with hr | hr
  all_goals have HRT := Lib.hid hr
  · rw [hr]
    have h0 := lkB_lt hr
    clear hr
    obtain ⟨a, rfl, p0, p1, p2⟩ := question_at (HP.out.below HB.out).qa (show qs.length - 1 < qs.length by omega)
    have t1 : IntKind.i64.wrap ((qs.length : Int) - 1) = (qs.length : Int) - 1 := by rw [IntKind.wrap_i64]; omega
    have t2 : ((qs.length : Int) - 1).toNat = qs.length - 1 := by omega
    have t3 : (0 : Int) ≤ (qs.length : Int) - 1 := by omega
    have t4 : (qs.length : Int) - 1 < (qs.length : Int) := by omega
    have t5 : decide (0 < qs.length) = true := decide_eq_true (by omega)
    have t7 : (1 : Int) ≤ (qs.length : Int) := by omega
    have e0 : ((qs.length : Int) == 0) = false := by rw [beq_eq_false_iff_ne]; omega
    have e1 : (qs.length == 0) = false := by rw [beq_eq_false_iff_ne]; omega
    rcases Bool.eq_false_or_eq_true (memB m) with hm | hm
    · have HSB := Lib.hid (show secB xs qs m = !((qs[qs.length - 1]'(by omega)).m == m) by unfold secB; rw [HRT.out, hm, getD_lt (show qs.length - 1 < qs.length by omega)]; rfl)
      have HSET := Lib.hid (snd_set h0)
      obtain ⟨p, hp⟩ : ∃ p, Hid (qs[qs.length - 1]'(by omega) = p) := ⟨_, Lib.hid rfl⟩
      rw [hp.out] at p0 p1 p2 HSB
      clear p0 p2
      go_wp2_with fail
      refine (isMember_any m _).mono ?_
      rintro e w2 ⟨rfl, rfl⟩
      rw [hm]
      rcases Bool.eq_false_or_eq_true (p.m == m) with he | he
      · have HN := Lib.hid (sec_no (show secB xs qs m = false by rw [HSB.out, he]; rfl))
        go_wp2
        go_ret2
        exact ToLB.none_ HN.out.1 HN.out.2 HB.out
      · have HN := Lib.hid (sec_yes (show secB xs qs m = true by rw [HSB.out, he]; rfl))
        go_wp2_with (at_builtin; go_must (refine list_append_lit elQst _ rfl _ _ rfl w.heap.size _ _ _ _ (QuestionK.row qs) rfl rfl (QuestionK.row_len qs) (own_nil_lit _ _ _ _ _ (by simp) HB.out.size) ((HP.out.below HB.out).qa.alloc_ _) qst_one (by have hsx := HB.out.size; simp; omega) (by omega) ?_); intro O oc w4 own hb hq; have HO := Lib.hid own; have HB4 := Lib.hid (HB.out.trans ((bmono hb).mono HB.out.size)); clear own hb hq p1; obtain ⟨g, cap, hv, hbg, hgl⟩ := HO.out.form (by omega); obtain ⟨rfl, _, rfl⟩ : O = some ⟨g, 0, none⟩ ∧ qs.length = qs.length ∧ oc = cap := (by simpa using hv); clear hv; obtain ⟨u0, g0⟩ := own_cell HO.out (j := (qs.length - 1) * 3) (by omega); have z0 := HO.out.frozenAt ((qs.length - 1) * 3); obtain ⟨u1, g1⟩ := own_cell HO.out (j := (qs.length - 1) * 3 + 1) (by omega); have z1 := HO.out.frozenAt ((qs.length - 1) * 3 + 1); obtain ⟨u2, g2⟩ := own_cell HO.out (j := (qs.length - 1) * 3 + 2) (by omega); have z2 := HO.out.frozenAt ((qs.length - 1) * 3 + 2))
        go_ret2
        have hst := HO.out.stored ((qs.length - 1) * 3 + 2) (.bool true)
        rw [HSET.out] at hst
        exact ToLB.own_ (ys := sndL qs) hst.1 HN.out.1 (sndL_len h0).symm (by rw [sndL_len h0]; omega) qfit' HN.out.2 (HB4.out.trans (below_of_grownBy hst.2 HB4.out.size (fun g hg => (HO.out.lt g hg).1)))
    · have HN := Lib.hid (sec_no (show secB xs qs m = false by unfold secB; rw [hm]; simp))
      go_wp2_with (go_at_call 71; refine (isMember_any m _).mono ?_; rintro e w2 ⟨rfl, rfl⟩; rw [hm])
      go_ret2
      exact ToLB.none_ HN.out.1 HN.out.2 HB.out
  · have HN := Lib.hid (sec_no (show secB xs qs m = false by unfold secB; rw [hr]; rfl))
    rw [hr]
    clear hr
    go_wp2
    go_ret2
    exact ToLB.none_ HN.out.1 HN.out.2 HB.out
set_option maxHeartbeats 2000000 in
theorem sSecondQuestion_any (A : Option Addr) (c : Nat) (xs : List Rul) (D : Option Addr) (d : Nat) (qs : List Qst) (m : Int) (w : World) (h : PA w A c xs D d qs) :
    Calls Try.prog 10 #[.slice A xs.length c, .slice D qs.length d, .int .i64 m] w (ToLB QuestionK 32 w (secL xs qs m) (secB xs qs m)) := by
  have HP := Lib.hid h
  have hqm := h.qm
  clear h
  rcases Nat.eq_zero_or_pos qs.length with h0 | h0
  · have HN := Lib.hid (sec_no (m := m) (show secB xs qs m = false by unfold secB; rw [lkB_nil h0]; rfl))
    have h1 : qs = [] := List.eq_nil_of_length_eq_zero h0
    subst h1
    clear h0 hqm
    go_enter Try.func10, Try.ntmps10
    go_wp2_with fail
    refine (good_any HP.out).mono ?_
    rintro e w1 ⟨rfl, hb⟩
    have HB := Lib.hid hb
    clear hb
    rcases Bool.eq_false_or_eq_true (pendB xs []) with hr | hr <;> rcases Bool.eq_false_or_eq_true (memB m) with hm | hm
    all_goals
      rw [hr]
      go_wp2_with (go_at_call 73; refine (l7Member_any m _).mono ?_; rintro e w2 ⟨rfl, rfl⟩; rw [hm])
      go_ret2
      exact ToLB.own_ (ys := []) (own_nil_lit _ _ _ _ _ (by simp) HB.out.size) HN.out.1 rfl (by simp) (by simp) HN.out.2 (HB.out.trans (((Below.refl _ _).alloc (Nat.le_refl _) _).mono HB.out.size))
  · have t1 : IntKind.i64.wrap ((qs.length : Int) - 1) = (qs.length : Int) - 1 := by rw [IntKind.wrap_i64]; omega
    have t2 : ((qs.length : Int) - 1).toNat = qs.length - 1 := by omega
    have t3 : (0 : Int) ≤ (qs.length : Int) - 1 := by omega
    have t4 : (qs.length : Int) - 1 < (qs.length : Int) := by omega
    have t5 : decide (0 < qs.length) = true := decide_eq_true (by omega)
    have t7 : (1 : Int) ≤ (qs.length : Int) := by omega
    have e0 : ((qs.length : Int) == 0) = false := by rw [beq_eq_false_iff_ne]; omega
    have e1 : (qs.length == 0) = false := by rw [beq_eq_false_iff_ne]; omega
    go_enter Try.func10, Try.ntmps10
    go_wp2_with fail
    refine (good_any HP.out).mono ?_
    rintro e w1 ⟨rfl, hb⟩
    have HB := Lib.hid hb
    clear hb
    rcases Bool.eq_false_or_eq_true (pendB xs qs) with hr | hr
    · rw [hr]
      rcases Bool.eq_false_or_eq_true (memB m) with hm | hm
      · obtain ⟨a, rfl, p0, p1, p2⟩ := question_at (HP.out.below HB.out).qa (show qs.length - 1 < qs.length by omega)
        have HIX := Lib.hid (pend_ix hr (show qs.length - 1 < qs.length by omega))
        have HLK := Lib.hid (lkB_pos hr h0)
        have HSB := Lib.hid (show secB xs qs m = (lkB xs qs && !((qs[qs.length - 1]'(by omega)).m == m)) by unfold secB; rw [hm, getD_lt (show qs.length - 1 < qs.length by omega)]; simp)
        have HSET := Lib.hid (snd_set3 h0)
        have HPL := Lib.hid (fun (w0 : World) (O : Option Addr) (h : Cells w0 O (QuestionK.row qs)) => question_at h (show qs.length - 1 < qs.length by omega))
        obtain ⟨p, hp⟩ : ∃ p, Hid (qs[qs.length - 1]'(by omega) = p) := ⟨_, Lib.hid rfl⟩
        rw [hp.out] at p0 p1 p2 HSB HIX HLK HSET
        rw [HLK.out] at HSB
        clear hr
        go_wp2_with fail
        refine (l7Member_any m _).mono ?_
        rintro e w2 ⟨rfl, rfl⟩
        rw [hm]
        go_wp2_with fail
        refine (l7Lacks_at _ c xs p _ (HP.out.below HB.out).ra HP.out.rm HIX.out).mono ?_
        rintro e w2 ⟨rfl, hb⟩
        have p1 := (hb.cell (World.block_lt_of_cell? _ _ p1)).trans p1
        have HB2 := Lib.hid (HB.out.trans (hb.mono HB.out.size))
        clear p0 p2 hb
        rcases Bool.eq_false_or_eq_true (lackB xs p) with hl | hl
        · rw [hl]
          rcases Bool.eq_false_or_eq_true (p.m == m) with he | he
          · have HN := Lib.hid (sec_no (show secB xs qs m = false by rw [HSB.out, hl, he]; rfl))
            go_wp2
            go_ret2
            exact ToLB.own_ (ys := []) (own_nil_lit _ _ _ _ _ (by simp) HB2.out.size) HN.out.1 rfl (by simp) (by simp) HN.out.2 (HB2.out.trans (((Below.refl _ _).alloc (Nat.le_refl _) _).mono HB2.out.size))
          · have HN := Lib.hid (sec_yes (show secB xs qs m = true by rw [HSB.out, hl, he]; rfl))
            go_wp2_with (at_builtin; go_must (refine list_append_lit elQst _ rfl _ _ rfl w.heap.size _ _ _ _ (QuestionK.row qs) rfl rfl (QuestionK.row_len qs) (own_nil_lit _ _ _ _ _ (by simp) HB2.out.size) ((HP.out.below HB2.out).qa.alloc_ _) qst_one (by have hsx := HB2.out.size; simp; omega) (by omega) ?_); intro O oc w4 own hb hq; have HO := Lib.hid own; have HB4 := Lib.hid (HB2.out.trans ((bmono hb).mono HB2.out.size)); clear own hb hq p1; obtain ⟨g, cap, hv, hbg, hgl⟩ := HO.out.form (by omega); obtain ⟨rfl, _, rfl⟩ : O = some ⟨g, 0, none⟩ ∧ qs.length = qs.length ∧ oc = cap := (by simpa using hv); clear hv; obtain ⟨b4, hb4, r0, r1, r2⟩ := HPL.out w4 _ (Cells.of_own HO.out); obtain rfl : _ = b4 := (by simpa using hb4); rw [hp.out] at r0 r1 r2; simp only [add_head] at r0 r1 r2; clear hb4; have z0 := HO.out.frozenAt ((qs.length - 1) * 3); have z1 := HO.out.frozenAt ((qs.length - 1) * 3 + 1); have z2 := HO.out.frozenAt ((qs.length - 1) * 3 + 2))
            have h1 := HO.out.stored ((qs.length - 1) * 3) (.int .i64 p.r)
            have h2 := h1.1.stored ((qs.length - 1) * 3 + 1) (.int .i64 p.m)
            have h3 := h2.1.stored ((qs.length - 1) * 3 + 2) (.bool true)
            rw [HSET.out] at h3
            have hG := below_of_grownBy (grownBy_trans (grownBy_trans h1.2 h2.2) h3.2) HB4.out.size (fun g hg => (HO.out.lt g hg).1)
            have hT := HB4.out.trans hG
            go_ret2
            exact ToLB.own_ (ys := sndL qs) (own_keep h3.1 (below1 _ _)) HN.out.1 (sndL_len h0).symm (by rw [sndL_len h0]; omega) qfit' HN.out.2 (hT.trans ((below1 _ _).mono hT.size))
        · rw [hl]
          have HN := Lib.hid (sec_no (show secB xs qs m = false by rw [HSB.out, hl]; rfl))
          go_wp2
          go_ret2
          exact ToLB.own_ (ys := []) (own_nil_lit _ _ _ _ _ (by simp) HB2.out.size) HN.out.1 rfl (by simp) (by simp) HN.out.2 (HB2.out.trans (((Below.refl _ _).alloc (Nat.le_refl _) _).mono HB2.out.size))
      · have HN := Lib.hid (sec_no (show secB xs qs m = false by unfold secB; rw [hm]; simp))
        go_wp2_with (go_at_call 73; refine (l7Member_any m _).mono ?_; rintro e w2 ⟨rfl, rfl⟩; rw [hm])
        go_ret2
        exact ToLB.own_ (ys := []) (own_nil_lit _ _ _ _ _ (by simp) HB.out.size) HN.out.1 rfl (by simp) (by simp) HN.out.2 (HB.out.trans (((Below.refl _ _).alloc (Nat.le_refl _) _).mono HB.out.size))
    · have HN := Lib.hid (sec_no (m := m) (show secB xs qs m = false by unfold secB; rw [lkB_no hr]; rfl))
      rw [hr]
      clear hr
      go_wp2
      go_ret2
      exact ToLB.own_ (ys := []) (own_nil_lit _ _ _ _ _ (by simp) HB.out.size) HN.out.1 rfl (by simp) (by simp) HN.out.2 (HB.out.trans (((Below.refl _ _).alloc (Nat.le_refl _) _).mono HB.out.size))
end Go.Proofs.Ytifahgdalgjgfaa
