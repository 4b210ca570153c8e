/- The plain laws of seconds: a question that is seconded, disposed of, dropped. No program is named here. Conditions: none. -/
import Derived.Test.YtifahgdalgjgfaaPk
import Derived.Test.YtifahgdalgjgfaaPg
import Derived.Test.YtifahgdalgjgfaaPh
import Derived.Test.YtifahgdalgjgfaaPj
namespace Go.Proofs.Ytifahgdalgjgfaa
open Go.RowKit
set_option linter.unusedVariables false
theorem getD_take {qs : List Qst} {k i : Nat} (h : i < k) (z : Qst) : (qs.take k).getD i z = qs.getD i z := by
  rw [List.getD_eq_getElem?_getD, List.getD_eq_getElem?_getD, List.getElem?_take, if_pos h]
theorem okQ_take {rs : List Rul} {qs : List Qst} {k i : Nat} (h : i < k) : okQ rs (qs.take k) i = okQ rs qs i := by
  unfold okQ
  rw [getD_take h, getD_take (show i - 1 < k by omega)]
theorem pend_take {rs : List Rul} {qs : List Qst} (h : pendB rs qs = true) (k : Nat) : pendB rs (qs.take k) = true := by
  unfold pendB at h ⊢
  simp only [Bool.and_eq_true, decide_eq_true_eq] at h ⊢
  have hl : (qs.take k).length ≤ qs.length := by rw [List.length_take]; omega
  refine ⟨⟨h.1.1, by omega⟩, allN_yes.2 fun i hi => ?_⟩
  rw [List.length_take] at hi
  rw [okQ_take (by omega)]
  exact allN_yes.1 h.2 i (by omega)
theorem snd_getD {qs : List Qst} {i : Nat} (h : i < qs.length - 1) : (sndL qs).getD i noQst = qs.getD i noQst := by
  unfold sndL
  rw [List.getD_eq_getElem?_getD, List.getD_eq_getElem?_getD, List.getElem?_append_left (by rw [List.length_take]; omega), List.getElem?_take, if_pos h]
  exact (List.getD_eq_getElem?_getD ..).symm
theorem snd_last {qs : List Qst} (h : 0 < qs.length) : (sndL qs).getD (qs.length - 1) noQst = ⟨(qs.getD (qs.length - 1) noQst).r, (qs.getD (qs.length - 1) noQst).m, true⟩ := by
  unfold sndL
  rw [List.getD_eq_getElem?_getD, List.getElem?_append_right (by rw [List.length_take]; omega), List.length_take, Nat.min_eq_left (by omega), Nat.sub_self]
  rfl
theorem ruleAt_r {rs : List Rul} {q p : Qst} (h : q.r = p.r) : ruleAt rs q = ruleAt rs p := by unfold ruleAt; rw [h]
theorem snd_take {qs : List Qst} (h : 0 < qs.length) : (sndL qs).take (qs.length - 1) = qs.take (qs.length - 1) := by
  unfold sndL
  rw [List.take_append_of_le_length (by rw [List.length_take]; omega), List.take_take, Nat.min_self]
theorem snd_pend {xs : List Rul} {qs : List Qst} (h : lkB xs qs = true) : pendB xs (sndL qs) = true := by
  have h0 := lkB_lt h
  have hp := lkB_pend h
  have hl : lackB xs (qs.getD (qs.length - 1) noQst) = true := by
    unfold lkB at h
    simp only [Bool.and_eq_true] at h
    exact h.2
  unfold lackB at hl
  simp only [Bool.and_eq_true] at hl
  unfold pendB at hp ⊢
  simp only [Bool.and_eq_true, decide_eq_true_eq] at hp ⊢
  rw [sndL_len h0]
  refine ⟨hp.1, allN_yes.2 fun i hi => ?_⟩
  have h1 := allN_yes.1 hp.2 i hi
  rcases Nat.lt_or_ge i (qs.length - 1) with h2 | h2
  · unfold okQ at h1 ⊢
    rw [snd_getD h2, snd_getD (show i - 1 < qs.length - 1 by omega)]
    exact h1
  · obtain rfl : i = qs.length - 1 := by omega
    unfold okQ at h1 ⊢
    rw [snd_last h0]
    rw [ruleAt_r (q := ⟨(qs.getD (qs.length - 1) noQst).r, (qs.getD (qs.length - 1) noQst).m, true⟩) (p := qs.getD (qs.length - 1) noQst) rfl]
    simp only [Bool.and_eq_true] at h1 ⊢
    refine ⟨⟨⟨h1.1.1.1, h1.1.1.2⟩, by rw [hl.1]; rfl⟩, ?_⟩
    rcases Nat.eq_zero_or_pos (qs.length - 1) with h3 | h3
    · rw [h3]; rfl
    · rw [snd_getD (show qs.length - 1 - 1 < qs.length - 1 by omega)]
      exact h1.2
theorem snd_lk {xs : List Rul} {qs : List Qst} (h0 : 0 < qs.length) : lkB xs (sndL qs) = false := by
  unfold lkB
  rw [sndL_len h0, snd_last h0]
  unfold lackB
  simp
theorem seconds_law {xs : List Rul} {qs : List Qst} {m : Int} (h : secB xs qs m = true) : secL xs qs m = sndL qs ∧ disB xs qs = false ∧ disB xs (sndL qs) = true ∧ (disQ xs (sndL qs)).s = true ∧ disL xs (sndL qs) = qs.take (qs.length - 1) ∧ dropL xs qs = qs.take (qs.length - 1) ∧ dropL xs (sndL qs) = sndL qs ∧ secB xs (sndL qs) m = false ∧ pendB xs qs = true ∧ pendB xs (sndL qs) = true ∧ 0 < qs.length ∧ qs.length ≤ 6 := by
  have hl : lkB xs qs = true := by
    unfold secB at h
    simp only [Bool.and_eq_true] at h
    exact h.1.1
  have h0 := lkB_lt hl
  have hp := lkB_pend hl
  have hs := snd_pend hl
  have hk := snd_lk (xs := xs) h0
  have hz : (qs.length == 0) = false := (beq_eq_false_iff_ne).2 (by omega)
  have hd : disB xs (sndL qs) = true := by unfold disB; rw [hs, hk, sndL_len h0, hz]; rfl
  refine ⟨(sec_yes h).1, by unfold disB; rw [hl]; simp, hd, ?_, ?_, ?_, ?_, by unfold secB; rw [hk]; rfl, hp, hs, h0, pend_six hp⟩
  · unfold disQ; rw [hd, sndL_len h0, snd_last h0]; rfl
  · unfold disL; rw [hd, sndL_len h0, if_pos rfl, snd_take h0]
  · unfold dropL dropN; rw [hp, hl]; rfl
  · unfold dropL dropN; rw [hs, hk]
    show (sndL qs).take (sndL qs).length = _
    exact List.take_length
theorem dispose_law {xs : List Rul} {qs : List Qst} (h : disB xs qs = true) : pendB xs (disL xs qs) = true := by
  have hp : pendB xs qs = true := by
    unfold disB at h
    simp only [Bool.and_eq_true] at h
    exact h.1.1
  unfold disL; rw [h, if_pos rfl]; exact pend_take hp _
end Go.Proofs.Ytifahgdalgjgfaa
