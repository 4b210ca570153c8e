/- The plain laws of the stack: a question that is moved, its names, movers and ranks. No program is named here. Conditions: none. -/
import Derived.Test.YtifahgdalgjgfaaSd1
import Derived.Test.YtifahgdalgjgfaaPi
import Derived.Test.YtifahgdalgjgfaaPj
import Derived.Test.YtifahgdalgjgfaaMv3
namespace Go.Proofs.Ytifahgdalgjgfaa
open Go.RowKit
set_option linter.unusedVariables false
theorem findI_first {α : Type} {p : α → Bool} {xs : List α} {j : Nat} (hj : j < xs.length) (hp : p xs[j] = true) (hn : ∀ i (hi : i < j), p (xs[i]'(by omega)) = false) : findI p 0 xs = (j : Int) := by
  have key : ∀ k, k ≤ j → findI p 0 xs = findI p k (xs.drop k) := by
    intro k
    induction k with
    | zero => intro _; rfl
    | succ k ih => intro hk; rw [ih (by omega), findI_miss (by omega) (hn k (by omega))]
  rw [key j (Nat.le_refl _), findI_hit hj hp]
/-- A rule found by its name. -/
def rbI (xs : List Rul) (s : ByteArray) : Int := findI (fun x => nmB x.nm s) 0 xs
def rbB (xs : List Rul) (s : ByteArray) : Bool := rulesB xs && decide (0 ≤ rbI xs s)
def rbR (xs : List Rul) (s : ByteArray) : Rul := if rbB xs s then xs.getD (rbI xs s).toNat noRule else noRule
theorem ru_at {xs : List Rul} (h : rulesB xs = true) {i : Nat} (hi : i < xs.length) : okRu xs i = true := by
  unfold rulesB at h
  simp only [Bool.and_eq_true] at h
  exact allN_yes.1 h.1 i hi
theorem ru_name {xs : List Rul} (h : rulesB xs = true) {i j : Nat} (hj : j < xs.length) (hij : i < j) : nmB (xs[i]'(by omega)).nm xs[j].nm = false := by
  have h1 := ru_at h hj
  unfold okRu at h1
  rw [getD_lt hj] at h1
  simp only [Bool.and_eq_true, Bool.not_eq_true'] at h1
  have h2 := h1.2
  unfold nameIn at h2
  rw [List.any_eq_false] at h2
  have h3 := h2 (xs[i]'(by omega)) (by rw [List.mem_take_iff_getElem]; exact ⟨i, by omega, rfl⟩)
  simpa using h3
theorem ru_step {xs : List Rul} (h : rulesB xs = true) {i : Nat} (hi : i + 1 < xs.length) : xs[i].id < xs[i + 1].id := by
  have h1 := ru_at h hi
  unfold okRu at h1
  rw [getD_lt hi, Nat.add_sub_cancel, getD_lt (show i < xs.length by omega)] at h1
  simp only [Bool.and_eq_true] at h1
  simpa using h1.1.2
theorem ru_id {xs : List Rul} (h : rulesB xs = true) {i j : Nat} (hj : j < xs.length) (hij : i < j) : (xs[i]'(by omega)).id < xs[j].id := by
  induction j with
  | zero => omega
  | succ j ih =>
    have h1 := ru_step h hj
    rcases Nat.lt_or_ge i j with h2 | h2
    · have := ih (by omega) h2; omega
    · obtain rfl : i = j := by omega
      exact h1
theorem nmB_self (s : ByteArray) : nmB s s = true := by unfold nmB; simp
theorem rb_at {xs : List Rul} (h : rulesB xs = true) {j : Nat} (hj : j < xs.length) : rbB xs xs[j].nm = true ∧ rbR xs xs[j].nm = xs[j] := by
  have h1 : rbI xs xs[j].nm = (j : Int) := findI_first hj (nmB_self _) (fun i hi => ru_name h hj hi)
  have h2 : rbB xs xs[j].nm = true := by unfold rbB; rw [h, h1]; simp
  refine ⟨h2, ?_⟩
  unfold rbR
  rw [h2, if_pos rfl, h1]
  exact getD_lt hj _
theorem ix_at {xs : List Rul} (h : rulesB xs = true) {j : Nat} (hj : j < xs.length) : ixR xs xs[j].id = (j : Int) :=
  findI_first hj (by simp) (fun i hi => by have := ru_id h hj hi; simp; omega)
theorem pend_rules {xs : List Rul} {qs : List Qst} (h : pendB xs qs = true) : rulesB xs = true := by
  unfold pendB at h
  simp only [Bool.and_eq_true] at h
  exact h.1.1
theorem pend_rule {xs : List Rul} {qs : List Qst} (h : pendB xs qs = true) {i : Nat} (hi : i < qs.length) : rbB xs (ruleAt xs qs[i]).nm = true ∧ rbR xs (ruleAt xs qs[i]).nm = ruleAt xs qs[i] := by
  obtain ⟨j, hj, hjl⟩ := ixR_at (pend_ix h hi)
  rw [ruleAt_of hj hjl]
  exact rb_at (pend_rules h) hjl
theorem pend_rank {xs : List Rul} {qs : List Qst} (h : pendB xs qs = true) {i : Nat} (hi : i + 1 < qs.length) : (ruleAt xs qs[i]).rk < (ruleAt xs qs[i + 1]).rk := by
  unfold pendB at h
  simp only [Bool.and_eq_true] at h
  have h1 := allN_yes.1 h.2 (i + 1) hi
  rw [okQ_eq hi] at h1
  simp only [Bool.and_eq_true] at h1
  have h2 := h1.2
  simp at h2
  omega
theorem move_pend {xs : List Rul} {qs : List Qst} {i m : Int} (h : moveB xs qs i m = true) : pendB xs (qs ++ [⟨i, m, false⟩]) = true := by
  unfold moveB at h
  simp only [Bool.and_eq_true] at h
  obtain ⟨⟨hp, hm⟩, hh⟩ := h
  have hr := pend_rules hp
  have hmem : i ∈ mayL xs qs := by unfold hasB at hh; exact List.contains_iff_mem.1 hh
  unfold mayL at hmem
  obtain ⟨x, hx, hxi⟩ := List.mem_map.1 hmem
  obtain ⟨hx1, hx2⟩ := List.mem_filter.1 hx
  obtain ⟨j, hj, rfl⟩ := List.getElem_of_mem hx1
  have hix : ixR xs i = (j : Int) := by rw [← hxi]; exact ix_at hr hj
  have hra : ruleAt xs ⟨i, m, false⟩ = xs[j] := ruleAt_of hix hj
  have h6 := pend_six hp
  have hn6 : qs.length ≠ 6 := by
    intro e
    rw [mayP_pos (by omega)] at hx2
    simp only [Bool.and_eq_true, Bool.not_eq_true'] at hx2
    have h7 := hx2.1.2
    rw [beq_eq_false_iff_ne] at h7
    exact h7 e
  have hp2 := hp
  unfold pendB at hp2 ⊢
  simp only [Bool.and_eq_true, decide_eq_true_eq] at hp2 ⊢
  refine ⟨⟨hr, by simp; omega⟩, allN_yes.2 fun k hk => ?_⟩
  rw [List.length_append, List.length_singleton] at hk
  rcases Nat.lt_or_ge k qs.length with h1 | h1
  · have h2 := allN_yes.1 hp2.2 k h1
    rw [okQ_eq h1] at h2
    rw [okQ_eq (show k < (qs ++ [(⟨i, m, false⟩ : Qst)]).length by simp; omega)]
    rw [List.getElem_append_left h1]
    rcases Nat.eq_zero_or_pos k with h3 | h3
    · subst h3; simpa using h2
    · rw [List.getElem_append_left (show k - 1 < qs.length by omega)]; exact h2
  · obtain rfl : k = qs.length := by omega
    rw [okQ_eq (show qs.length < (qs ++ [(⟨i, m, false⟩ : Qst)]).length by simp)]
    have hl : (qs ++ [(⟨i, m, false⟩ : Qst)])[qs.length]'(by simp) = ⟨i, m, false⟩ := by rw [List.getElem_append_right (Nat.le_refl _)]; simp
    rw [hl, hra]
    show (decide (0 ≤ ixR xs i) && memB m && !(false && !xs[j].sc) && _) = true
    rw [hix, hm]
    simp only [Bool.false_and, Bool.not_false, Bool.and_true, Bool.and_eq_true, decide_eq_true_eq]
    refine ⟨by omega, ?_⟩
    rcases Nat.eq_zero_or_pos qs.length with h3 | h3
    · rw [Bool.or_eq_true]
      left
      simp [h3]
    · rw [mayP_pos h3] at hx2
      rw [List.getElem_append_left (show qs.length - 1 < qs.length by omega)]
      simp only [Bool.and_eq_true, Bool.not_eq_true', decide_eq_true_eq] at hx2
      rw [hx2.1.1]
      simp
      right
      omega
theorem wd_last {qs : List Qst} {i m : Int} : wdN m (qs ++ [⟨i, m, false⟩]) (qs ++ [(⟨i, m, false⟩ : Qst)]).length = (qs.length : Int) := by
  rw [List.length_append, List.length_singleton]
  exact wdN_hit (by simp) (by rw [List.getElem_append_right (Nat.le_refl _)]; simp)
theorem stack_law {xs : List Rul} {qs : List Qst} {i m : Int} (h : moveB xs qs i m = true) : moveL xs qs i m = qs ++ [⟨i, m, false⟩] ∧ pendB xs (qs ++ [⟨i, m, false⟩]) = true ∧ pendB xs qs = true ∧ hasB i (mayO xs qs) = true ∧ wdB xs (qs ++ [⟨i, m, false⟩]) m = true ∧ wdL xs (qs ++ [⟨i, m, false⟩]) m = qs ∧ qs.length ≤ 6 := by
  have hp := move_pend h
  have hb := h
  unfold moveB at hb
  simp only [Bool.and_eq_true] at hb
  obtain ⟨h1, h2⟩ := wd_yes hp (wd_last (qs := qs) (i := i) (m := m))
  refine ⟨by unfold moveL; rw [h]; rfl, hp, hb.1.1, by unfold mayO; rw [hb.1.1, if_pos rfl]; exact hb.2, h2, ?_, pend_six hb.1.1⟩
  rw [h1, List.take_append_of_le_length (Nat.le_refl _), List.take_length]
end Go.Proofs.Ytifahgdalgjgfaa
