/- The mover of a question stands among the movers. No program is named but in the law's contract. Conditions: none. -/
import Derived.Test.YtifahgdalgjgfaaSk1
import Derived.Test.YtifahgdalgjgfaaAq
namespace Go.Proofs.Ytifahgdalgjgfaa
open Go.RowKit
set_option linter.unusedVariables false
theorem putI_has (x : Int) (l : List Int) : hasB x (putI x l) = true := by
  unfold hasB
  exact List.contains_iff_mem.2 (putI_mem.2 (Or.inl rfl))
theorem mv_has {xs : List Rul} {qs : List Qst} {i m : Int} (h : pendB xs (qs ++ [⟨i, m, false⟩]) = true) : hasB m (mvO xs (qs ++ [⟨i, m, false⟩])) = true := by
  unfold mvO
  rw [if_pos h]
  unfold mvK
  have e : (mvs (qs ++ [⟨i, m, false⟩])).take (qs ++ [(⟨i, m, false⟩ : Qst)]).length = mvs qs ++ [m] := by
    unfold mvs
    rw [List.take_of_length_le (by simp)]
    simp
  rw [e, List.foldl_append]
  exact putI_has m _
theorem rules_le8 {xs : List Rul} (h : rulesB xs = true) : xs.length ≤ 8 := by
  unfold rulesB at h
  simp only [Bool.and_eq_true, decide_eq_true_eq] at h
  omega
theorem stack_names {xa : List Rul} {g : List Qst} {n9 : List ByteArray} (h : pendB xa g = true) {k : Nat} (hk : k + 1 < g.length) (hn : nmsL xa g = n9) : ∃ (h0 : k < n9.length) (h1 : k + 1 < n9.length), rbB xa n9[k] = true ∧ rbB xa n9[k + 1] = true ∧ (rbR xa n9[k]).rk < (rbR xa n9[k + 1]).rk := by
  have e : n9 = g.map (fun q => (ruleAt xa q).nm) := by rw [← hn]; unfold nmsL; rw [if_pos h]
  subst e
  refine ⟨by simp; omega, by simp; omega, ?_⟩
  simp only [List.getElem_map]
  have a := pend_rule h (show k < g.length by omega)
  have b := pend_rule h hk
  have c := pend_rank h hk
  rw [a.1, b.1, a.2, b.2]
  exact ⟨rfl, rfl, c⟩
theorem spend_any {w : World} {A D : Option Addr} {c d : Nat} {xs : List Rul} {qs : List Qst} (h : PA w A c xs D d qs) : Calls Try.prog 26 #[.slice A xs.length c, .slice D qs.length d] w fun e w' => e = .returned (.bool (pendB xs qs)) ∧ Below w.heap.size w w' := sArePending_any A c xs D d qs w h.ra h.rm h.rc h.rf h.qa h.qm
end Go.Proofs.Ytifahgdalgjgfaa
