/- DoConflict, in the program and in the reference, in the words of objects. Conditions: the ranges named. -/
import Derived.Test.YtgchbimjgdoifaaDo
namespace Go.Proofs.Ytgchbimjgdoifaa
open Go.RowKit
set_option linter.unusedVariables false

set_option maxHeartbeats 1600000 in
theorem DoConflict_any (A B : Option Addr) (c d : Nat) (a b : Amd) (w : World) (h : Cells w A (strs a.ws)) (hf : Fit a.ws) (h' : Cells w B (strs b.ws)) (hf' : Fit b.ws) :
    Calls Try.prog 40 #[.agg #[.int .i64 a.k, .int .i64 a.p, .int .i64 a.n, .slice A a.ws.length c], .agg #[.int .i64 b.k, .int .i64 b.p, .int .i64 b.n, .slice B b.ws.length d]] w fun e w' => e = .returned (.tuple #[.bool (vldA a && vldA b && conB a b), .bool (vldA a && vldA b)]) ∧ Below w.heap.size w w' := by
  have h00 : Below w.heap.size w ((w.alloc (.cells #[.int .i64 a.k, .int .i64 a.p, .int .i64 a.n, .slice A a.ws.length c] 40)).alloc (.cells #[.int .i64 b.k, .int .i64 b.p, .int .i64 b.n, .slice B b.ws.length d] 40)) := by go_grown
  rcases Bool.eq_false_or_eq_true (vldA a) with hv | hv
  · rcases Bool.eq_false_or_eq_true (vldA b) with hv' | hv'
    · go_enter Try.func40, Try.ntmps40
      go_wp2_with (first
        | (go_at_call_of 29 (.agg #[.int .i64 a.k, .int .i64 a.p, .int .i64 a.n, .slice A a.ws.length c] : Value); refine (IsValidAmendment_any _ _ a _ ?_ hf).mono ?_; exact h.below h00; rintro e w' ⟨rfl, hb⟩; have hB := after1 (B := w.heap.size + 2) (W0 := ((w.alloc (.cells #[.int .i64 a.k, .int .i64 a.p, .int .i64 a.n, .slice A a.ws.length c] 40)).alloc (.cells #[.int .i64 b.k, .int .i64 b.p, .int .i64 b.n, .slice B b.ws.length d] 40))) (by go_grown) (by simp) hb; have hA := h00.trans (hB.mono (by omega)); obtain ⟨hcc, hff⟩ := bcellB hB; clear hb)
        | (go_at_call_of 29 (.agg #[.int .i64 b.k, .int .i64 b.p, .int .i64 b.n, .slice B b.ws.length d] : Value); refine (IsValidAmendment_any _ _ b _ ?_ hf').mono ?_; exact h'.below hA; rintro e w' ⟨rfl, hb⟩; have hB := after1 (B := w.heap.size + 2) (W0 := ((w.alloc (.cells #[.int .i64 a.k, .int .i64 a.p, .int .i64 a.n, .slice A a.ws.length c] 40)).alloc (.cells #[.int .i64 b.k, .int .i64 b.p, .int .i64 b.n, .slice B b.ws.length d] 40))) (by go_grown) (by simp) hb; have hA := h00.trans (hB.mono (by omega)); obtain ⟨hcc, hff⟩ := bcellB hB; clear hb)
        | (go_at_call 90; refine (doConflict_any A B c d a b _ (Small.of hv) (Small.of hv') hf.1 hf'.1).mono ?_; rintro e w' ⟨rfl, hb⟩; have hB := after1 (B := w.heap.size + 2) (W0 := ((w.alloc (.cells #[.int .i64 a.k, .int .i64 a.p, .int .i64 a.n, .slice A a.ws.length c] 40)).alloc (.cells #[.int .i64 b.k, .int .i64 b.p, .int .i64 b.n, .slice B b.ws.length d] 40))) (by go_grown) (by simp) hb; have hA := h00.trans (hB.mono (by omega)); obtain ⟨hcc, hff⟩ := bcellB hB; clear hb))
      go_ret2
      exact ⟨ret_val (by simp only [hv, hv']; rfl), hA⟩
    · go_enter Try.func40, Try.ntmps40
      go_wp2_with (first
        | (go_at_call_of 29 (.agg #[.int .i64 a.k, .int .i64 a.p, .int .i64 a.n, .slice A a.ws.length c] : Value); refine (IsValidAmendment_any _ _ a _ ?_ hf).mono ?_; exact h.below h00; rintro e w' ⟨rfl, hb⟩; have hB := after1 (B := w.heap.size + 2) (W0 := ((w.alloc (.cells #[.int .i64 a.k, .int .i64 a.p, .int .i64 a.n, .slice A a.ws.length c] 40)).alloc (.cells #[.int .i64 b.k, .int .i64 b.p, .int .i64 b.n, .slice B b.ws.length d] 40))) (by go_grown) (by simp) hb; have hA := h00.trans (hB.mono (by omega)); obtain ⟨hcc, hff⟩ := bcellB hB; clear hb)
        | (go_at_call_of 29 (.agg #[.int .i64 b.k, .int .i64 b.p, .int .i64 b.n, .slice B b.ws.length d] : Value); refine (IsValidAmendment_any _ _ b _ ?_ hf').mono ?_; exact h'.below hA; rintro e w' ⟨rfl, hb⟩; have hB := after1 (B := w.heap.size + 2) (W0 := ((w.alloc (.cells #[.int .i64 a.k, .int .i64 a.p, .int .i64 a.n, .slice A a.ws.length c] 40)).alloc (.cells #[.int .i64 b.k, .int .i64 b.p, .int .i64 b.n, .slice B b.ws.length d] 40))) (by go_grown) (by simp) hb; have hA := h00.trans (hB.mono (by omega)); obtain ⟨hcc, hff⟩ := bcellB hB; clear hb)
        | (go_at_call 90; refine (doConflict_any A B c d a b _ (Small.of hv) (Small.of hv') hf.1 hf'.1).mono ?_; rintro e w' ⟨rfl, hb⟩; have hB := after1 (B := w.heap.size + 2) (W0 := ((w.alloc (.cells #[.int .i64 a.k, .int .i64 a.p, .int .i64 a.n, .slice A a.ws.length c] 40)).alloc (.cells #[.int .i64 b.k, .int .i64 b.p, .int .i64 b.n, .slice B b.ws.length d] 40))) (by go_grown) (by simp) hb; have hA := h00.trans (hB.mono (by omega)); obtain ⟨hcc, hff⟩ := bcellB hB; clear hb))
      go_ret2
      exact ⟨ret_val (by simp only [hv, hv']; rfl), hA⟩
  · go_enter Try.func40, Try.ntmps40
    go_wp2_with (first
        | (go_at_call_of 29 (.agg #[.int .i64 a.k, .int .i64 a.p, .int .i64 a.n, .slice A a.ws.length c] : Value); refine (IsValidAmendment_any _ _ a _ ?_ hf).mono ?_; exact h.below h00; rintro e w' ⟨rfl, hb⟩; have hB := after1 (B := w.heap.size + 2) (W0 := ((w.alloc (.cells #[.int .i64 a.k, .int .i64 a.p, .int .i64 a.n, .slice A a.ws.length c] 40)).alloc (.cells #[.int .i64 b.k, .int .i64 b.p, .int .i64 b.n, .slice B b.ws.length d] 40))) (by go_grown) (by simp) hb; have hA := h00.trans (hB.mono (by omega)); obtain ⟨hcc, hff⟩ := bcellB hB; clear hb)
        | (go_at_call_of 29 (.agg #[.int .i64 b.k, .int .i64 b.p, .int .i64 b.n, .slice B b.ws.length d] : Value); refine (IsValidAmendment_any _ _ b _ ?_ hf').mono ?_; exact h'.below hA; rintro e w' ⟨rfl, hb⟩; have hB := after1 (B := w.heap.size + 2) (W0 := ((w.alloc (.cells #[.int .i64 a.k, .int .i64 a.p, .int .i64 a.n, .slice A a.ws.length c] 40)).alloc (.cells #[.int .i64 b.k, .int .i64 b.p, .int .i64 b.n, .slice B b.ws.length d] 40))) (by go_grown) (by simp) hb; have hA := h00.trans (hB.mono (by omega)); obtain ⟨hcc, hff⟩ := bcellB hB; clear hb)
        | (go_at_call 90; refine (doConflict_any A B c d a b _ (Small.of hv) (Small.of hv') hf.1 hf'.1).mono ?_; rintro e w' ⟨rfl, hb⟩; have hB := after1 (B := w.heap.size + 2) (W0 := ((w.alloc (.cells #[.int .i64 a.k, .int .i64 a.p, .int .i64 a.n, .slice A a.ws.length c] 40)).alloc (.cells #[.int .i64 b.k, .int .i64 b.p, .int .i64 b.n, .slice B b.ws.length d] 40))) (by go_grown) (by simp) hb; have hA := h00.trans (hB.mono (by omega)); obtain ⟨hcc, hff⟩ := bcellB hB; clear hb))
    go_ret2
    exact ⟨ret_val (by simp only [hv]; rfl), hA⟩
set_option maxHeartbeats 1600000 in
theorem sDoConflict_any (A B : Option Addr) (c d : Nat) (a b : Amd) (w : World) (h : Cells w A (strs a.ws)) (hf : Fit a.ws) (h' : Cells w B (strs b.ws)) (hf' : Fit b.ws) :
    Calls Try.prog 41 #[.agg #[.int .i64 a.k, .int .i64 a.p, .int .i64 a.n, .slice A a.ws.length c], .agg #[.int .i64 b.k, .int .i64 b.p, .int .i64 b.n, .slice B b.ws.length d]] w fun e w' => e = .returned (.tuple #[.bool (vldA a && vldA b && conB a b), .bool (vldA a && vldA b)]) ∧ Below w.heap.size w w' := by
  have h00 : Below w.heap.size w ((w.alloc (.cells #[.int .i64 a.k, .int .i64 a.p, .int .i64 a.n, .slice A a.ws.length c] 40)).alloc (.cells #[.int .i64 b.k, .int .i64 b.p, .int .i64 b.n, .slice B b.ws.length d] 40)) := by go_grown
  rcases Bool.eq_false_or_eq_true (vldA a) with hv | hv
  · rcases Bool.eq_false_or_eq_true (vldA b) with hv' | hv'
    · go_enter Try.func41, Try.ntmps41
      go_wp2_with (first
        | (go_at_call_of 79 (.agg #[.int .i64 a.k, .int .i64 a.p, .int .i64 a.n, .slice A a.ws.length c] : Value); refine (l9Good_any _ _ a _ ?_ hf).mono ?_; exact h.below h00; rintro e w' ⟨rfl, hb⟩; have hB := after1 (B := w.heap.size + 2) (W0 := ((w.alloc (.cells #[.int .i64 a.k, .int .i64 a.p, .int .i64 a.n, .slice A a.ws.length c] 40)).alloc (.cells #[.int .i64 b.k, .int .i64 b.p, .int .i64 b.n, .slice B b.ws.length d] 40))) (by go_grown) (by simp) hb; have hA := h00.trans (hB.mono (by omega)); obtain ⟨hcc, hff⟩ := bcellB hB; clear hb)
        | (go_at_call_of 79 (.agg #[.int .i64 b.k, .int .i64 b.p, .int .i64 b.n, .slice B b.ws.length d] : Value); refine (l9Good_any _ _ b _ ?_ hf').mono ?_; exact h'.below hA; rintro e w' ⟨rfl, hb⟩; have hB := after1 (B := w.heap.size + 2) (W0 := ((w.alloc (.cells #[.int .i64 a.k, .int .i64 a.p, .int .i64 a.n, .slice A a.ws.length c] 40)).alloc (.cells #[.int .i64 b.k, .int .i64 b.p, .int .i64 b.n, .slice B b.ws.length d] 40))) (by go_grown) (by simp) hb; have hA := h00.trans (hB.mono (by omega)); obtain ⟨hcc, hff⟩ := bcellB hB; clear hb)
        | (go_at_call 91; refine (l10Conflict_any A B c d a b _ (Small.of hv) (Small.of hv') hf.1 hf'.1).mono ?_; rintro e w' ⟨rfl, hb⟩; have hB := after1 (B := w.heap.size + 2) (W0 := ((w.alloc (.cells #[.int .i64 a.k, .int .i64 a.p, .int .i64 a.n, .slice A a.ws.length c] 40)).alloc (.cells #[.int .i64 b.k, .int .i64 b.p, .int .i64 b.n, .slice B b.ws.length d] 40))) (by go_grown) (by simp) hb; have hA := h00.trans (hB.mono (by omega)); obtain ⟨hcc, hff⟩ := bcellB hB; clear hb))
      go_ret2
      exact ⟨ret_val (by simp only [hv, hv']; rfl), hA⟩
    · go_enter Try.func41, Try.ntmps41
      go_wp2_with (first
        | (go_at_call_of 79 (.agg #[.int .i64 a.k, .int .i64 a.p, .int .i64 a.n, .slice A a.ws.length c] : Value); refine (l9Good_any _ _ a _ ?_ hf).mono ?_; exact h.below h00; rintro e w' ⟨rfl, hb⟩; have hB := after1 (B := w.heap.size + 2) (W0 := ((w.alloc (.cells #[.int .i64 a.k, .int .i64 a.p, .int .i64 a.n, .slice A a.ws.length c] 40)).alloc (.cells #[.int .i64 b.k, .int .i64 b.p, .int .i64 b.n, .slice B b.ws.length d] 40))) (by go_grown) (by simp) hb; have hA := h00.trans (hB.mono (by omega)); obtain ⟨hcc, hff⟩ := bcellB hB; clear hb)
        | (go_at_call_of 79 (.agg #[.int .i64 b.k, .int .i64 b.p, .int .i64 b.n, .slice B b.ws.length d] : Value); refine (l9Good_any _ _ b _ ?_ hf').mono ?_; exact h'.below hA; rintro e w' ⟨rfl, hb⟩; have hB := after1 (B := w.heap.size + 2) (W0 := ((w.alloc (.cells #[.int .i64 a.k, .int .i64 a.p, .int .i64 a.n, .slice A a.ws.length c] 40)).alloc (.cells #[.int .i64 b.k, .int .i64 b.p, .int .i64 b.n, .slice B b.ws.length d] 40))) (by go_grown) (by simp) hb; have hA := h00.trans (hB.mono (by omega)); obtain ⟨hcc, hff⟩ := bcellB hB; clear hb)
        | (go_at_call 91; refine (l10Conflict_any A B c d a b _ (Small.of hv) (Small.of hv') hf.1 hf'.1).mono ?_; rintro e w' ⟨rfl, hb⟩; have hB := after1 (B := w.heap.size + 2) (W0 := ((w.alloc (.cells #[.int .i64 a.k, .int .i64 a.p, .int .i64 a.n, .slice A a.ws.length c] 40)).alloc (.cells #[.int .i64 b.k, .int .i64 b.p, .int .i64 b.n, .slice B b.ws.length d] 40))) (by go_grown) (by simp) hb; have hA := h00.trans (hB.mono (by omega)); obtain ⟨hcc, hff⟩ := bcellB hB; clear hb))
      go_ret2
      exact ⟨ret_val (by simp only [hv, hv']; rfl), hA⟩
  · go_enter Try.func41, Try.ntmps41
    go_wp2_with (first
        | (go_at_call_of 79 (.agg #[.int .i64 a.k, .int .i64 a.p, .int .i64 a.n, .slice A a.ws.length c] : Value); refine (l9Good_any _ _ a _ ?_ hf).mono ?_; exact h.below h00; rintro e w' ⟨rfl, hb⟩; have hB := after1 (B := w.heap.size + 2) (W0 := ((w.alloc (.cells #[.int .i64 a.k, .int .i64 a.p, .int .i64 a.n, .slice A a.ws.length c] 40)).alloc (.cells #[.int .i64 b.k, .int .i64 b.p, .int .i64 b.n, .slice B b.ws.length d] 40))) (by go_grown) (by simp) hb; have hA := h00.trans (hB.mono (by omega)); obtain ⟨hcc, hff⟩ := bcellB hB; clear hb)
        | (go_at_call_of 79 (.agg #[.int .i64 b.k, .int .i64 b.p, .int .i64 b.n, .slice B b.ws.length d] : Value); refine (l9Good_any _ _ b _ ?_ hf').mono ?_; exact h'.below hA; rintro e w' ⟨rfl, hb⟩; have hB := after1 (B := w.heap.size + 2) (W0 := ((w.alloc (.cells #[.int .i64 a.k, .int .i64 a.p, .int .i64 a.n, .slice A a.ws.length c] 40)).alloc (.cells #[.int .i64 b.k, .int .i64 b.p, .int .i64 b.n, .slice B b.ws.length d] 40))) (by go_grown) (by simp) hb; have hA := h00.trans (hB.mono (by omega)); obtain ⟨hcc, hff⟩ := bcellB hB; clear hb)
        | (go_at_call 91; refine (l10Conflict_any A B c d a b _ (Small.of hv) (Small.of hv') hf.1 hf'.1).mono ?_; rintro e w' ⟨rfl, hb⟩; have hB := after1 (B := w.heap.size + 2) (W0 := ((w.alloc (.cells #[.int .i64 a.k, .int .i64 a.p, .int .i64 a.n, .slice A a.ws.length c] 40)).alloc (.cells #[.int .i64 b.k, .int .i64 b.p, .int .i64 b.n, .slice B b.ws.length d] 40))) (by go_grown) (by simp) hb; have hA := h00.trans (hB.mono (by omega)); obtain ⟨hcc, hff⟩ := bcellB hB; clear hb))
    go_ret2
    exact ⟨ret_val (by simp only [hv]; rfl), hA⟩
section
variable {B' B1 : Nat} {w : World} {A B : Option Addr} {c d : Nat} {a b : Amd}
theorem DoConflict_abs (h : RdS B' w A c a.ws) (h' : RdS B1 w B d b.ws) : Calls Try.prog 40 #[.agg #[.int .i64 a.k, .int .i64 a.p, .int .i64 a.n, .slice A a.ws.length c], .agg #[.int .i64 b.k, .int .i64 b.p, .int .i64 b.n, .slice B b.ws.length d]] w fun e w' => e = .returned (.tuple #[.bool (vldA a && vldA b && conB a b), .bool (vldA a && vldA b)]) ∧ Below w.heap.size w w' :=
  DoConflict_any A B c d a b w h.cells h.2.2 h'.cells h'.2.2
theorem sDoConflict_abs (h : RdS B' w A c a.ws) (h' : RdS B1 w B d b.ws) : Calls Try.prog 41 #[.agg #[.int .i64 a.k, .int .i64 a.p, .int .i64 a.n, .slice A a.ws.length c], .agg #[.int .i64 b.k, .int .i64 b.p, .int .i64 b.n, .slice B b.ws.length d]] w fun e w' => e = .returned (.tuple #[.bool (vldA a && vldA b && conB a b), .bool (vldA a && vldA b)]) ∧ Below w.heap.size w w' :=
  sDoConflict_any A B c d a b w h.cells h.2.2 h'.cells h'.2.2
end
end Go.Proofs.Ytgchbimjgdoifaa
