/- Whether an amendment can be made, and whether two conflict, in the program and in the reference. Conditions: the ranges named. -/
import Derived.Test.YtgchbimjgdoifaaFits
namespace Go.Proofs.Ytgchbimjgdoifaa
open Go.RowKit
set_option linter.unusedVariables false

/-! ### Whether an amendment fits -/
def canB (ss : List ByteArray) (a : Amd) : Bool := wordsB ss 0 20 && vldA a && fitsB ss a
def fitsR (ss : List ByteArray) (a : Amd) : Value := .tuple #[.bool (canB ss a), .bool (wordsB ss 0 20 && vldA a)]
set_option maxHeartbeats 800000 in
theorem canAmend_any (T A : Option Addr) (t c : Nat) (ss : List ByteArray) (a : Amd) (w : World) (h : Cells w T (strs ss)) (hc : ss.length ≤ t) (hf : Fit ss) (h' : Cells w A (strs a.ws)) (hf' : Fit a.ws) :
    Calls Try.prog 77 #[.slice T ss.length t, .agg #[.int .i64 a.k, .int .i64 a.p, .int .i64 a.n, .slice A a.ws.length c]] w fun e w' => e = .returned (.bool (canB ss a)) ∧ Below w.heap.size w w' := by
  have h00 : Below w.heap.size w (w.alloc (.cells #[.int .i64 a.k, .int .i64 a.p, .int .i64 a.n, .slice A a.ws.length c] 40)) := by go_grown
  rcases Bool.eq_false_or_eq_true (wordsB ss 0 20) with ht | ht
  · rcases Bool.eq_false_or_eq_true (vldA a) with hv | hv
    · rcases Bool.eq_false_or_eq_true (fitsB ss a) with hz | hz
      all_goals
        go_enter Try.func77, Try.ntmps77
        go_wp2_with (first
      | (go_at_call 27; refine (IsText_any _ _ ss _ ?_ hf.1 hf.2).mono ?_; exact h.below h00; rintro e w' ⟨rfl, rfl⟩)
      | (go_at_call 29; refine (IsValidAmendment_any _ _ a _ ?_ hf').mono ?_; exact h'.below h00; rintro e w' ⟨rfl, hb⟩; have hB := after1 (B := w.heap.size + 1) (W0 := w.alloc (.cells #[.int .i64 a.k, .int .i64 a.p, .int .i64 a.n, .slice A a.ws.length c] 40)) (by go_grown) (by simp) hb; have hA := h00.trans (hB.mono (Nat.le_succ _)); obtain ⟨hcc, hff⟩ := bcellB hB; clear hb)
      | (go_at_call 82; refine (fitsText_any _ _ _ _ ss a _ ?_ hc hf ?_ hf' hv).mono ?_; exact h.below hA; exact h'.below hA; rintro e w' ⟨rfl, hb⟩; have hB := after1 (B := w.heap.size + 1) (W0 := w.alloc (.cells #[.int .i64 a.k, .int .i64 a.p, .int .i64 a.n, .slice A a.ws.length c] 40)) (by go_grown) (by simp) hb; have hA := h00.trans (hB.mono (Nat.le_succ _)); obtain ⟨hcc, hff⟩ := bcellB hB; clear hb))
        go_ret
        exact ⟨ret_val (by simp only [canB, ht, hv, hz]; rfl), hA⟩
    · go_enter Try.func77, Try.ntmps77
      go_wp2_with (first
      | (go_at_call 27; refine (IsText_any _ _ ss _ ?_ hf.1 hf.2).mono ?_; exact h.below h00; rintro e w' ⟨rfl, rfl⟩)
      | (go_at_call 29; refine (IsValidAmendment_any _ _ a _ ?_ hf').mono ?_; exact h'.below h00; rintro e w' ⟨rfl, hb⟩; have hB := after1 (B := w.heap.size + 1) (W0 := w.alloc (.cells #[.int .i64 a.k, .int .i64 a.p, .int .i64 a.n, .slice A a.ws.length c] 40)) (by go_grown) (by simp) hb; have hA := h00.trans (hB.mono (Nat.le_succ _)); obtain ⟨hcc, hff⟩ := bcellB hB; clear hb)
      | (go_at_call 82; refine (fitsText_any _ _ _ _ ss a _ ?_ hc hf ?_ hf' hv).mono ?_; exact h.below hA; exact h'.below hA; rintro e w' ⟨rfl, hb⟩; have hB := after1 (B := w.heap.size + 1) (W0 := w.alloc (.cells #[.int .i64 a.k, .int .i64 a.p, .int .i64 a.n, .slice A a.ws.length c] 40)) (by go_grown) (by simp) hb; have hA := h00.trans (hB.mono (Nat.le_succ _)); obtain ⟨hcc, hff⟩ := bcellB hB; clear hb))
      go_ret
      exact ⟨ret_val (by simp only [canB, ht, hv]; rfl), hA⟩
  · go_enter Try.func77, Try.ntmps77
    go_wp2_with (first
      | (go_at_call 27; refine (IsText_any _ _ ss _ ?_ hf.1 hf.2).mono ?_; exact h.below h00; rintro e w' ⟨rfl, rfl⟩)
      | (go_at_call 29; refine (IsValidAmendment_any _ _ a _ ?_ hf').mono ?_; exact h'.below h00; rintro e w' ⟨rfl, hb⟩; have hB := after1 (B := w.heap.size + 1) (W0 := w.alloc (.cells #[.int .i64 a.k, .int .i64 a.p, .int .i64 a.n, .slice A a.ws.length c] 40)) (by go_grown) (by simp) hb; have hA := h00.trans (hB.mono (Nat.le_succ _)); obtain ⟨hcc, hff⟩ := bcellB hB; clear hb)
      | (go_at_call 82; refine (fitsText_any _ _ _ _ ss a _ ?_ hc hf ?_ hf' hv).mono ?_; exact h.below hA; exact h'.below hA; rintro e w' ⟨rfl, hb⟩; have hB := after1 (B := w.heap.size + 1) (W0 := w.alloc (.cells #[.int .i64 a.k, .int .i64 a.p, .int .i64 a.n, .slice A a.ws.length c] 40)) (by go_grown) (by simp) hb; have hA := h00.trans (hB.mono (Nat.le_succ _)); obtain ⟨hcc, hff⟩ := bcellB hB; clear hb))
    go_ret
    exact ⟨ret_val (by simp only [canB, ht]; rfl), h00⟩
set_option maxHeartbeats 800000 in
theorem FitsText_any (T A : Option Addr) (t c : Nat) (ss : List ByteArray) (a : Amd) (w : World) (h : Cells w T (strs ss)) (hc : ss.length ≤ t) (hf : Fit ss) (h' : Cells w A (strs a.ws)) (hf' : Fit a.ws) :
    Calls Try.prog 31 #[.slice T ss.length t, .agg #[.int .i64 a.k, .int .i64 a.p, .int .i64 a.n, .slice A a.ws.length c]] w fun e w' => e = .returned (fitsR ss a) ∧ Below w.heap.size w w' := by
  have h00 : Below w.heap.size w (w.alloc (.cells #[.int .i64 a.k, .int .i64 a.p, .int .i64 a.n, .slice A a.ws.length c] 40)) := by go_grown
  rcases Bool.eq_false_or_eq_true (wordsB ss 0 20) with ht | ht
  · rcases Bool.eq_false_or_eq_true (vldA a) with hv | hv
    · rcases Bool.eq_false_or_eq_true (fitsB ss a) with hz | hz
      all_goals
        go_enter Try.func31, Try.ntmps31
        go_wp2_with (first
      | (go_at_call 27; refine (IsText_any _ _ ss _ ?_ hf.1 hf.2).mono ?_; exact h.below h00; rintro e w' ⟨rfl, rfl⟩)
      | (go_at_call 29; refine (IsValidAmendment_any _ _ a _ ?_ hf').mono ?_; exact h'.below h00; rintro e w' ⟨rfl, hb⟩; have hB := after1 (B := w.heap.size + 1) (W0 := w.alloc (.cells #[.int .i64 a.k, .int .i64 a.p, .int .i64 a.n, .slice A a.ws.length c] 40)) (by go_grown) (by simp) hb; have hA := h00.trans (hB.mono (Nat.le_succ _)); obtain ⟨hcc, hff⟩ := bcellB hB; clear hb)
      | (go_at_call 82; refine (fitsText_any _ _ _ _ ss a _ ?_ hc hf ?_ hf' hv).mono ?_; exact h.below hA; exact h'.below hA; rintro e w' ⟨rfl, hb⟩; have hB := after1 (B := w.heap.size + 1) (W0 := w.alloc (.cells #[.int .i64 a.k, .int .i64 a.p, .int .i64 a.n, .slice A a.ws.length c] 40)) (by go_grown) (by simp) hb; have hA := h00.trans (hB.mono (Nat.le_succ _)); obtain ⟨hcc, hff⟩ := bcellB hB; clear hb))
        go_ret2
        exact ⟨ret_val (by simp only [fitsR, canB, ht, hv, hz]; rfl), hA⟩
    · go_enter Try.func31, Try.ntmps31
      go_wp2_with (first
      | (go_at_call 27; refine (IsText_any _ _ ss _ ?_ hf.1 hf.2).mono ?_; exact h.below h00; rintro e w' ⟨rfl, rfl⟩)
      | (go_at_call 29; refine (IsValidAmendment_any _ _ a _ ?_ hf').mono ?_; exact h'.below h00; rintro e w' ⟨rfl, hb⟩; have hB := after1 (B := w.heap.size + 1) (W0 := w.alloc (.cells #[.int .i64 a.k, .int .i64 a.p, .int .i64 a.n, .slice A a.ws.length c] 40)) (by go_grown) (by simp) hb; have hA := h00.trans (hB.mono (Nat.le_succ _)); obtain ⟨hcc, hff⟩ := bcellB hB; clear hb)
      | (go_at_call 82; refine (fitsText_any _ _ _ _ ss a _ ?_ hc hf ?_ hf' hv).mono ?_; exact h.below hA; exact h'.below hA; rintro e w' ⟨rfl, hb⟩; have hB := after1 (B := w.heap.size + 1) (W0 := w.alloc (.cells #[.int .i64 a.k, .int .i64 a.p, .int .i64 a.n, .slice A a.ws.length c] 40)) (by go_grown) (by simp) hb; have hA := h00.trans (hB.mono (Nat.le_succ _)); obtain ⟨hcc, hff⟩ := bcellB hB; clear hb))
      go_ret2
      exact ⟨ret_val (by simp only [fitsR, canB, ht, hv]; rfl), hA⟩
  · go_enter Try.func31, Try.ntmps31
    go_wp2_with (first
      | (go_at_call 27; refine (IsText_any _ _ ss _ ?_ hf.1 hf.2).mono ?_; exact h.below h00; rintro e w' ⟨rfl, rfl⟩)
      | (go_at_call 29; refine (IsValidAmendment_any _ _ a _ ?_ hf').mono ?_; exact h'.below h00; rintro e w' ⟨rfl, hb⟩; have hB := after1 (B := w.heap.size + 1) (W0 := w.alloc (.cells #[.int .i64 a.k, .int .i64 a.p, .int .i64 a.n, .slice A a.ws.length c] 40)) (by go_grown) (by simp) hb; have hA := h00.trans (hB.mono (Nat.le_succ _)); obtain ⟨hcc, hff⟩ := bcellB hB; clear hb)
      | (go_at_call 82; refine (fitsText_any _ _ _ _ ss a _ ?_ hc hf ?_ hf' hv).mono ?_; exact h.below hA; exact h'.below hA; rintro e w' ⟨rfl, hb⟩; have hB := after1 (B := w.heap.size + 1) (W0 := w.alloc (.cells #[.int .i64 a.k, .int .i64 a.p, .int .i64 a.n, .slice A a.ws.length c] 40)) (by go_grown) (by simp) hb; have hA := h00.trans (hB.mono (Nat.le_succ _)); obtain ⟨hcc, hff⟩ := bcellB hB; clear hb))
    go_ret2
    exact ⟨ret_val (by simp only [fitsR, canB, ht]; rfl), h00⟩
set_option maxHeartbeats 800000 in
theorem sFitsText_any (T A : Option Addr) (t c : Nat) (ss : List ByteArray) (a : Amd) (w : World) (h : Cells w T (strs ss)) (hc : ss.length ≤ t) (hf : Fit ss) (h' : Cells w A (strs a.ws)) (hf' : Fit a.ws) :
    Calls Try.prog 32 #[.slice T ss.length t, .agg #[.int .i64 a.k, .int .i64 a.p, .int .i64 a.n, .slice A a.ws.length c]] w fun e w' => e = .returned (fitsR ss a) ∧ Below w.heap.size w w' := by
  have h00 : Below w.heap.size w (w.alloc (.cells #[.int .i64 a.k, .int .i64 a.p, .int .i64 a.n, .slice A a.ws.length c] 40)) := by go_grown
  rcases Bool.eq_false_or_eq_true (wordsB ss 0 20) with ht | ht
  · rcases Bool.eq_false_or_eq_true (vldA a) with hv | hv
    · rcases Bool.eq_false_or_eq_true (fitsB ss a) with hz | hz
      all_goals
        go_enter Try.func32, Try.ntmps32
        go_wp2_with (first
      | (go_at_call 65; refine (l9Text_any _ _ ss _ ?_ hf.1 hf.2).mono ?_; exact h.below h00; rintro e w' ⟨rfl, rfl⟩)
      | (go_at_call 79; refine (l9Good_any _ _ a _ ?_ hf').mono ?_; exact h'.below h00; rintro e w' ⟨rfl, hb⟩; have hB := after1 (B := w.heap.size + 1) (W0 := w.alloc (.cells #[.int .i64 a.k, .int .i64 a.p, .int .i64 a.n, .slice A a.ws.length c] 40)) (by go_grown) (by simp) hb; have hA := h00.trans (hB.mono (Nat.le_succ _)); obtain ⟨hcc, hff⟩ := bcellB hB; clear hb)
      | (go_at_call 67; refine (l9Fits_any _ _ _ _ ss a _ ?_ hc hf ?_ hf' hv).mono ?_; exact h.below hA; exact h'.below hA; rintro e w' ⟨rfl, hb⟩; have hB := after1 (B := w.heap.size + 1) (W0 := w.alloc (.cells #[.int .i64 a.k, .int .i64 a.p, .int .i64 a.n, .slice A a.ws.length c] 40)) (by go_grown) (by simp) hb; have hA := h00.trans (hB.mono (Nat.le_succ _)); obtain ⟨hcc, hff⟩ := bcellB hB; clear hb))
        go_ret2
        exact ⟨ret_val (by simp only [fitsR, canB, ht, hv, hz]; rfl), hA⟩
    · go_enter Try.func32, Try.ntmps32
      go_wp2_with (first
      | (go_at_call 65; refine (l9Text_any _ _ ss _ ?_ hf.1 hf.2).mono ?_; exact h.below h00; rintro e w' ⟨rfl, rfl⟩)
      | (go_at_call 79; refine (l9Good_any _ _ a _ ?_ hf').mono ?_; exact h'.below h00; rintro e w' ⟨rfl, hb⟩; have hB := after1 (B := w.heap.size + 1) (W0 := w.alloc (.cells #[.int .i64 a.k, .int .i64 a.p, .int .i64 a.n, .slice A a.ws.length c] 40)) (by go_grown) (by simp) hb; have hA := h00.trans (hB.mono (Nat.le_succ _)); obtain ⟨hcc, hff⟩ := bcellB hB; clear hb)
      | (go_at_call 67; refine (l9Fits_any _ _ _ _ ss a _ ?_ hc hf ?_ hf' hv).mono ?_; exact h.below hA; exact h'.below hA; rintro e w' ⟨rfl, hb⟩; have hB := after1 (B := w.heap.size + 1) (W0 := w.alloc (.cells #[.int .i64 a.k, .int .i64 a.p, .int .i64 a.n, .slice A a.ws.length c] 40)) (by go_grown) (by simp) hb; have hA := h00.trans (hB.mono (Nat.le_succ _)); obtain ⟨hcc, hff⟩ := bcellB hB; clear hb))
      go_ret2
      exact ⟨ret_val (by simp only [fitsR, canB, ht, hv]; rfl), hA⟩
  · go_enter Try.func32, Try.ntmps32
    go_wp2_with (first
      | (go_at_call 65; refine (l9Text_any _ _ ss _ ?_ hf.1 hf.2).mono ?_; exact h.below h00; rintro e w' ⟨rfl, rfl⟩)
      | (go_at_call 79; refine (l9Good_any _ _ a _ ?_ hf').mono ?_; exact h'.below h00; rintro e w' ⟨rfl, hb⟩; have hB := after1 (B := w.heap.size + 1) (W0 := w.alloc (.cells #[.int .i64 a.k, .int .i64 a.p, .int .i64 a.n, .slice A a.ws.length c] 40)) (by go_grown) (by simp) hb; have hA := h00.trans (hB.mono (Nat.le_succ _)); obtain ⟨hcc, hff⟩ := bcellB hB; clear hb)
      | (go_at_call 67; refine (l9Fits_any _ _ _ _ ss a _ ?_ hc hf ?_ hf' hv).mono ?_; exact h.below hA; exact h'.below hA; rintro e w' ⟨rfl, hb⟩; have hB := after1 (B := w.heap.size + 1) (W0 := w.alloc (.cells #[.int .i64 a.k, .int .i64 a.p, .int .i64 a.n, .slice A a.ws.length c] 40)) (by go_grown) (by simp) hb; have hA := h00.trans (hB.mono (Nat.le_succ _)); obtain ⟨hcc, hff⟩ := bcellB hB; clear hb))
    go_ret2
    exact ⟨ret_val (by simp only [fitsR, canB, ht]; rfl), h00⟩
end Go.Proofs.Ytgchbimjgdoifaa
