/- ApplyAmendment, in the program and in the reference: the same list of words. Conditions: the ranges named. -/
import Derived.Test.YtnnphhhjkhoglaaGreatDoorApp
import Derived.Test.YtnnphhhjkhoglaaGreatDoorConf
namespace Go.Proofs.YtnnphhhjkhoglaaGreatDoor
open Go.RowKit
set_option linter.unusedVariables false
/-- The text that ApplyAmendment returns. -/
def appL (ss : List ByteArray) (a : Amd) : List ByteArray := if canB ss a then amdL ss a else []
theorem fitsB_le {ss : List ByteArray} {a : Amd} (h : fitsB ss a = true) : a.p + a.n ≤ ss.length := by
  unfold fitsB at h
  rw [Bool.and_eq_true, Bool.and_eq_true] at h
  exact of_decide_eq_true h.1.1
theorem fitsB_small {ss : List ByteArray} (h : wordsB ss 0 20 = true) : ss.length ≤ 20 := by
  unfold wordsB at h
  rw [Bool.and_eq_true, inB_iff] at h
  omega
theorem own_lit1 (w : World) (base g : Nat) (hg : g = w.heap.size) (hb : base ≤ w.heap.size) : (w.alloc (.cells #[] 9)).ownsRow base 9 1 (.slice (some ⟨g, 0, none⟩) 0 0) 0 [] := by
  subst hg
  exact World.ownsRow_lit w #[] 0 hb (by simp) (by simp)
set_option maxHeartbeats 800000 in
theorem sApplyAmendment_any (T A : Option Addr) (t c : Nat) (ss : List ByteArray) (a : Amd) (w : World) (h : Cells w T (strs ss)) (hc : ss.length ≤ t) (hf : Fit ss) (h' : Cells w A (strs a.ws)) (hf' : Fit a.ws) :
    Calls Tryz.prog 42 #[.slice T ss.length t, .agg #[.int .i64 a.k, .int .i64 a.p, .int .i64 a.n, .slice A a.ws.length c]] w fun e w' => ∃ (O : Option Addr) (d : Nat), e = .returned (.tuple #[.slice O (appL ss a).length d, .bool (canB ss a)]) ∧ w'.ownsRow w.heap.size 9 1 (.slice O (appL ss a).length d) (appL ss a).length (strs (appL ss a)) ∧ Below w.heap.size w w' := by
  have h00 : Below w.heap.size w (w.alloc (.cells #[.int .i64 a.k, .int .i64 a.p, .int .i64 a.n, .slice A a.ws.length c] 35)) := by go_grown
  rcases Bool.eq_false_or_eq_true (wordsB ss 0 20) with ht | ht
  · rcases Bool.eq_false_or_eq_true (vldA a) with hv | hv
    · obtain ⟨_, _, _, _, hw5, _⟩ := vldA_range hv
      rcases Bool.eq_false_or_eq_true (fitsB ss a) with hz | hz
      · have hcan : canB ss a = true := by simp only [canB, ht, hv, hz]; rfl
        have hAP : appL ss a = amdL ss a := by unfold appL; rw [if_pos hcan]
        rw [hAP, hcan]
        go_enter Tryz.func42, Tryz.ntmps42
        go_wp2_with (first
      | (go_at_call 21; refine (l9Text_any _ _ ss _ ?_ hf.1 hf.2).mono ?_; exact h.below h00; rintro e w' ⟨rfl, rfl⟩)
      | (go_at_call 34; refine (l9Good_any _ _ a _ ?_ hf').mono ?_; exact h'.below h00; rintro e w' ⟨rfl, hb⟩; have hB := after1 (B := w.heap.size + 1) (W0 := w.alloc (.cells #[.int .i64 a.k, .int .i64 a.p, .int .i64 a.n, .slice A a.ws.length c] 35)) (by go_grown) (by simp) hb; have hA := h00.trans (hB.mono (Nat.le_succ _)); obtain ⟨hcc, hff⟩ := bcellB hB; clear hb)
      | (go_at_call 23; refine (l9Fits_any _ _ _ _ ss a _ ?_ hc hf ?_ hf' hv).mono ?_; exact h.below hA; exact h'.below hA; rintro e w' ⟨rfl, hb⟩; have hB := after1 (B := w.heap.size + 1) (W0 := w.alloc (.cells #[.int .i64 a.k, .int .i64 a.p, .int .i64 a.n, .slice A a.ws.length c] 35)) (by go_grown) (by simp) hb; have hA := h00.trans (hB.mono (Nat.le_succ _)); obtain ⟨hcc, hff⟩ := bcellB hB; clear hb)
      | (go_at_call 24; refine (l9Apply_any _ _ _ _ ss a _ ?_ hc hf ?_ hf' (Small.of hv) (fitsB_le hz) hw5 (fitsB_small ht)).mono ?_; exact h.below hA; exact h'.below hA; rintro e w2 ⟨O, d, rfl, own, hb⟩; have HO := Lib.hid (own_mono own hA.size); have hA2 := after hA hb; clear own hb))
        go_ret2
        exact ⟨O, d, rfl, HO.out, hA2⟩
      · have hcan : canB ss a = false := by simp only [canB, ht, hv, hz]; rfl
        have hAP : appL ss a = [] := by unfold appL; rw [if_neg (by simp [hcan])]
        rw [hAP, hcan]
        go_enter Tryz.func42, Tryz.ntmps42
        go_wp2_with (first
      | (go_at_call 21; refine (l9Text_any _ _ ss _ ?_ hf.1 hf.2).mono ?_; exact h.below h00; rintro e w' ⟨rfl, rfl⟩)
      | (go_at_call 34; refine (l9Good_any _ _ a _ ?_ hf').mono ?_; exact h'.below h00; rintro e w' ⟨rfl, hb⟩; have hB := after1 (B := w.heap.size + 1) (W0 := w.alloc (.cells #[.int .i64 a.k, .int .i64 a.p, .int .i64 a.n, .slice A a.ws.length c] 35)) (by go_grown) (by simp) hb; have hA := h00.trans (hB.mono (Nat.le_succ _)); obtain ⟨hcc, hff⟩ := bcellB hB; clear hb)
      | (go_at_call 23; refine (l9Fits_any _ _ _ _ ss a _ ?_ hc hf ?_ hf' hv).mono ?_; exact h.below hA; exact h'.below hA; rintro e w' ⟨rfl, hb⟩; have hB := after1 (B := w.heap.size + 1) (W0 := w.alloc (.cells #[.int .i64 a.k, .int .i64 a.p, .int .i64 a.n, .slice A a.ws.length c] 35)) (by go_grown) (by simp) hb; have hA := h00.trans (hB.mono (Nat.le_succ _)); obtain ⟨hcc, hff⟩ := bcellB hB; clear hb))
        go_ret2
        exact ⟨_, _, rfl, own_lit1 _ _ _ (by first | rfl | simp) hA.size, hA.alloc hA.size _⟩
    · have hcan : canB ss a = false := by simp only [canB, ht, hv]; rfl
      have hAP : appL ss a = [] := by unfold appL; rw [if_neg (by simp [hcan])]
      rw [hAP, hcan]
      go_enter Tryz.func42, Tryz.ntmps42
      go_wp2_with (first
      | (go_at_call 21; refine (l9Text_any _ _ ss _ ?_ hf.1 hf.2).mono ?_; exact h.below h00; rintro e w' ⟨rfl, rfl⟩)
      | (go_at_call 34; refine (l9Good_any _ _ a _ ?_ hf').mono ?_; exact h'.below h00; rintro e w' ⟨rfl, hb⟩; have hB := after1 (B := w.heap.size + 1) (W0 := w.alloc (.cells #[.int .i64 a.k, .int .i64 a.p, .int .i64 a.n, .slice A a.ws.length c] 35)) (by go_grown) (by simp) hb; have hA := h00.trans (hB.mono (Nat.le_succ _)); obtain ⟨hcc, hff⟩ := bcellB hB; clear hb))
      go_ret2
      exact ⟨_, _, rfl, own_lit1 _ _ _ (by first | rfl | simp) hA.size, hA.alloc hA.size _⟩
  · have hcan : canB ss a = false := by simp only [canB, ht]; rfl
    have hAP : appL ss a = [] := by unfold appL; rw [if_neg (by simp [hcan])]
    rw [hAP, hcan]
    go_enter Tryz.func42, Tryz.ntmps42
    go_wp2_with (first
      | (go_at_call 21; refine (l9Text_any _ _ ss _ ?_ hf.1 hf.2).mono ?_; exact h.below h00; rintro e w' ⟨rfl, rfl⟩))
    go_ret2
    exact ⟨_, _, rfl, own_lit1 _ _ _ (by first | rfl | simp) h00.size, h00.alloc h00.size _⟩
end Go.Proofs.YtnnphhhjkhoglaaGreatDoor
