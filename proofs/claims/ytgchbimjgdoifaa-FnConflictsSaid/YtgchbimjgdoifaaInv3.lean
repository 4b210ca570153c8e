/- InverseAmendment, in the program and in the reference: the same amendment. Conditions: the ranges named. -/
import Derived.Test.YtgchbimjgdoifaaInv2
import Derived.Test.YtgchbimjgdoifaaOb3
namespace Go.Proofs.Ytgchbimjgdoifaa
open Go.RowKit
set_option linter.unusedVariables false
/-- A call that returns an amendment of its own and whether it could. -/
def MadeAB (w : World) (a : Amd) (ok : Bool) (e : Ending) (w' : World) : Prop := ∃ (A : Option Addr) (c : Nat), e = .returned (.tuple #[.agg #[.int .i64 a.k, .int .i64 a.p, .int .i64 a.n, .slice A a.ws.length c], .bool ok]) ∧ w'.ownsRow w.heap.size 9 1 (.slice A a.ws.length c) a.ws.length (strs a.ws) ∧ Below w.heap.size w w'
/-- The same, in the words of objects. -/
def ToAB (w : World) (a : Amd) (ok : Bool) (e : Ending) (w' : World) : Prop := ∃ (A : Option Addr) (c : Nat), e = .returned (.tuple #[.agg #[.int .i64 a.k, .int .i64 a.p, .int .i64 a.n, .slice A a.ws.length c], .bool ok]) ∧ OwS w.heap.size w'.heap.size w' A c a.ws ∧ Below w.heap.size w w'
theorem MadeAB.obj {w w' : World} {a : Amd} {ok : Bool} {e : Ending} (h : MadeAB w a ok e w') (hf : Fit a.ws) : ToAB w a ok e w' := by
  obtain ⟨A, c, he, own, hb⟩ := h
  exact ⟨A, c, he, OwS.mk own hf, hb⟩
/-- No amendment. -/
def noA : Amd := ⟨0, 0, 0, []⟩
theorem madeAB_no {w w' : World} {a : Amd} {ok : Bool} (ha : a = noA) (hok : ok = false) (hb : Below w.heap.size w w') : MadeAB w a ok (.returned (.tuple #[.agg #[.int .i64 0, .int .i64 0, .int .i64 0, .slice none 0 0], .bool false])) w' := by
  subst ha hok
  exact ⟨none, 0, rfl, World.ownsRow_nil _ _ _ _, hb⟩
/-- The amendment that InverseAmendment returns. -/
def invR (ss : List ByteArray) (a : Amd) : Amd := if canB ss a then invA ss a else noA
theorem invK_eq {ss : List ByteArray} {a : Amd} (h : canB ss a = true) : (⟨invK a.k, a.p, a.ws.length, cutW ss a.p a.n⟩ : Amd) = invA ss a := by
  unfold canB at h
  rw [Bool.and_eq_true, Bool.and_eq_true] at h
  have hfit := fitsB_le h.2
  obtain ⟨hp0, hp1, hn0, hn1, hw1, hk, _⟩ := vldA_range h.1.2
  obtain ⟨k, p, n, ws⟩ := a
  simp only at *
  obtain ⟨p, rfl⟩ := Int.eq_ofNat_of_zero_le hp0
  obtain ⟨n, rfl⟩ := Int.eq_ofNat_of_zero_le hn0
  have hl : (cutW ss p n).length = n := cutW_len (by omega)
  have hkk : invK k = kindI ws.length (cutW ss p n) := by
    unfold invK kindI
    rw [hl]
    rcases hk with ⟨rfl, h1, h2⟩ | ⟨rfl, h1, h2⟩ | ⟨rfl, h1, h2⟩
    · rw [if_pos rfl, if_neg (by omega), if_pos (by omega)]
    · rw [if_neg (by omega), if_pos rfl, if_pos (by omega)]
    · rw [if_neg (by omega), if_neg (by omega), if_neg (by omega), if_neg (by omega)]
  unfold invA
  rw [hkk]
theorem Fit.cut {ss : List ByteArray} (h : Fit ss) (p n : Int) : Fit (cutW ss p n) := by
  unfold cutW
  refine ⟨by rw [List.length_take]; exact Nat.le_trans (Nat.min_le_right _ _) (Nat.le_trans (by simp) h.1), fun s hs => h.2 s (List.mem_of_mem_drop (List.mem_of_mem_take hs))⟩
theorem Fit.inv {ss : List ByteArray} {a : Amd} (h : Fit ss) : Fit (invR ss a).ws := by
  unfold invR
  split
  · exact h.cut _ _
  · exact ⟨by simp [noA], fun s hs => by simp [noA] at hs⟩
set_option maxHeartbeats 800000 in
theorem InverseAmendment_any (T A : Option Addr) (t c : Nat) (ss : List ByteArray) (a : Amd) (w : World) (h : Cells w T (strs ss)) (hc : ss.length ≤ t) (hf : Fit ss) (h' : Cells w A (strs a.ws)) (hf' : Fit a.ws) :
    Calls Try.prog 33 #[.slice T ss.length t, .agg #[.int .i64 a.k, .int .i64 a.p, .int .i64 a.n, .slice A a.ws.length c]] w (MadeAB w (invR ss a) (canB ss a)) := by
  have h00 : Below w.heap.size w ((w.alloc (.cells #[.int .i64 a.k, .int .i64 a.p, .int .i64 a.n, .slice A a.ws.length c] 40)).alloc (.cells #[.int .i64 0, .int .i64 0, .int .i64 0, .slice none 0 0] 40)) := below2 w _ _
  rcases Bool.eq_false_or_eq_true (canB ss a) with hcan | hcan
  · have hz1 := hcan
    unfold canB at hz1
    rw [Bool.and_eq_true, Bool.and_eq_true] at hz1
    obtain ⟨⟨ht, hv⟩, hfi⟩ := hz1
    obtain ⟨_, _, _, _, hw5, _⟩ := vldA_range hv
    have hAP : invR ss a = invA ss a := by unfold invR; rw [if_pos hcan]
    rw [hAP, ← invK_eq hcan]
    clear hAP
    go_enter Try.func33, Try.ntmps33
    go_wp2_with (first
      | (go_at_call 77; refine (canAmend_any _ _ _ _ ss a _ ?_ hc hf ?_ hf').mono ?_; exact h.below h00; exact h'.below h00; rintro e w1 ⟨rfl, hb⟩; rw [hcan]; have hB := after1 (B := w.heap.size + 2) (W0 := ((w.alloc (.cells #[.int .i64 a.k, .int .i64 a.p, .int .i64 a.n, .slice A a.ws.length c] 40)).alloc (.cells #[.int .i64 0, .int .i64 0, .int .i64 0, .slice none 0 0] 40))) (Below.refl _ _) (by simp) hb; have hA := fin_below hB (by omega); obtain ⟨hcc, hff⟩ := bcellB hB; have hz1 : w.heap.size + 2 ≤ w1.heap.size := (by have := hB.size; simp at this; omega); clear hb)
      | (go_at_call 75; refine (inverse_any T A t c ss a _ ?_ hc hf (Small.of hv) hw5 (fitsB_le hfi)).mono ?_; exact h.below hA; rintro e w2 ⟨O, d, rfl, own, hb⟩; have HO := Lib.hid (own_mono own hz1); have hB2 := after1 hB (by simp) hb; have hA2 := fin_below hB2 (by omega); clear hcc hff; obtain ⟨hcc, hff⟩ := bcellB hB2; have hz2 : w.heap.size + 1 < w2.heap.size := (by have := hB2.size; simp at this; omega); clear own hb))
    refine bodyPost_ret (v := .tuple #[.agg #[.int .i64 (invK a.k), .int .i64 a.p, .int .i64 a.ws.length, .slice O (cutW ss a.p a.n).length d], .bool true]) (by simp [results, Try.results33, go_sem, hcc]) rfl ?_
    refine ⟨O, d, by rw [hcan], own_mono (own_fin4' HO.out _ _ _ _) (by omega), ?_⟩
    go_grown
  · have hAP : invR ss a = noA := by unfold invR; rw [if_neg (by simp [hcan])]
    have HAP := Lib.hid hAP
    clear hAP
    go_enter Try.func33, Try.ntmps33
    go_wp2_with (go_at_call 77; refine (canAmend_any _ _ _ _ ss a _ ?_ hc hf ?_ hf').mono ?_; exact h.below h00; exact h'.below h00; rintro e w1 ⟨rfl, hb⟩; rw [hcan]; have hB := after1 (B := w.heap.size + 2) (W0 := ((w.alloc (.cells #[.int .i64 a.k, .int .i64 a.p, .int .i64 a.n, .slice A a.ws.length c] 40)).alloc (.cells #[.int .i64 0, .int .i64 0, .int .i64 0, .slice none 0 0] 40))) (Below.refl _ _) (by simp) hb; have hA := fin_below hB (by omega); obtain ⟨hcc, hff⟩ := bcellB hB; have hz1 : w.heap.size + 2 ≤ w1.heap.size := (by have := hB.size; simp at this; omega); clear hb)
    refine bodyPost_ret (v := .tuple #[.agg #[.int .i64 0, .int .i64 0, .int .i64 0, .slice none 0 0], .bool false]) (by simp [results, Try.results33, go_sem, hcc]) rfl ?_
    refine madeAB_no HAP.out hcan ?_
    go_grown
set_option maxHeartbeats 800000 in
theorem sInverseAmendment_any (T A : Option Addr) (t c : Nat) (ss : List ByteArray) (a : Amd) (w : World) (h : Cells w T (strs ss)) (hc : ss.length ≤ t) (hf : Fit ss) (h' : Cells w A (strs a.ws)) (hf' : Fit a.ws) :
    Calls Try.prog 34 #[.slice T ss.length t, .agg #[.int .i64 a.k, .int .i64 a.p, .int .i64 a.n, .slice A a.ws.length c]] w (MadeAB w (invR ss a) (canB ss a)) := by
  have h00 : Below w.heap.size w ((w.alloc (.cells #[.int .i64 a.k, .int .i64 a.p, .int .i64 a.n, .slice A a.ws.length c] 40)).alloc (.cells #[.int .i64 0, .int .i64 0, .int .i64 0, .slice none 0 0] 40)) := below2 w _ _
  rcases Bool.eq_false_or_eq_true (wordsB ss 0 20) with ht | ht
  · rcases Bool.eq_false_or_eq_true (vldA a) with hv | hv
    · obtain ⟨_, _, _, _, hw5, _⟩ := vldA_range hv
      rcases Bool.eq_false_or_eq_true (fitsB ss a) with hz | hz
      · have hcan : canB ss a = true := by simp only [canB, ht, hv, hz]; rfl
        have hAP : invR ss a = invA ss a := by unfold invR; rw [if_pos hcan]
        rw [hAP]
        clear hAP
        go_enter Try.func34, Try.ntmps34
        go_wp2_with (first
          | (go_at_call 65; refine (l9Text_any _ _ ss _ ?_ hf.1 hf.2).mono ?_; exact h.below h00; rintro e w' ⟨rfl, rfl⟩)
          | (go_at_call 79; refine (l9Good_any _ _ a _ ?_ hf').mono ?_; exact h'.below h00; rintro e w1 ⟨rfl, hb⟩; have hB := after1 (B := w.heap.size + 2) (W0 := ((w.alloc (.cells #[.int .i64 a.k, .int .i64 a.p, .int .i64 a.n, .slice A a.ws.length c] 40)).alloc (.cells #[.int .i64 0, .int .i64 0, .int .i64 0, .slice none 0 0] 40))) (Below.refl _ _) (by simp) hb; have hA := fin_below hB (by omega); obtain ⟨hcc, hff⟩ := bcellB hB; have hz1 : w.heap.size + 2 ≤ w1.heap.size := (by have := hB.size; simp at this; omega); clear hb)
          | (go_at_call 67; refine (l9Fits_any _ _ _ _ ss a _ ?_ hc hf ?_ hf' hv).mono ?_; exact h.below hA; exact h'.below hA; rintro e w3 ⟨rfl, hb⟩; have hB2 := after1 hB (by simp) hb; clear hA hcc hff hz1; have hA := fin_below hB2 (by omega); obtain ⟨hcc, hff⟩ := bcellB hB2; have hz1 : w.heap.size + 2 ≤ w3.heap.size := (by have := hB2.size; simp at this; omega); clear hB hb; have hB := hB2; clear hB2)
          | (go_at_call 74; refine (l9Inverse_any T A t c ss a _ ?_ hc hf (Small.of hv) hw5 (fitsB_le hz)).mono ?_; exact h.below hA; rintro e w2 ⟨O, d, rfl, own, hb⟩; have HO := Lib.hid (own_mono own hz1); have hB2 := after1 hB (by simp) hb; have hA2 := fin_below hB2 (by omega); clear hcc hff; obtain ⟨hcc, hff⟩ := bcellB hB2; have hz2 : w.heap.size + 1 < w2.heap.size := (by have := hB2.size; simp at this; omega); clear own hb))
        refine bodyPost_ret (v := .tuple #[.agg #[.int .i64 (invA ss a).k, .int .i64 (invA ss a).p, .int .i64 (invA ss a).n, .slice O (invA ss a).ws.length d], .bool true]) (by simp [results, Try.results34, go_sem, hcc]) rfl ?_
        refine ⟨O, d, by rw [hcan], own_mono (own_fin4' HO.out _ _ _ _) (by omega), ?_⟩
        go_grown
      · have hcan : canB ss a = false := by simp only [canB, ht, hv, hz]; rfl
        have HAP := Lib.hid (show invR ss a = noA by unfold invR; rw [if_neg (by simp [hcan])])
        go_enter Try.func34, Try.ntmps34
        go_wp2_with (first
          | (go_at_call 65; refine (l9Text_any _ _ ss _ ?_ hf.1 hf.2).mono ?_; exact h.below h00; rintro e w' ⟨rfl, rfl⟩)
          | (go_at_call 79; refine (l9Good_any _ _ a _ ?_ hf').mono ?_; exact h'.below h00; rintro e w1 ⟨rfl, hb⟩; have hB := after1 (B := w.heap.size + 2) (W0 := ((w.alloc (.cells #[.int .i64 a.k, .int .i64 a.p, .int .i64 a.n, .slice A a.ws.length c] 40)).alloc (.cells #[.int .i64 0, .int .i64 0, .int .i64 0, .slice none 0 0] 40))) (Below.refl _ _) (by simp) hb; have hA := fin_below hB (by omega); obtain ⟨hcc, hff⟩ := bcellB hB; have hz1 : w.heap.size + 2 ≤ w1.heap.size := (by have := hB.size; simp at this; omega); clear hb)
          | (go_at_call 67; refine (l9Fits_any _ _ _ _ ss a _ ?_ hc hf ?_ hf' hv).mono ?_; exact h.below hA; exact h'.below hA; rintro e w3 ⟨rfl, hb⟩; have hB2 := after1 hB (by simp) hb; clear hA hcc hff hz1; have hA := fin_below hB2 (by omega); obtain ⟨hcc, hff⟩ := bcellB hB2; have hz1 : w.heap.size + 2 ≤ w3.heap.size := (by have := hB2.size; simp at this; omega); clear hB hb; have hB := hB2; clear hB2))
        refine bodyPost_ret (v := .tuple #[.agg #[.int .i64 0, .int .i64 0, .int .i64 0, .slice none 0 0], .bool false]) (by simp [results, Try.results34, go_sem, hcc]) rfl ?_
        refine madeAB_no HAP.out hcan ?_
        go_grown
    · have hcan : canB ss a = false := by simp only [canB, ht, hv]; rfl
      have HAP := Lib.hid (show invR ss a = noA by unfold invR; rw [if_neg (by simp [hcan])])
      go_enter Try.func34, Try.ntmps34
      go_wp2_with (first
          | (go_at_call 65; refine (l9Text_any _ _ ss _ ?_ hf.1 hf.2).mono ?_; exact h.below h00; rintro e w' ⟨rfl, rfl⟩)
          | (go_at_call 79; refine (l9Good_any _ _ a _ ?_ hf').mono ?_; exact h'.below h00; rintro e w1 ⟨rfl, hb⟩; have hB := after1 (B := w.heap.size + 2) (W0 := ((w.alloc (.cells #[.int .i64 a.k, .int .i64 a.p, .int .i64 a.n, .slice A a.ws.length c] 40)).alloc (.cells #[.int .i64 0, .int .i64 0, .int .i64 0, .slice none 0 0] 40))) (Below.refl _ _) (by simp) hb; have hA := fin_below hB (by omega); obtain ⟨hcc, hff⟩ := bcellB hB; have hz1 : w.heap.size + 2 ≤ w1.heap.size := (by have := hB.size; simp at this; omega); clear hb))
      refine bodyPost_ret (v := .tuple #[.agg #[.int .i64 0, .int .i64 0, .int .i64 0, .slice none 0 0], .bool false]) (by simp [results, Try.results34, go_sem, hcc]) rfl ?_
      refine madeAB_no HAP.out hcan ?_
      go_grown
  · have hcan : canB ss a = false := by simp only [canB, ht]; rfl
    have HAP := Lib.hid (show invR ss a = noA by unfold invR; rw [if_neg (by simp [hcan])])
    go_enter Try.func34, Try.ntmps34
    go_wp2_with (go_at_call 65; refine (l9Text_any _ _ ss _ ?_ hf.1 hf.2).mono ?_; exact h.below h00; rintro e w' ⟨rfl, rfl⟩)
    refine bodyPost_ret (v := .tuple #[.agg #[.int .i64 0, .int .i64 0, .int .i64 0, .slice none 0 0], .bool false]) (by simp [results, Try.results34, go_sem]) rfl ?_
    refine madeAB_no HAP.out hcan ?_
    go_grown
section
variable {B B' : Nat} {w : World} {T A : Option Addr} {t c : Nat} {ss : List ByteArray} {a : Amd}
theorem InverseAmendment_abs (h : RdS B w T t ss) (h' : RdS B' w A c a.ws) : Calls Try.prog 33 #[.slice T ss.length t, .agg #[.int .i64 a.k, .int .i64 a.p, .int .i64 a.n, .slice A a.ws.length c]] w (ToAB w (invR ss a) (canB ss a)) :=
  (InverseAmendment_any T A t c ss a w h.cells h.1 h.2.2 h'.cells h'.2.2).mono fun _ _ h1 => h1.obj h.2.2.inv
theorem sInverseAmendment_abs (h : RdS B w T t ss) (h' : RdS B' w A c a.ws) : Calls Try.prog 34 #[.slice T ss.length t, .agg #[.int .i64 a.k, .int .i64 a.p, .int .i64 a.n, .slice A a.ws.length c]] w (ToAB w (invR ss a) (canB ss a)) :=
  (sInverseAmendment_any T A t c ss a w h.cells h.1 h.2.2 h'.cells h'.2.2).mono fun _ _ h1 => h1.obj h.2.2.inv
end
end Go.Proofs.Ytgchbimjgdoifaa
