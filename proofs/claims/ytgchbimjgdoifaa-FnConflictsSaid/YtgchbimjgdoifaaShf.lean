/- ShiftedChange, in the program and in the reference: the same amendment. Conditions: the ranges named. -/
import Derived.Test.YtgchbimjgdoifaaInv3
namespace Go.Proofs.Ytgchbimjgdoifaa
open Go.RowKit
set_option linter.unusedVariables false
theorem fin_below3 {w w1 : World} {o1 o2 o3 : Obj} {B : Nat} (h : Below B (((w.alloc o1).alloc o2).alloc o3) w1) (hB : w.heap.size ≤ B) : Below w.heap.size w w1 := (below3 w o1 o2 o3).trans (h.mono hB)
/-- An amendment that has been shifted. -/
def shB (a b : Amd) : Bool := decide (b.p < a.p) || (decide (b.p = a.p) && decide (0 < a.n))
def shA (a b : Amd) : Amd := if shB a b then ⟨a.k, a.p + (b.ws.length - b.n), a.n, a.ws⟩ else a
def shOk (a b : Amd) : Bool := vldA a && vldA b && !conB a b && vldA (shA a b)
def shR (a b : Amd) : Amd := if shOk a b then shA a b else noA
theorem shA_ws (a b : Amd) : (shA a b).ws = a.ws := by unfold shA; split <;> rfl
theorem Fit.shift {a b : Amd} (h : Fit a.ws) : Fit (shR a b).ws := by
  unfold shR
  split
  · rw [shA_ws]; exact h
  · exact ⟨by simp [noA], fun s hs => by simp [noA] at hs⟩
theorem shR_no {a b : Amd} (h : shOk a b = false) : shR a b = noA := by unfold shR; rw [if_neg (by simp [h])]
theorem kindI_eq {a : Amd} (h : vldA a = true) : kindI a.n a.ws = a.k := by
  obtain ⟨_, _, _, _, _, hk, _⟩ := vldA_range h
  unfold kindI
  rcases hk with ⟨h0, h1, h2⟩ | ⟨h0, h1, h2⟩ | ⟨h0, h1, h2⟩
  · rw [if_pos h1, h0]
  · rw [if_neg (by omega), if_pos h2, h0]
  · rw [if_neg (by omega), if_neg (by omega), h0]
set_option maxHeartbeats 800000 in
theorem newAmendment_any (A : Option Addr) (c : Nat) (a : Amd) (w : World) (h : Cells w A (strs a.ws)) (hf : Fit a.ws) :
    Calls Try.prog 92 #[.agg #[.int .i64 a.k, .int .i64 a.p, .int .i64 a.n, .slice A a.ws.length c]] w (MadeA w a) := by
  have H := Lib.hid h
  have hn := hf.1
  clear h hf
  go_enter Try.func92, Try.ntmps92
  go_wp2_with (at_builtin; refine list_append_lit elStr _ rfl _ _ rfl (w.heap.size + 2) _ A _ _ (strs a.ws) rfl rfl (strs_len1 _) (own_nil_lit _ _ _ _ _ (by simp) (by simp)) (((H.out.alloc_ _).alloc_ _).alloc_ _) strs_one (by simp) (by omega) ?_; intro O d w1 own hb hq; have HO := Lib.hid own; obtain ⟨hc, hf⟩ := bcell hb; have h1 := fun o => hc w.heap.size o (by simp only [World.size_alloc]; omega); have f1 := fun o => hf w.heap.size o (by simp only [World.size_alloc]; omega); have h2 := fun o => hc (w.heap.size + 1) o (by simp only [World.size_alloc]; omega); have f2 := fun o => hf (w.heap.size + 1) o (by simp only [World.size_alloc]; omega); have HB := Lib.hid (after (below3 w _ _ _) hb); have hz : w.heap.size + 1 < w1.heap.size := (by have := hb.size; simp only [World.size_alloc] at this; omega); have c0 := h1 0; have c1 := h1 1; have c2 := h1 2; have c3 := h1 3; simp [go_sem] at c0 c1 c2 c3; clear own hb hc hf hq h1)
  refine bodyPost_ret (v := .agg #[.int .i64 a.k, .int .i64 a.p, .int .i64 a.n, .slice O a.ws.length d]) (by simp [results, Try.results92, go_sem, h2]) rfl ?_
  refine ⟨O, d, rfl, ?_, ?_⟩
  · exact own_mono (own_off4 (ownsRow_setCell_other HO.out (fun e => by have := (HO.out.lt _ e).1; simp at this; omega) _) (fun e => by have := (HO.out.lt _ e).1; omega) _ _ _ _) (by omega)
  · have := HB.out
    go_grown
set_option maxHeartbeats 1600000 in
theorem ShiftedChange_any (A A' : Option Addr) (c c' : Nat) (a b : Amd) (w : World) (h : Cells w A (strs a.ws)) (hf : Fit a.ws) (h' : Cells w A' (strs b.ws)) (hf' : Fit b.ws) :
    Calls Try.prog 43 #[.agg #[.int .i64 a.k, .int .i64 a.p, .int .i64 a.n, .slice A a.ws.length c], .agg #[.int .i64 b.k, .int .i64 b.p, .int .i64 b.n, .slice A' b.ws.length c']] w (MadeAB w (shR a b) (shOk a b)) := by
  have h00 : Below w.heap.size w (((w.alloc (.cells #[.int .i64 a.k, .int .i64 a.p, .int .i64 a.n, .slice A a.ws.length c] 40)).alloc (.cells #[.int .i64 b.k, .int .i64 b.p, .int .i64 b.n, .slice A' b.ws.length c'] 40)).alloc (.cells #[.int .i64 0, .int .i64 0, .int .i64 0, .slice none 0 0] 40)) := below3 w _ _ _
  rcases Bool.eq_false_or_eq_true (vldA a) with hv | hv
  · rcases Bool.eq_false_or_eq_true (vldA b) with hv' | hv'
    · rcases Bool.eq_false_or_eq_true (conB a b) with hcn | hcn
      · skip
        have hok : shOk a b = false := by simp only [shOk, hv, hv', hcn]; simp
        have HNO := Lib.hid (shR_no hok)
        go_enter Try.func43, Try.ntmps43
        go_wp2_with (first
          | (go_at_call_of 29 (.agg #[.int .i64 a.k, .int .i64 a.p, .int .i64 a.n, .slice A a.ws.length c] : Value); refine (IsValidAmendment_any _ _ a _ ?_ hf).mono ?_; exact h.below h00; rintro e w1 ⟨rfl, hb⟩; (first | (have hB2 := after1 hB (by simp) hb; clear hB hA hcc hff hz1; have hB := hB2; clear hB2) | have hB := after1 (B := w.heap.size + 3) (W0 := (((w.alloc (.cells #[.int .i64 a.k, .int .i64 a.p, .int .i64 a.n, .slice A a.ws.length c] 40)).alloc (.cells #[.int .i64 b.k, .int .i64 b.p, .int .i64 b.n, .slice A' b.ws.length c'] 40)).alloc (.cells #[.int .i64 0, .int .i64 0, .int .i64 0, .slice none 0 0] 40))) (Below.refl _ _) (by simp) hb); have hA := fin_below3 hB (by omega); obtain ⟨hcc, hff⟩ := bcellB hB; have hz1 : w.heap.size + 3 ≤ w1.heap.size := (by have := hB.size; simp at this; omega); clear hb)
          | (go_at_call_of 29 (.agg #[.int .i64 b.k, .int .i64 b.p, .int .i64 b.n, .slice A' b.ws.length c'] : Value); refine (IsValidAmendment_any _ _ b _ ?_ hf').mono ?_; exact h'.below hA; rintro e w2 ⟨rfl, hb⟩; have hB2 := after1 hB (by simp) hb; clear hA hcc hff hz1; have hA := fin_below3 hB2 (by omega); obtain ⟨hcc, hff⟩ := bcellB hB2; have hz1 : w.heap.size + 3 ≤ w2.heap.size := (by have := hB2.size; simp at this; omega); clear hB hb; have hB := hB2; clear hB2)
          | (go_at_call 90; refine (doConflict_any A A' c c' a b _ (Small.of hv) (Small.of hv') hf.1 hf'.1).mono ?_; rintro e w3 ⟨rfl, hb⟩; have hB2 := after1 hB (by simp) hb; clear hA hcc hff hz1; have hA := fin_below3 hB2 (by omega); obtain ⟨hcc, hff⟩ := bcellB hB2; have hz1 : w.heap.size + 3 ≤ w3.heap.size := (by have := hB2.size; simp at this; omega); clear hB hb; have hB := hB2; clear hB2))
        refine bodyPost_ret (v := .tuple #[.agg #[.int .i64 0, .int .i64 0, .int .i64 0, .slice none 0 0], .bool false]) (by simp [results, Try.results43, go_sem, hcc]) rfl ?_
        refine madeAB_no HNO.out hok ?_
        go_grown
      · obtain ⟨r1, r2, r3, r4, r5, _⟩ := vldA_range hv
        obtain ⟨r6, r7, r8, r9, r10, _⟩ := vldA_range hv'
        rcases Int.lt_trichotomy b.p a.p with hlt | heq | hgt
        · have hs : shB a b = true := by unfold shB; rw [decide_eq_true hlt]; rfl
          have hsh : shA a b = ⟨a.k, a.p + (b.ws.length - b.n), a.n, a.ws⟩ := by unfold shA; rw [if_pos hs]
          have hq : vldA ⟨a.k, (a.p + (↑b.ws.length - b.n)), a.n, a.ws⟩ = vldA (shA a b) := by rw [hsh]
          rcases Bool.eq_false_or_eq_true (vldA (shA a b)) with hvs | hvs
          · have hok : shOk a b = true := by simp only [shOk, hv, hv', hcn, hvs]; rfl
            have HYES := Lib.hid (show shR a b = ⟨a.k, (a.p + (↑b.ws.length - b.n)), a.n, a.ws⟩ by unfold shR; rw [if_pos hok, hsh])
            rw [hvs] at hq
            have HQ := Lib.hid hq
            clear hq hsh hs
            go_enter Try.func43, Try.ntmps43
            go_wp2_with (first
              | (go_at_call_of 29 (.agg #[.int .i64 a.k, .int .i64 a.p, .int .i64 a.n, .slice A a.ws.length c] : Value); refine (IsValidAmendment_any _ _ a _ ?_ hf).mono ?_; exact h.below h00; rintro e w1 ⟨rfl, hb⟩; (first | (have hB2 := after1 hB (by simp) hb; clear hB hA hcc hff hz1; have hB := hB2; clear hB2) | have hB := after1 (B := w.heap.size + 3) (W0 := (((w.alloc (.cells #[.int .i64 a.k, .int .i64 a.p, .int .i64 a.n, .slice A a.ws.length c] 40)).alloc (.cells #[.int .i64 b.k, .int .i64 b.p, .int .i64 b.n, .slice A' b.ws.length c'] 40)).alloc (.cells #[.int .i64 0, .int .i64 0, .int .i64 0, .slice none 0 0] 40))) (Below.refl _ _) (by simp) hb); have hA := fin_below3 hB (by omega); obtain ⟨hcc, hff⟩ := bcellB hB; have hz1 : w.heap.size + 3 ≤ w1.heap.size := (by have := hB.size; simp at this; omega); clear hb)
              | (go_at_call_of 29 (.agg #[.int .i64 b.k, .int .i64 b.p, .int .i64 b.n, .slice A' b.ws.length c'] : Value); refine (IsValidAmendment_any _ _ b _ ?_ hf').mono ?_; exact h'.below hA; rintro e w2 ⟨rfl, hb⟩; have hB2 := after1 hB (by simp) hb; clear hA hcc hff hz1; have hA := fin_below3 hB2 (by omega); obtain ⟨hcc, hff⟩ := bcellB hB2; have hz1 : w.heap.size + 3 ≤ w2.heap.size := (by have := hB2.size; simp at this; omega); clear hB hb; have hB := hB2; clear hB2)
              | (go_at_call 90; refine (doConflict_any A A' c c' a b _ (Small.of hv) (Small.of hv') hf.1 hf'.1).mono ?_; rintro e w3 ⟨rfl, hb⟩; have hB2 := after1 hB (by simp) hb; clear hA hcc hff hz1; have hA := fin_below3 hB2 (by omega); obtain ⟨hcc, hff⟩ := bcellB hB2; have hz1 : w.heap.size + 3 ≤ w3.heap.size := (by have := hB2.size; simp at this; omega); clear hB hb; have hB := hB2; clear hB2)
              | (go_at_call 92; refine (newAmendment_any A c a _ ?_ hf).mono ?_; exact h.below hA; rintro e w4 ⟨O, d, rfl, own, hb⟩; have HO := Lib.hid (own_mono own hz1); have hB2 := after1 hB (by simp) hb; clear hA hcc hff hz1; have hA := fin_below3 hB2 (by omega); obtain ⟨hcc, hff⟩ := bcellB hB2; have hz1 : w.heap.size + 3 ≤ w4.heap.size := (by have := hB2.size; simp at this; omega); clear hB hb; have hB := hB2; clear hB2; have y0 : w.heap.size < w4.heap.size := (by omega); have y1 : w.heap.size + 1 < w4.heap.size := (by omega); have y2 : w.heap.size + 1 + 1 < w4.heap.size := (by omega); clear own)
              | (go_at_call 29; (with_reducible refine (IsValidAmendment_any O d ⟨a.k, (a.p + (↑b.ws.length - b.n)), a.n, a.ws⟩ _ ?_ hf).mono ?_); exact (Cells.of_own HO.out).alloc_ _; rintro e w5 ⟨rfl, hb⟩; rw [HQ.out]; obtain ⟨hg, hgf⟩ := bcell hb; have g1 := fun o => hg w4.heap.size o (by simp); have gf := fun o => hgf w4.heap.size o (by simp); have HO5 := Lib.hid (own_keep (own_alloc HO.out _) hb); have hB2 := after1 (hB.alloc hz1 _) (by simp) hb; clear hA hcc hff hz1 hg hgf; have hA := fin_below3 hB2 (by omega); obtain ⟨hcc, hff⟩ := bcellB hB2; have hz1 : w.heap.size + 3 ≤ w5.heap.size := (by have := hB2.size; simp at this; omega); clear hB hb; have hB := hB2; clear hB2; have y3 : w.heap.size + 1 + 1 < w5.heap.size := (by omega)))
            refine bodyPost_ret (v := .tuple #[.agg #[.int .i64 a.k, .int .i64 (a.p + (↑b.ws.length - b.n)), .int .i64 a.n, .slice O a.ws.length d], .bool true]) (by simp [results, Try.results43, go_sem, hcc]) rfl ?_
            rw [HYES.out, hok]
            refine ⟨O, d, rfl, own_mono (own_off4 HO5.out (fun e => by have := (HO5.out.lt _ e).1; omega) _ _ _ _) (by omega), ?_⟩
            go_grown
          · have hok : shOk a b = false := by simp only [shOk, hv, hv', hcn, hvs]; rfl
            have HNO := Lib.hid (shR_no hok)
            rw [hvs] at hq
            have HQ := Lib.hid hq
            clear hq hsh hs
            go_enter Try.func43, Try.ntmps43
            go_wp2_with (first
              | (go_at_call_of 29 (.agg #[.int .i64 a.k, .int .i64 a.p, .int .i64 a.n, .slice A a.ws.length c] : Value); refine (IsValidAmendment_any _ _ a _ ?_ hf).mono ?_; exact h.below h00; rintro e w1 ⟨rfl, hb⟩; (first | (have hB2 := after1 hB (by simp) hb; clear hB hA hcc hff hz1; have hB := hB2; clear hB2) | have hB := after1 (B := w.heap.size + 3) (W0 := (((w.alloc (.cells #[.int .i64 a.k, .int .i64 a.p, .int .i64 a.n, .slice A a.ws.length c] 40)).alloc (.cells #[.int .i64 b.k, .int .i64 b.p, .int .i64 b.n, .slice A' b.ws.length c'] 40)).alloc (.cells #[.int .i64 0, .int .i64 0, .int .i64 0, .slice none 0 0] 40))) (Below.refl _ _) (by simp) hb); have hA := fin_below3 hB (by omega); obtain ⟨hcc, hff⟩ := bcellB hB; have hz1 : w.heap.size + 3 ≤ w1.heap.size := (by have := hB.size; simp at this; omega); clear hb)
              | (go_at_call_of 29 (.agg #[.int .i64 b.k, .int .i64 b.p, .int .i64 b.n, .slice A' b.ws.length c'] : Value); refine (IsValidAmendment_any _ _ b _ ?_ hf').mono ?_; exact h'.below hA; rintro e w2 ⟨rfl, hb⟩; have hB2 := after1 hB (by simp) hb; clear hA hcc hff hz1; have hA := fin_below3 hB2 (by omega); obtain ⟨hcc, hff⟩ := bcellB hB2; have hz1 : w.heap.size + 3 ≤ w2.heap.size := (by have := hB2.size; simp at this; omega); clear hB hb; have hB := hB2; clear hB2)
              | (go_at_call 90; refine (doConflict_any A A' c c' a b _ (Small.of hv) (Small.of hv') hf.1 hf'.1).mono ?_; rintro e w3 ⟨rfl, hb⟩; have hB2 := after1 hB (by simp) hb; clear hA hcc hff hz1; have hA := fin_below3 hB2 (by omega); obtain ⟨hcc, hff⟩ := bcellB hB2; have hz1 : w.heap.size + 3 ≤ w3.heap.size := (by have := hB2.size; simp at this; omega); clear hB hb; have hB := hB2; clear hB2)
              | (go_at_call 92; refine (newAmendment_any A c a _ ?_ hf).mono ?_; exact h.below hA; rintro e w4 ⟨O, d, rfl, own, hb⟩; have HO := Lib.hid (own_mono own hz1); have hB2 := after1 hB (by simp) hb; clear hA hcc hff hz1; have hA := fin_below3 hB2 (by omega); obtain ⟨hcc, hff⟩ := bcellB hB2; have hz1 : w.heap.size + 3 ≤ w4.heap.size := (by have := hB2.size; simp at this; omega); clear hB hb; have hB := hB2; clear hB2; have y0 : w.heap.size < w4.heap.size := (by omega); have y1 : w.heap.size + 1 < w4.heap.size := (by omega); have y2 : w.heap.size + 1 + 1 < w4.heap.size := (by omega); clear own)
              | (go_at_call 29; (with_reducible refine (IsValidAmendment_any O d ⟨a.k, (a.p + (↑b.ws.length - b.n)), a.n, a.ws⟩ _ ?_ hf).mono ?_); exact (Cells.of_own HO.out).alloc_ _; rintro e w5 ⟨rfl, hb⟩; rw [HQ.out]; obtain ⟨hg, hgf⟩ := bcell hb; have g1 := fun o => hg w4.heap.size o (by simp); have gf := fun o => hgf w4.heap.size o (by simp); have HO5 := Lib.hid (own_keep (own_alloc HO.out _) hb); have hB2 := after1 (hB.alloc hz1 _) (by simp) hb; clear hA hcc hff hz1 hg hgf; have hA := fin_below3 hB2 (by omega); obtain ⟨hcc, hff⟩ := bcellB hB2; have hz1 : w.heap.size + 3 ≤ w5.heap.size := (by have := hB2.size; simp at this; omega); clear hB hb; have hB := hB2; clear hB2; have y3 : w.heap.size + 1 + 1 < w5.heap.size := (by omega)))
            refine bodyPost_ret (v := .tuple #[.agg #[.int .i64 0, .int .i64 0, .int .i64 0, .slice none 0 0], .bool false]) (by simp [results, Try.results43, go_sem, hcc]) rfl ?_
            refine madeAB_no HNO.out hok ?_
            go_grown
        · have e1 : (b.p == a.p) = true := by simp [heq]
          have e2 : ¬ b.p < a.p := by omega
          by_cases h0 : 0 < a.n
          · have hs : shB a b = true := by unfold shB; rw [decide_eq_false e2, decide_eq_true heq, decide_eq_true h0]; rfl
            clear heq
            have hsh : shA a b = ⟨a.k, a.p + (b.ws.length - b.n), a.n, a.ws⟩ := by unfold shA; rw [if_pos hs]
            have hq : vldA ⟨a.k, (a.p + (↑b.ws.length - b.n)), a.n, a.ws⟩ = vldA (shA a b) := by rw [hsh]
            rcases Bool.eq_false_or_eq_true (vldA (shA a b)) with hvs | hvs
            · have hok : shOk a b = true := by simp only [shOk, hv, hv', hcn, hvs]; rfl
              have HYES := Lib.hid (show shR a b = ⟨a.k, (a.p + (↑b.ws.length - b.n)), a.n, a.ws⟩ by unfold shR; rw [if_pos hok, hsh])
              rw [hvs] at hq
              have HQ := Lib.hid hq
              clear hq hsh hs
              go_enter Try.func43, Try.ntmps43
              go_wp2_with (first
                | (go_at_call_of 29 (.agg #[.int .i64 a.k, .int .i64 a.p, .int .i64 a.n, .slice A a.ws.length c] : Value); refine (IsValidAmendment_any _ _ a _ ?_ hf).mono ?_; exact h.below h00; rintro e w1 ⟨rfl, hb⟩; (first | (have hB2 := after1 hB (by simp) hb; clear hB hA hcc hff hz1; have hB := hB2; clear hB2) | have hB := after1 (B := w.heap.size + 3) (W0 := (((w.alloc (.cells #[.int .i64 a.k, .int .i64 a.p, .int .i64 a.n, .slice A a.ws.length c] 40)).alloc (.cells #[.int .i64 b.k, .int .i64 b.p, .int .i64 b.n, .slice A' b.ws.length c'] 40)).alloc (.cells #[.int .i64 0, .int .i64 0, .int .i64 0, .slice none 0 0] 40))) (Below.refl _ _) (by simp) hb); have hA := fin_below3 hB (by omega); obtain ⟨hcc, hff⟩ := bcellB hB; have hz1 : w.heap.size + 3 ≤ w1.heap.size := (by have := hB.size; simp at this; omega); clear hb)
                | (go_at_call_of 29 (.agg #[.int .i64 b.k, .int .i64 b.p, .int .i64 b.n, .slice A' b.ws.length c'] : Value); refine (IsValidAmendment_any _ _ b _ ?_ hf').mono ?_; exact h'.below hA; rintro e w2 ⟨rfl, hb⟩; have hB2 := after1 hB (by simp) hb; clear hA hcc hff hz1; have hA := fin_below3 hB2 (by omega); obtain ⟨hcc, hff⟩ := bcellB hB2; have hz1 : w.heap.size + 3 ≤ w2.heap.size := (by have := hB2.size; simp at this; omega); clear hB hb; have hB := hB2; clear hB2)
                | (go_at_call 90; refine (doConflict_any A A' c c' a b _ (Small.of hv) (Small.of hv') hf.1 hf'.1).mono ?_; rintro e w3 ⟨rfl, hb⟩; have hB2 := after1 hB (by simp) hb; clear hA hcc hff hz1; have hA := fin_below3 hB2 (by omega); obtain ⟨hcc, hff⟩ := bcellB hB2; have hz1 : w.heap.size + 3 ≤ w3.heap.size := (by have := hB2.size; simp at this; omega); clear hB hb; have hB := hB2; clear hB2)
                | (go_at_call 92; refine (newAmendment_any A c a _ ?_ hf).mono ?_; exact h.below hA; rintro e w4 ⟨O, d, rfl, own, hb⟩; have HO := Lib.hid (own_mono own hz1); have hB2 := after1 hB (by simp) hb; clear hA hcc hff hz1; have hA := fin_below3 hB2 (by omega); obtain ⟨hcc, hff⟩ := bcellB hB2; have hz1 : w.heap.size + 3 ≤ w4.heap.size := (by have := hB2.size; simp at this; omega); clear hB hb; have hB := hB2; clear hB2; have y0 : w.heap.size < w4.heap.size := (by omega); have y1 : w.heap.size + 1 < w4.heap.size := (by omega); have y2 : w.heap.size + 1 + 1 < w4.heap.size := (by omega); clear own)
                | (go_at_call 29; (with_reducible refine (IsValidAmendment_any O d ⟨a.k, (a.p + (↑b.ws.length - b.n)), a.n, a.ws⟩ _ ?_ hf).mono ?_); exact (Cells.of_own HO.out).alloc_ _; rintro e w5 ⟨rfl, hb⟩; rw [HQ.out]; obtain ⟨hg, hgf⟩ := bcell hb; have g1 := fun o => hg w4.heap.size o (by simp); have gf := fun o => hgf w4.heap.size o (by simp); have HO5 := Lib.hid (own_keep (own_alloc HO.out _) hb); have hB2 := after1 (hB.alloc hz1 _) (by simp) hb; clear hA hcc hff hz1 hg hgf; have hA := fin_below3 hB2 (by omega); obtain ⟨hcc, hff⟩ := bcellB hB2; have hz1 : w.heap.size + 3 ≤ w5.heap.size := (by have := hB2.size; simp at this; omega); clear hB hb; have hB := hB2; clear hB2; have y3 : w.heap.size + 1 + 1 < w5.heap.size := (by omega)))
              refine bodyPost_ret (v := .tuple #[.agg #[.int .i64 a.k, .int .i64 (a.p + (↑b.ws.length - b.n)), .int .i64 a.n, .slice O a.ws.length d], .bool true]) (by simp [results, Try.results43, go_sem, hcc]) rfl ?_
              rw [HYES.out, hok]
              refine ⟨O, d, rfl, own_mono (own_off4 HO5.out (fun e => by have := (HO5.out.lt _ e).1; omega) _ _ _ _) (by omega), ?_⟩
              go_grown
            · have hok : shOk a b = false := by simp only [shOk, hv, hv', hcn, hvs]; rfl
              have HNO := Lib.hid (shR_no hok)
              rw [hvs] at hq
              have HQ := Lib.hid hq
              clear hq hsh hs
              go_enter Try.func43, Try.ntmps43
              go_wp2_with (first
                | (go_at_call_of 29 (.agg #[.int .i64 a.k, .int .i64 a.p, .int .i64 a.n, .slice A a.ws.length c] : Value); refine (IsValidAmendment_any _ _ a _ ?_ hf).mono ?_; exact h.below h00; rintro e w1 ⟨rfl, hb⟩; (first | (have hB2 := after1 hB (by simp) hb; clear hB hA hcc hff hz1; have hB := hB2; clear hB2) | have hB := after1 (B := w.heap.size + 3) (W0 := (((w.alloc (.cells #[.int .i64 a.k, .int .i64 a.p, .int .i64 a.n, .slice A a.ws.length c] 40)).alloc (.cells #[.int .i64 b.k, .int .i64 b.p, .int .i64 b.n, .slice A' b.ws.length c'] 40)).alloc (.cells #[.int .i64 0, .int .i64 0, .int .i64 0, .slice none 0 0] 40))) (Below.refl _ _) (by simp) hb); have hA := fin_below3 hB (by omega); obtain ⟨hcc, hff⟩ := bcellB hB; have hz1 : w.heap.size + 3 ≤ w1.heap.size := (by have := hB.size; simp at this; omega); clear hb)
                | (go_at_call_of 29 (.agg #[.int .i64 b.k, .int .i64 b.p, .int .i64 b.n, .slice A' b.ws.length c'] : Value); refine (IsValidAmendment_any _ _ b _ ?_ hf').mono ?_; exact h'.below hA; rintro e w2 ⟨rfl, hb⟩; have hB2 := after1 hB (by simp) hb; clear hA hcc hff hz1; have hA := fin_below3 hB2 (by omega); obtain ⟨hcc, hff⟩ := bcellB hB2; have hz1 : w.heap.size + 3 ≤ w2.heap.size := (by have := hB2.size; simp at this; omega); clear hB hb; have hB := hB2; clear hB2)
                | (go_at_call 90; refine (doConflict_any A A' c c' a b _ (Small.of hv) (Small.of hv') hf.1 hf'.1).mono ?_; rintro e w3 ⟨rfl, hb⟩; have hB2 := after1 hB (by simp) hb; clear hA hcc hff hz1; have hA := fin_below3 hB2 (by omega); obtain ⟨hcc, hff⟩ := bcellB hB2; have hz1 : w.heap.size + 3 ≤ w3.heap.size := (by have := hB2.size; simp at this; omega); clear hB hb; have hB := hB2; clear hB2)
                | (go_at_call 92; refine (newAmendment_any A c a _ ?_ hf).mono ?_; exact h.below hA; rintro e w4 ⟨O, d, rfl, own, hb⟩; have HO := Lib.hid (own_mono own hz1); have hB2 := after1 hB (by simp) hb; clear hA hcc hff hz1; have hA := fin_below3 hB2 (by omega); obtain ⟨hcc, hff⟩ := bcellB hB2; have hz1 : w.heap.size + 3 ≤ w4.heap.size := (by have := hB2.size; simp at this; omega); clear hB hb; have hB := hB2; clear hB2; have y0 : w.heap.size < w4.heap.size := (by omega); have y1 : w.heap.size + 1 < w4.heap.size := (by omega); have y2 : w.heap.size + 1 + 1 < w4.heap.size := (by omega); clear own)
                | (go_at_call 29; (with_reducible refine (IsValidAmendment_any O d ⟨a.k, (a.p + (↑b.ws.length - b.n)), a.n, a.ws⟩ _ ?_ hf).mono ?_); exact (Cells.of_own HO.out).alloc_ _; rintro e w5 ⟨rfl, hb⟩; rw [HQ.out]; obtain ⟨hg, hgf⟩ := bcell hb; have g1 := fun o => hg w4.heap.size o (by simp); have gf := fun o => hgf w4.heap.size o (by simp); have HO5 := Lib.hid (own_keep (own_alloc HO.out _) hb); have hB2 := after1 (hB.alloc hz1 _) (by simp) hb; clear hA hcc hff hz1 hg hgf; have hA := fin_below3 hB2 (by omega); obtain ⟨hcc, hff⟩ := bcellB hB2; have hz1 : w.heap.size + 3 ≤ w5.heap.size := (by have := hB2.size; simp at this; omega); clear hB hb; have hB := hB2; clear hB2; have y3 : w.heap.size + 1 + 1 < w5.heap.size := (by omega)))
              refine bodyPost_ret (v := .tuple #[.agg #[.int .i64 0, .int .i64 0, .int .i64 0, .slice none 0 0], .bool false]) (by simp [results, Try.results43, go_sem, hcc]) rfl ?_
              refine madeAB_no HNO.out hok ?_
              go_grown
          · have hs : shB a b = false := by unfold shB; rw [decide_eq_false e2, decide_eq_true heq, decide_eq_false h0]; rfl
            clear heq
            have hsh : shA a b = a := by unfold shA; rw [if_neg (by simp [hs])]
            have hq : vldA ⟨a.k, a.p, a.n, a.ws⟩ = vldA (shA a b) := by rw [hsh]
            rcases Bool.eq_false_or_eq_true (vldA (shA a b)) with hvs | hvs
            · have hok : shOk a b = true := by simp only [shOk, hv, hv', hcn, hvs]; rfl
              have HYES := Lib.hid (show shR a b = ⟨a.k, a.p, a.n, a.ws⟩ by unfold shR; rw [if_pos hok, hsh])
              rw [hvs] at hq
              have HQ := Lib.hid hq
              clear hq hsh hs
              go_enter Try.func43, Try.ntmps43
              go_wp2_with (first
                | (go_at_call_of 29 (.agg #[.int .i64 a.k, .int .i64 a.p, .int .i64 a.n, .slice A a.ws.length c] : Value); refine (IsValidAmendment_any _ _ a _ ?_ hf).mono ?_; exact h.below h00; rintro e w1 ⟨rfl, hb⟩; (first | (have hB2 := after1 hB (by simp) hb; clear hB hA hcc hff hz1; have hB := hB2; clear hB2) | have hB := after1 (B := w.heap.size + 3) (W0 := (((w.alloc (.cells #[.int .i64 a.k, .int .i64 a.p, .int .i64 a.n, .slice A a.ws.length c] 40)).alloc (.cells #[.int .i64 b.k, .int .i64 b.p, .int .i64 b.n, .slice A' b.ws.length c'] 40)).alloc (.cells #[.int .i64 0, .int .i64 0, .int .i64 0, .slice none 0 0] 40))) (Below.refl _ _) (by simp) hb); have hA := fin_below3 hB (by omega); obtain ⟨hcc, hff⟩ := bcellB hB; have hz1 : w.heap.size + 3 ≤ w1.heap.size := (by have := hB.size; simp at this; omega); clear hb)
                | (go_at_call_of 29 (.agg #[.int .i64 b.k, .int .i64 b.p, .int .i64 b.n, .slice A' b.ws.length c'] : Value); refine (IsValidAmendment_any _ _ b _ ?_ hf').mono ?_; exact h'.below hA; rintro e w2 ⟨rfl, hb⟩; have hB2 := after1 hB (by simp) hb; clear hA hcc hff hz1; have hA := fin_below3 hB2 (by omega); obtain ⟨hcc, hff⟩ := bcellB hB2; have hz1 : w.heap.size + 3 ≤ w2.heap.size := (by have := hB2.size; simp at this; omega); clear hB hb; have hB := hB2; clear hB2)
                | (go_at_call 90; refine (doConflict_any A A' c c' a b _ (Small.of hv) (Small.of hv') hf.1 hf'.1).mono ?_; rintro e w3 ⟨rfl, hb⟩; have hB2 := after1 hB (by simp) hb; clear hA hcc hff hz1; have hA := fin_below3 hB2 (by omega); obtain ⟨hcc, hff⟩ := bcellB hB2; have hz1 : w.heap.size + 3 ≤ w3.heap.size := (by have := hB2.size; simp at this; omega); clear hB hb; have hB := hB2; clear hB2)
                | (go_at_call 92; refine (newAmendment_any A c a _ ?_ hf).mono ?_; exact h.below hA; rintro e w4 ⟨O, d, rfl, own, hb⟩; have HO := Lib.hid (own_mono own hz1); have hB2 := after1 hB (by simp) hb; clear hA hcc hff hz1; have hA := fin_below3 hB2 (by omega); obtain ⟨hcc, hff⟩ := bcellB hB2; have hz1 : w.heap.size + 3 ≤ w4.heap.size := (by have := hB2.size; simp at this; omega); clear hB hb; have hB := hB2; clear hB2; have y0 : w.heap.size < w4.heap.size := (by omega); have y1 : w.heap.size + 1 < w4.heap.size := (by omega); have y2 : w.heap.size + 1 + 1 < w4.heap.size := (by omega); clear own)
                | (go_at_call 29; (with_reducible refine (IsValidAmendment_any O d ⟨a.k, a.p, a.n, a.ws⟩ _ ?_ hf).mono ?_); exact (Cells.of_own HO.out).alloc_ _; rintro e w5 ⟨rfl, hb⟩; rw [HQ.out]; obtain ⟨hg, hgf⟩ := bcell hb; have g1 := fun o => hg w4.heap.size o (by simp); have gf := fun o => hgf w4.heap.size o (by simp); have HO5 := Lib.hid (own_keep (own_alloc HO.out _) hb); have hB2 := after1 (hB.alloc hz1 _) (by simp) hb; clear hA hcc hff hz1 hg hgf; have hA := fin_below3 hB2 (by omega); obtain ⟨hcc, hff⟩ := bcellB hB2; have hz1 : w.heap.size + 3 ≤ w5.heap.size := (by have := hB2.size; simp at this; omega); clear hB hb; have hB := hB2; clear hB2; have y3 : w.heap.size + 1 + 1 < w5.heap.size := (by omega)))
              refine bodyPost_ret (v := .tuple #[.agg #[.int .i64 a.k, .int .i64 a.p, .int .i64 a.n, .slice O a.ws.length d], .bool true]) (by simp [results, Try.results43, go_sem, hcc]) rfl ?_
              rw [HYES.out, hok]
              refine ⟨O, d, rfl, own_mono (own_off4 HO5.out (fun e => by have := (HO5.out.lt _ e).1; omega) _ _ _ _) (by omega), ?_⟩
              go_grown
            · have hok : shOk a b = false := by simp only [shOk, hv, hv', hcn, hvs]; rfl
              have HNO := Lib.hid (shR_no hok)
              rw [hvs] at hq
              have HQ := Lib.hid hq
              clear hq hsh hs
              go_enter Try.func43, Try.ntmps43
              go_wp2_with (first
                | (go_at_call_of 29 (.agg #[.int .i64 a.k, .int .i64 a.p, .int .i64 a.n, .slice A a.ws.length c] : Value); refine (IsValidAmendment_any _ _ a _ ?_ hf).mono ?_; exact h.below h00; rintro e w1 ⟨rfl, hb⟩; (first | (have hB2 := after1 hB (by simp) hb; clear hB hA hcc hff hz1; have hB := hB2; clear hB2) | have hB := after1 (B := w.heap.size + 3) (W0 := (((w.alloc (.cells #[.int .i64 a.k, .int .i64 a.p, .int .i64 a.n, .slice A a.ws.length c] 40)).alloc (.cells #[.int .i64 b.k, .int .i64 b.p, .int .i64 b.n, .slice A' b.ws.length c'] 40)).alloc (.cells #[.int .i64 0, .int .i64 0, .int .i64 0, .slice none 0 0] 40))) (Below.refl _ _) (by simp) hb); have hA := fin_below3 hB (by omega); obtain ⟨hcc, hff⟩ := bcellB hB; have hz1 : w.heap.size + 3 ≤ w1.heap.size := (by have := hB.size; simp at this; omega); clear hb)
                | (go_at_call_of 29 (.agg #[.int .i64 b.k, .int .i64 b.p, .int .i64 b.n, .slice A' b.ws.length c'] : Value); refine (IsValidAmendment_any _ _ b _ ?_ hf').mono ?_; exact h'.below hA; rintro e w2 ⟨rfl, hb⟩; have hB2 := after1 hB (by simp) hb; clear hA hcc hff hz1; have hA := fin_below3 hB2 (by omega); obtain ⟨hcc, hff⟩ := bcellB hB2; have hz1 : w.heap.size + 3 ≤ w2.heap.size := (by have := hB2.size; simp at this; omega); clear hB hb; have hB := hB2; clear hB2)
                | (go_at_call 90; refine (doConflict_any A A' c c' a b _ (Small.of hv) (Small.of hv') hf.1 hf'.1).mono ?_; rintro e w3 ⟨rfl, hb⟩; have hB2 := after1 hB (by simp) hb; clear hA hcc hff hz1; have hA := fin_below3 hB2 (by omega); obtain ⟨hcc, hff⟩ := bcellB hB2; have hz1 : w.heap.size + 3 ≤ w3.heap.size := (by have := hB2.size; simp at this; omega); clear hB hb; have hB := hB2; clear hB2)
                | (go_at_call 92; refine (newAmendment_any A c a _ ?_ hf).mono ?_; exact h.below hA; rintro e w4 ⟨O, d, rfl, own, hb⟩; have HO := Lib.hid (own_mono own hz1); have hB2 := after1 hB (by simp) hb; clear hA hcc hff hz1; have hA := fin_below3 hB2 (by omega); obtain ⟨hcc, hff⟩ := bcellB hB2; have hz1 : w.heap.size + 3 ≤ w4.heap.size := (by have := hB2.size; simp at this; omega); clear hB hb; have hB := hB2; clear hB2; have y0 : w.heap.size < w4.heap.size := (by omega); have y1 : w.heap.size + 1 < w4.heap.size := (by omega); have y2 : w.heap.size + 1 + 1 < w4.heap.size := (by omega); clear own)
                | (go_at_call 29; (with_reducible refine (IsValidAmendment_any O d ⟨a.k, a.p, a.n, a.ws⟩ _ ?_ hf).mono ?_); exact (Cells.of_own HO.out).alloc_ _; rintro e w5 ⟨rfl, hb⟩; rw [HQ.out]; obtain ⟨hg, hgf⟩ := bcell hb; have g1 := fun o => hg w4.heap.size o (by simp); have gf := fun o => hgf w4.heap.size o (by simp); have HO5 := Lib.hid (own_keep (own_alloc HO.out _) hb); have hB2 := after1 (hB.alloc hz1 _) (by simp) hb; clear hA hcc hff hz1 hg hgf; have hA := fin_below3 hB2 (by omega); obtain ⟨hcc, hff⟩ := bcellB hB2; have hz1 : w.heap.size + 3 ≤ w5.heap.size := (by have := hB2.size; simp at this; omega); clear hB hb; have hB := hB2; clear hB2; have y3 : w.heap.size + 1 + 1 < w5.heap.size := (by omega)))
              refine bodyPost_ret (v := .tuple #[.agg #[.int .i64 0, .int .i64 0, .int .i64 0, .slice none 0 0], .bool false]) (by simp [results, Try.results43, go_sem, hcc]) rfl ?_
              refine madeAB_no HNO.out hok ?_
              go_grown
        · have e1 : (b.p == a.p) = false := by simp only [beq_eq_false_iff_ne, ne_eq]; omega
          have e2 : ¬ b.p < a.p := by omega
          have hs : shB a b = false := by unfold shB; rw [decide_eq_false e2, decide_eq_false (p := b.p = a.p) (by omega)]; rfl
          have hsh : shA a b = a := by unfold shA; rw [if_neg (by simp [hs])]
          have hq : vldA ⟨a.k, a.p, a.n, a.ws⟩ = vldA (shA a b) := by rw [hsh]
          rcases Bool.eq_false_or_eq_true (vldA (shA a b)) with hvs | hvs
          · have hok : shOk a b = true := by simp only [shOk, hv, hv', hcn, hvs]; rfl
            have HYES := Lib.hid (show shR a b = ⟨a.k, a.p, a.n, a.ws⟩ by unfold shR; rw [if_pos hok, hsh])
            rw [hvs] at hq
            have HQ := Lib.hid hq
            clear hq hsh hs
            go_enter Try.func43, Try.ntmps43
            go_wp2_with (first
              | (go_at_call_of 29 (.agg #[.int .i64 a.k, .int .i64 a.p, .int .i64 a.n, .slice A a.ws.length c] : Value); refine (IsValidAmendment_any _ _ a _ ?_ hf).mono ?_; exact h.below h00; rintro e w1 ⟨rfl, hb⟩; (first | (have hB2 := after1 hB (by simp) hb; clear hB hA hcc hff hz1; have hB := hB2; clear hB2) | have hB := after1 (B := w.heap.size + 3) (W0 := (((w.alloc (.cells #[.int .i64 a.k, .int .i64 a.p, .int .i64 a.n, .slice A a.ws.length c] 40)).alloc (.cells #[.int .i64 b.k, .int .i64 b.p, .int .i64 b.n, .slice A' b.ws.length c'] 40)).alloc (.cells #[.int .i64 0, .int .i64 0, .int .i64 0, .slice none 0 0] 40))) (Below.refl _ _) (by simp) hb); have hA := fin_below3 hB (by omega); obtain ⟨hcc, hff⟩ := bcellB hB; have hz1 : w.heap.size + 3 ≤ w1.heap.size := (by have := hB.size; simp at this; omega); clear hb)
              | (go_at_call_of 29 (.agg #[.int .i64 b.k, .int .i64 b.p, .int .i64 b.n, .slice A' b.ws.length c'] : Value); refine (IsValidAmendment_any _ _ b _ ?_ hf').mono ?_; exact h'.below hA; rintro e w2 ⟨rfl, hb⟩; have hB2 := after1 hB (by simp) hb; clear hA hcc hff hz1; have hA := fin_below3 hB2 (by omega); obtain ⟨hcc, hff⟩ := bcellB hB2; have hz1 : w.heap.size + 3 ≤ w2.heap.size := (by have := hB2.size; simp at this; omega); clear hB hb; have hB := hB2; clear hB2)
              | (go_at_call 90; refine (doConflict_any A A' c c' a b _ (Small.of hv) (Small.of hv') hf.1 hf'.1).mono ?_; rintro e w3 ⟨rfl, hb⟩; have hB2 := after1 hB (by simp) hb; clear hA hcc hff hz1; have hA := fin_below3 hB2 (by omega); obtain ⟨hcc, hff⟩ := bcellB hB2; have hz1 : w.heap.size + 3 ≤ w3.heap.size := (by have := hB2.size; simp at this; omega); clear hB hb; have hB := hB2; clear hB2)
              | (go_at_call 92; refine (newAmendment_any A c a _ ?_ hf).mono ?_; exact h.below hA; rintro e w4 ⟨O, d, rfl, own, hb⟩; have HO := Lib.hid (own_mono own hz1); have hB2 := after1 hB (by simp) hb; clear hA hcc hff hz1; have hA := fin_below3 hB2 (by omega); obtain ⟨hcc, hff⟩ := bcellB hB2; have hz1 : w.heap.size + 3 ≤ w4.heap.size := (by have := hB2.size; simp at this; omega); clear hB hb; have hB := hB2; clear hB2; have y0 : w.heap.size < w4.heap.size := (by omega); have y1 : w.heap.size + 1 < w4.heap.size := (by omega); have y2 : w.heap.size + 1 + 1 < w4.heap.size := (by omega); clear own)
              | (go_at_call 29; (with_reducible refine (IsValidAmendment_any O d ⟨a.k, a.p, a.n, a.ws⟩ _ ?_ hf).mono ?_); exact (Cells.of_own HO.out).alloc_ _; rintro e w5 ⟨rfl, hb⟩; rw [HQ.out]; obtain ⟨hg, hgf⟩ := bcell hb; have g1 := fun o => hg w4.heap.size o (by simp); have gf := fun o => hgf w4.heap.size o (by simp); have HO5 := Lib.hid (own_keep (own_alloc HO.out _) hb); have hB2 := after1 (hB.alloc hz1 _) (by simp) hb; clear hA hcc hff hz1 hg hgf; have hA := fin_below3 hB2 (by omega); obtain ⟨hcc, hff⟩ := bcellB hB2; have hz1 : w.heap.size + 3 ≤ w5.heap.size := (by have := hB2.size; simp at this; omega); clear hB hb; have hB := hB2; clear hB2; have y3 : w.heap.size + 1 + 1 < w5.heap.size := (by omega)))
            refine bodyPost_ret (v := .tuple #[.agg #[.int .i64 a.k, .int .i64 a.p, .int .i64 a.n, .slice O a.ws.length d], .bool true]) (by simp [results, Try.results43, go_sem, hcc]) rfl ?_
            rw [HYES.out, hok]
            refine ⟨O, d, rfl, own_mono (own_off4 HO5.out (fun e => by have := (HO5.out.lt _ e).1; omega) _ _ _ _) (by omega), ?_⟩
            go_grown
          · have hok : shOk a b = false := by simp only [shOk, hv, hv', hcn, hvs]; rfl
            have HNO := Lib.hid (shR_no hok)
            rw [hvs] at hq
            have HQ := Lib.hid hq
            clear hq hsh hs
            go_enter Try.func43, Try.ntmps43
            go_wp2_with (first
              | (go_at_call_of 29 (.agg #[.int .i64 a.k, .int .i64 a.p, .int .i64 a.n, .slice A a.ws.length c] : Value); refine (IsValidAmendment_any _ _ a _ ?_ hf).mono ?_; exact h.below h00; rintro e w1 ⟨rfl, hb⟩; (first | (have hB2 := after1 hB (by simp) hb; clear hB hA hcc hff hz1; have hB := hB2; clear hB2) | have hB := after1 (B := w.heap.size + 3) (W0 := (((w.alloc (.cells #[.int .i64 a.k, .int .i64 a.p, .int .i64 a.n, .slice A a.ws.length c] 40)).alloc (.cells #[.int .i64 b.k, .int .i64 b.p, .int .i64 b.n, .slice A' b.ws.length c'] 40)).alloc (.cells #[.int .i64 0, .int .i64 0, .int .i64 0, .slice none 0 0] 40))) (Below.refl _ _) (by simp) hb); have hA := fin_below3 hB (by omega); obtain ⟨hcc, hff⟩ := bcellB hB; have hz1 : w.heap.size + 3 ≤ w1.heap.size := (by have := hB.size; simp at this; omega); clear hb)
              | (go_at_call_of 29 (.agg #[.int .i64 b.k, .int .i64 b.p, .int .i64 b.n, .slice A' b.ws.length c'] : Value); refine (IsValidAmendment_any _ _ b _ ?_ hf').mono ?_; exact h'.below hA; rintro e w2 ⟨rfl, hb⟩; have hB2 := after1 hB (by simp) hb; clear hA hcc hff hz1; have hA := fin_below3 hB2 (by omega); obtain ⟨hcc, hff⟩ := bcellB hB2; have hz1 : w.heap.size + 3 ≤ w2.heap.size := (by have := hB2.size; simp at this; omega); clear hB hb; have hB := hB2; clear hB2)
              | (go_at_call 90; refine (doConflict_any A A' c c' a b _ (Small.of hv) (Small.of hv') hf.1 hf'.1).mono ?_; rintro e w3 ⟨rfl, hb⟩; have hB2 := after1 hB (by simp) hb; clear hA hcc hff hz1; have hA := fin_below3 hB2 (by omega); obtain ⟨hcc, hff⟩ := bcellB hB2; have hz1 : w.heap.size + 3 ≤ w3.heap.size := (by have := hB2.size; simp at this; omega); clear hB hb; have hB := hB2; clear hB2)
              | (go_at_call 92; refine (newAmendment_any A c a _ ?_ hf).mono ?_; exact h.below hA; rintro e w4 ⟨O, d, rfl, own, hb⟩; have HO := Lib.hid (own_mono own hz1); have hB2 := after1 hB (by simp) hb; clear hA hcc hff hz1; have hA := fin_below3 hB2 (by omega); obtain ⟨hcc, hff⟩ := bcellB hB2; have hz1 : w.heap.size + 3 ≤ w4.heap.size := (by have := hB2.size; simp at this; omega); clear hB hb; have hB := hB2; clear hB2; have y0 : w.heap.size < w4.heap.size := (by omega); have y1 : w.heap.size + 1 < w4.heap.size := (by omega); have y2 : w.heap.size + 1 + 1 < w4.heap.size := (by omega); clear own)
              | (go_at_call 29; (with_reducible refine (IsValidAmendment_any O d ⟨a.k, a.p, a.n, a.ws⟩ _ ?_ hf).mono ?_); exact (Cells.of_own HO.out).alloc_ _; rintro e w5 ⟨rfl, hb⟩; rw [HQ.out]; obtain ⟨hg, hgf⟩ := bcell hb; have g1 := fun o => hg w4.heap.size o (by simp); have gf := fun o => hgf w4.heap.size o (by simp); have HO5 := Lib.hid (own_keep (own_alloc HO.out _) hb); have hB2 := after1 (hB.alloc hz1 _) (by simp) hb; clear hA hcc hff hz1 hg hgf; have hA := fin_below3 hB2 (by omega); obtain ⟨hcc, hff⟩ := bcellB hB2; have hz1 : w.heap.size + 3 ≤ w5.heap.size := (by have := hB2.size; simp at this; omega); clear hB hb; have hB := hB2; clear hB2; have y3 : w.heap.size + 1 + 1 < w5.heap.size := (by omega)))
            refine bodyPost_ret (v := .tuple #[.agg #[.int .i64 0, .int .i64 0, .int .i64 0, .slice none 0 0], .bool false]) (by simp [results, Try.results43, go_sem, hcc]) rfl ?_
            refine madeAB_no HNO.out hok ?_
            go_grown
    · skip
      have hok : shOk a b = false := by simp only [shOk, hv, hv']; simp
      have HNO := Lib.hid (shR_no hok)
      go_enter Try.func43, Try.ntmps43
      go_wp2_with (first
        | (go_at_call_of 29 (.agg #[.int .i64 a.k, .int .i64 a.p, .int .i64 a.n, .slice A a.ws.length c] : Value); refine (IsValidAmendment_any _ _ a _ ?_ hf).mono ?_; exact h.below h00; rintro e w1 ⟨rfl, hb⟩; (first | (have hB2 := after1 hB (by simp) hb; clear hB hA hcc hff hz1; have hB := hB2; clear hB2) | have hB := after1 (B := w.heap.size + 3) (W0 := (((w.alloc (.cells #[.int .i64 a.k, .int .i64 a.p, .int .i64 a.n, .slice A a.ws.length c] 40)).alloc (.cells #[.int .i64 b.k, .int .i64 b.p, .int .i64 b.n, .slice A' b.ws.length c'] 40)).alloc (.cells #[.int .i64 0, .int .i64 0, .int .i64 0, .slice none 0 0] 40))) (Below.refl _ _) (by simp) hb); have hA := fin_below3 hB (by omega); obtain ⟨hcc, hff⟩ := bcellB hB; have hz1 : w.heap.size + 3 ≤ w1.heap.size := (by have := hB.size; simp at this; omega); clear hb)
        | (go_at_call_of 29 (.agg #[.int .i64 b.k, .int .i64 b.p, .int .i64 b.n, .slice A' b.ws.length c'] : Value); refine (IsValidAmendment_any _ _ b _ ?_ hf').mono ?_; exact h'.below hA; rintro e w2 ⟨rfl, hb⟩; have hB2 := after1 hB (by simp) hb; clear hA hcc hff hz1; have hA := fin_below3 hB2 (by omega); obtain ⟨hcc, hff⟩ := bcellB hB2; have hz1 : w.heap.size + 3 ≤ w2.heap.size := (by have := hB2.size; simp at this; omega); clear hB hb; have hB := hB2; clear hB2))
      refine bodyPost_ret (v := .tuple #[.agg #[.int .i64 0, .int .i64 0, .int .i64 0, .slice none 0 0], .bool false]) (by simp [results, Try.results43, go_sem, hcc]) rfl ?_
      refine madeAB_no HNO.out hok ?_
      go_grown
  · skip
    have hok : shOk a b = false := by simp only [shOk, hv]; simp
    have HNO := Lib.hid (shR_no hok)
    go_enter Try.func43, Try.ntmps43
    go_wp2_with (first
      | (go_at_call_of 29 (.agg #[.int .i64 a.k, .int .i64 a.p, .int .i64 a.n, .slice A a.ws.length c] : Value); refine (IsValidAmendment_any _ _ a _ ?_ hf).mono ?_; exact h.below h00; rintro e w1 ⟨rfl, hb⟩; (first | (have hB2 := after1 hB (by simp) hb; clear hB hA hcc hff hz1; have hB := hB2; clear hB2) | have hB := after1 (B := w.heap.size + 3) (W0 := (((w.alloc (.cells #[.int .i64 a.k, .int .i64 a.p, .int .i64 a.n, .slice A a.ws.length c] 40)).alloc (.cells #[.int .i64 b.k, .int .i64 b.p, .int .i64 b.n, .slice A' b.ws.length c'] 40)).alloc (.cells #[.int .i64 0, .int .i64 0, .int .i64 0, .slice none 0 0] 40))) (Below.refl _ _) (by simp) hb); have hA := fin_below3 hB (by omega); obtain ⟨hcc, hff⟩ := bcellB hB; have hz1 : w.heap.size + 3 ≤ w1.heap.size := (by have := hB.size; simp at this; omega); clear hb))
    refine bodyPost_ret (v := .tuple #[.agg #[.int .i64 0, .int .i64 0, .int .i64 0, .slice none 0 0], .bool false]) (by simp [results, Try.results43, go_sem, hcc]) rfl ?_
    refine madeAB_no HNO.out hok ?_
    go_grown
set_option maxHeartbeats 1600000 in
theorem sShiftedChange_any (A A' : Option Addr) (c c' : Nat) (a b : Amd) (w : World) (h : Cells w A (strs a.ws)) (hf : Fit a.ws) (h' : Cells w A' (strs b.ws)) (hf' : Fit b.ws) :
    Calls Try.prog 44 #[.agg #[.int .i64 a.k, .int .i64 a.p, .int .i64 a.n, .slice A a.ws.length c], .agg #[.int .i64 b.k, .int .i64 b.p, .int .i64 b.n, .slice A' b.ws.length c']] w (MadeAB w (shR a b) (shOk a b)) := by
  have h00 : Below w.heap.size w (((w.alloc (.cells #[.int .i64 a.k, .int .i64 a.p, .int .i64 a.n, .slice A a.ws.length c] 40)).alloc (.cells #[.int .i64 b.k, .int .i64 b.p, .int .i64 b.n, .slice A' b.ws.length c'] 40)).alloc (.cells #[.int .i64 0, .int .i64 0, .int .i64 0, .slice none 0 0] 40)) := below3 w _ _ _
  rcases Bool.eq_false_or_eq_true (vldA a) with hv | hv
  · rcases Bool.eq_false_or_eq_true (vldA b) with hv' | hv'
    · rcases Bool.eq_false_or_eq_true (conB a b) with hcn | hcn
      · skip
        have hok : shOk a b = false := by simp only [shOk, hv, hv', hcn]; simp
        have HNO := Lib.hid (shR_no hok)
        go_enter Try.func44, Try.ntmps44
        go_wp2_with (first
          | (go_at_call_of 79 (.agg #[.int .i64 a.k, .int .i64 a.p, .int .i64 a.n, .slice A a.ws.length c] : Value); refine (l9Good_any _ _ a _ ?_ hf).mono ?_; exact h.below h00; rintro e w1 ⟨rfl, hb⟩; (first | (have hB2 := after1 hB (by simp) hb; clear hB hA hcc hff hz1; have hB := hB2; clear hB2) | have hB := after1 (B := w.heap.size + 3) (W0 := (((w.alloc (.cells #[.int .i64 a.k, .int .i64 a.p, .int .i64 a.n, .slice A a.ws.length c] 40)).alloc (.cells #[.int .i64 b.k, .int .i64 b.p, .int .i64 b.n, .slice A' b.ws.length c'] 40)).alloc (.cells #[.int .i64 0, .int .i64 0, .int .i64 0, .slice none 0 0] 40))) (Below.refl _ _) (by simp) hb); have hA := fin_below3 hB (by omega); obtain ⟨hcc, hff⟩ := bcellB hB; have hz1 : w.heap.size + 3 ≤ w1.heap.size := (by have := hB.size; simp at this; omega); clear hb)
          | (go_at_call_of 79 (.agg #[.int .i64 b.k, .int .i64 b.p, .int .i64 b.n, .slice A' b.ws.length c'] : Value); refine (l9Good_any _ _ b _ ?_ hf').mono ?_; exact h'.below hA; rintro e w2 ⟨rfl, hb⟩; have hB2 := after1 hB (by simp) hb; clear hA hcc hff hz1; have hA := fin_below3 hB2 (by omega); obtain ⟨hcc, hff⟩ := bcellB hB2; have hz1 : w.heap.size + 3 ≤ w2.heap.size := (by have := hB2.size; simp at this; omega); clear hB hb; have hB := hB2; clear hB2)
          | (go_at_call 91; refine (l10Conflict_any A A' c c' a b _ (Small.of hv) (Small.of hv') hf.1 hf'.1).mono ?_; rintro e w3 ⟨rfl, hb⟩; have hB2 := after1 hB (by simp) hb; clear hA hcc hff hz1; have hA := fin_below3 hB2 (by omega); obtain ⟨hcc, hff⟩ := bcellB hB2; have hz1 : w.heap.size + 3 ≤ w3.heap.size := (by have := hB2.size; simp at this; omega); clear hB hb; have hB := hB2; clear hB2))
        refine bodyPost_ret (v := .tuple #[.agg #[.int .i64 0, .int .i64 0, .int .i64 0, .slice none 0 0], .bool false]) (by simp [results, Try.results44, go_sem, hcc]) rfl ?_
        refine madeAB_no HNO.out hok ?_
        go_grown
      · obtain ⟨r1, r2, r3, r4, r5, _⟩ := vldA_range hv
        obtain ⟨r6, r7, r8, r9, r10, _⟩ := vldA_range hv'
        rcases Int.lt_trichotomy b.p a.p with hlt | heq | hgt
        · have hs : shB a b = true := by unfold shB; rw [decide_eq_true hlt]; rfl
          have hsh : shA a b = ⟨a.k, a.p + (b.ws.length - b.n), a.n, a.ws⟩ := by unfold shA; rw [if_pos hs]
          have hq : vldA ⟨(kindI a.n a.ws), (a.p + ↑b.ws.length - b.n), a.n, a.ws⟩ = vldA (shA a b) := by rw [hsh]; rw [kindI_eq hv]; rw [show (a.p + (b.ws.length : Int) - b.n) = a.p + ((b.ws.length : Int) - b.n) by omega]
          rcases Bool.eq_false_or_eq_true (vldA (shA a b)) with hvs | hvs
          · have hok : shOk a b = true := by simp only [shOk, hv, hv', hcn, hvs]; rfl
            have HYES := Lib.hid (show shR a b = ⟨(kindI a.n a.ws), (a.p + ↑b.ws.length - b.n), a.n, a.ws⟩ by unfold shR; rw [if_pos hok, hsh]; rw [kindI_eq hv]; rw [show (a.p + (b.ws.length : Int) - b.n) = a.p + ((b.ws.length : Int) - b.n) by omega])
            rw [hvs] at hq
            have HQ := Lib.hid hq
            clear hq hsh hs
            go_enter Try.func44, Try.ntmps44
            go_wp2_with (first
              | (go_at_call_of 79 (.agg #[.int .i64 a.k, .int .i64 a.p, .int .i64 a.n, .slice A a.ws.length c] : Value); refine (l9Good_any _ _ a _ ?_ hf).mono ?_; exact h.below h00; rintro e w1 ⟨rfl, hb⟩; (first | (have hB2 := after1 hB (by simp) hb; clear hB hA hcc hff hz1; have hB := hB2; clear hB2) | have hB := after1 (B := w.heap.size + 3) (W0 := (((w.alloc (.cells #[.int .i64 a.k, .int .i64 a.p, .int .i64 a.n, .slice A a.ws.length c] 40)).alloc (.cells #[.int .i64 b.k, .int .i64 b.p, .int .i64 b.n, .slice A' b.ws.length c'] 40)).alloc (.cells #[.int .i64 0, .int .i64 0, .int .i64 0, .slice none 0 0] 40))) (Below.refl _ _) (by simp) hb); have hA := fin_below3 hB (by omega); obtain ⟨hcc, hff⟩ := bcellB hB; have hz1 : w.heap.size + 3 ≤ w1.heap.size := (by have := hB.size; simp at this; omega); clear hb)
              | (go_at_call_of 79 (.agg #[.int .i64 b.k, .int .i64 b.p, .int .i64 b.n, .slice A' b.ws.length c'] : Value); refine (l9Good_any _ _ b _ ?_ hf').mono ?_; exact h'.below hA; rintro e w2 ⟨rfl, hb⟩; have hB2 := after1 hB (by simp) hb; clear hA hcc hff hz1; have hA := fin_below3 hB2 (by omega); obtain ⟨hcc, hff⟩ := bcellB hB2; have hz1 : w.heap.size + 3 ≤ w2.heap.size := (by have := hB2.size; simp at this; omega); clear hB hb; have hB := hB2; clear hB2)
              | (go_at_call 91; refine (l10Conflict_any A A' c c' a b _ (Small.of hv) (Small.of hv') hf.1 hf'.1).mono ?_; rintro e w3 ⟨rfl, hb⟩; have hB2 := after1 hB (by simp) hb; clear hA hcc hff hz1; have hA := fin_below3 hB2 (by omega); obtain ⟨hcc, hff⟩ := bcellB hB2; have hz1 : w.heap.size + 3 ≤ w3.heap.size := (by have := hB2.size; simp at this; omega); clear hB hb; have hB := hB2; clear hB2)
              | (go_at_call 88; refine (l9Kind_any a.p a.n A c a.ws _ ?_ (by have := hf.1; omega)).mono ?_; exact h.below hA; rintro e w4 ⟨O, d, rfl, own, hb⟩; have HO := Lib.hid (own_mono own hz1); have hB2 := after1 hB (by simp) hb; clear hA hcc hff hz1; have hA := fin_below3 hB2 (by omega); obtain ⟨hcc, hff⟩ := bcellB hB2; have hz1 : w.heap.size + 3 ≤ w4.heap.size := (by have := hB2.size; simp at this; omega); clear hB hb; have hB := hB2; clear hB2; have y0 : w.heap.size < w4.heap.size := (by omega); have y1 : w.heap.size + 1 < w4.heap.size := (by omega); have y2 : w.heap.size + 1 + 1 < w4.heap.size := (by omega); clear own)
              | (go_at_call 79; (with_reducible refine (l9Good_any O d ⟨(kindI a.n a.ws), (a.p + ↑b.ws.length - b.n), a.n, a.ws⟩ _ ?_ hf).mono ?_); exact (Cells.of_own HO.out).alloc_ _; rintro e w5 ⟨rfl, hb⟩; rw [HQ.out]; obtain ⟨hg, hgf⟩ := bcell hb; have g1 := fun o => hg w4.heap.size o (by simp); have gf := fun o => hgf w4.heap.size o (by simp); have HO5 := Lib.hid (own_keep (own_alloc HO.out _) hb); have hB2 := after1 (hB.alloc hz1 _) (by simp) hb; clear hA hcc hff hz1 hg hgf; have hA := fin_below3 hB2 (by omega); obtain ⟨hcc, hff⟩ := bcellB hB2; have hz1 : w.heap.size + 3 ≤ w5.heap.size := (by have := hB2.size; simp at this; omega); clear hB hb; have hB := hB2; clear hB2; have y3 : w.heap.size + 1 + 1 < w5.heap.size := (by omega)))
            refine bodyPost_ret (v := .tuple #[.agg #[.int .i64 (kindI a.n a.ws), .int .i64 (a.p + ↑b.ws.length - b.n), .int .i64 a.n, .slice O a.ws.length d], .bool true]) (by simp [results, Try.results44, go_sem, hcc]) rfl ?_
            rw [HYES.out, hok]
            refine ⟨O, d, rfl, own_mono (own_off4 HO5.out (fun e => by have := (HO5.out.lt _ e).1; omega) _ _ _ _) (by omega), ?_⟩
            go_grown
          · have hok : shOk a b = false := by simp only [shOk, hv, hv', hcn, hvs]; rfl
            have HNO := Lib.hid (shR_no hok)
            rw [hvs] at hq
            have HQ := Lib.hid hq
            clear hq hsh hs
            go_enter Try.func44, Try.ntmps44
            go_wp2_with (first
              | (go_at_call_of 79 (.agg #[.int .i64 a.k, .int .i64 a.p, .int .i64 a.n, .slice A a.ws.length c] : Value); refine (l9Good_any _ _ a _ ?_ hf).mono ?_; exact h.below h00; rintro e w1 ⟨rfl, hb⟩; (first | (have hB2 := after1 hB (by simp) hb; clear hB hA hcc hff hz1; have hB := hB2; clear hB2) | have hB := after1 (B := w.heap.size + 3) (W0 := (((w.alloc (.cells #[.int .i64 a.k, .int .i64 a.p, .int .i64 a.n, .slice A a.ws.length c] 40)).alloc (.cells #[.int .i64 b.k, .int .i64 b.p, .int .i64 b.n, .slice A' b.ws.length c'] 40)).alloc (.cells #[.int .i64 0, .int .i64 0, .int .i64 0, .slice none 0 0] 40))) (Below.refl _ _) (by simp) hb); have hA := fin_below3 hB (by omega); obtain ⟨hcc, hff⟩ := bcellB hB; have hz1 : w.heap.size + 3 ≤ w1.heap.size := (by have := hB.size; simp at this; omega); clear hb)
              | (go_at_call_of 79 (.agg #[.int .i64 b.k, .int .i64 b.p, .int .i64 b.n, .slice A' b.ws.length c'] : Value); refine (l9Good_any _ _ b _ ?_ hf').mono ?_; exact h'.below hA; rintro e w2 ⟨rfl, hb⟩; have hB2 := after1 hB (by simp) hb; clear hA hcc hff hz1; have hA := fin_below3 hB2 (by omega); obtain ⟨hcc, hff⟩ := bcellB hB2; have hz1 : w.heap.size + 3 ≤ w2.heap.size := (by have := hB2.size; simp at this; omega); clear hB hb; have hB := hB2; clear hB2)
              | (go_at_call 91; refine (l10Conflict_any A A' c c' a b _ (Small.of hv) (Small.of hv') hf.1 hf'.1).mono ?_; rintro e w3 ⟨rfl, hb⟩; have hB2 := after1 hB (by simp) hb; clear hA hcc hff hz1; have hA := fin_below3 hB2 (by omega); obtain ⟨hcc, hff⟩ := bcellB hB2; have hz1 : w.heap.size + 3 ≤ w3.heap.size := (by have := hB2.size; simp at this; omega); clear hB hb; have hB := hB2; clear hB2)
              | (go_at_call 88; refine (l9Kind_any a.p a.n A c a.ws _ ?_ (by have := hf.1; omega)).mono ?_; exact h.below hA; rintro e w4 ⟨O, d, rfl, own, hb⟩; have HO := Lib.hid (own_mono own hz1); have hB2 := after1 hB (by simp) hb; clear hA hcc hff hz1; have hA := fin_below3 hB2 (by omega); obtain ⟨hcc, hff⟩ := bcellB hB2; have hz1 : w.heap.size + 3 ≤ w4.heap.size := (by have := hB2.size; simp at this; omega); clear hB hb; have hB := hB2; clear hB2; have y0 : w.heap.size < w4.heap.size := (by omega); have y1 : w.heap.size + 1 < w4.heap.size := (by omega); have y2 : w.heap.size + 1 + 1 < w4.heap.size := (by omega); clear own)
              | (go_at_call 79; (with_reducible refine (l9Good_any O d ⟨(kindI a.n a.ws), (a.p + ↑b.ws.length - b.n), a.n, a.ws⟩ _ ?_ hf).mono ?_); exact (Cells.of_own HO.out).alloc_ _; rintro e w5 ⟨rfl, hb⟩; rw [HQ.out]; obtain ⟨hg, hgf⟩ := bcell hb; have g1 := fun o => hg w4.heap.size o (by simp); have gf := fun o => hgf w4.heap.size o (by simp); have HO5 := Lib.hid (own_keep (own_alloc HO.out _) hb); have hB2 := after1 (hB.alloc hz1 _) (by simp) hb; clear hA hcc hff hz1 hg hgf; have hA := fin_below3 hB2 (by omega); obtain ⟨hcc, hff⟩ := bcellB hB2; have hz1 : w.heap.size + 3 ≤ w5.heap.size := (by have := hB2.size; simp at this; omega); clear hB hb; have hB := hB2; clear hB2; have y3 : w.heap.size + 1 + 1 < w5.heap.size := (by omega)))
            refine bodyPost_ret (v := .tuple #[.agg #[.int .i64 0, .int .i64 0, .int .i64 0, .slice none 0 0], .bool false]) (by simp [results, Try.results44, go_sem, hcc]) rfl ?_
            refine madeAB_no HNO.out hok ?_
            go_grown
        · have e1 : (b.p == a.p) = true := by simp [heq]
          have e2 : ¬ b.p < a.p := by omega
          by_cases h0 : 0 < a.n
          · have hs : shB a b = true := by unfold shB; rw [decide_eq_false e2, decide_eq_true heq, decide_eq_true h0]; rfl
            clear heq
            have hsh : shA a b = ⟨a.k, a.p + (b.ws.length - b.n), a.n, a.ws⟩ := by unfold shA; rw [if_pos hs]
            have hq : vldA ⟨(kindI a.n a.ws), (a.p + ↑b.ws.length - b.n), a.n, a.ws⟩ = vldA (shA a b) := by rw [hsh]; rw [kindI_eq hv]; rw [show (a.p + (b.ws.length : Int) - b.n) = a.p + ((b.ws.length : Int) - b.n) by omega]
            rcases Bool.eq_false_or_eq_true (vldA (shA a b)) with hvs | hvs
            · have hok : shOk a b = true := by simp only [shOk, hv, hv', hcn, hvs]; rfl
              have HYES := Lib.hid (show shR a b = ⟨(kindI a.n a.ws), (a.p + ↑b.ws.length - b.n), a.n, a.ws⟩ by unfold shR; rw [if_pos hok, hsh]; rw [kindI_eq hv]; rw [show (a.p + (b.ws.length : Int) - b.n) = a.p + ((b.ws.length : Int) - b.n) by omega])
              rw [hvs] at hq
              have HQ := Lib.hid hq
              clear hq hsh hs
              go_enter Try.func44, Try.ntmps44
              go_wp2_with (first
                | (go_at_call_of 79 (.agg #[.int .i64 a.k, .int .i64 a.p, .int .i64 a.n, .slice A a.ws.length c] : Value); refine (l9Good_any _ _ a _ ?_ hf).mono ?_; exact h.below h00; rintro e w1 ⟨rfl, hb⟩; (first | (have hB2 := after1 hB (by simp) hb; clear hB hA hcc hff hz1; have hB := hB2; clear hB2) | have hB := after1 (B := w.heap.size + 3) (W0 := (((w.alloc (.cells #[.int .i64 a.k, .int .i64 a.p, .int .i64 a.n, .slice A a.ws.length c] 40)).alloc (.cells #[.int .i64 b.k, .int .i64 b.p, .int .i64 b.n, .slice A' b.ws.length c'] 40)).alloc (.cells #[.int .i64 0, .int .i64 0, .int .i64 0, .slice none 0 0] 40))) (Below.refl _ _) (by simp) hb); have hA := fin_below3 hB (by omega); obtain ⟨hcc, hff⟩ := bcellB hB; have hz1 : w.heap.size + 3 ≤ w1.heap.size := (by have := hB.size; simp at this; omega); clear hb)
                | (go_at_call_of 79 (.agg #[.int .i64 b.k, .int .i64 b.p, .int .i64 b.n, .slice A' b.ws.length c'] : Value); refine (l9Good_any _ _ b _ ?_ hf').mono ?_; exact h'.below hA; rintro e w2 ⟨rfl, hb⟩; have hB2 := after1 hB (by simp) hb; clear hA hcc hff hz1; have hA := fin_below3 hB2 (by omega); obtain ⟨hcc, hff⟩ := bcellB hB2; have hz1 : w.heap.size + 3 ≤ w2.heap.size := (by have := hB2.size; simp at this; omega); clear hB hb; have hB := hB2; clear hB2)
                | (go_at_call 91; refine (l10Conflict_any A A' c c' a b _ (Small.of hv) (Small.of hv') hf.1 hf'.1).mono ?_; rintro e w3 ⟨rfl, hb⟩; have hB2 := after1 hB (by simp) hb; clear hA hcc hff hz1; have hA := fin_below3 hB2 (by omega); obtain ⟨hcc, hff⟩ := bcellB hB2; have hz1 : w.heap.size + 3 ≤ w3.heap.size := (by have := hB2.size; simp at this; omega); clear hB hb; have hB := hB2; clear hB2)
                | (go_at_call 88; refine (l9Kind_any a.p a.n A c a.ws _ ?_ (by have := hf.1; omega)).mono ?_; exact h.below hA; rintro e w4 ⟨O, d, rfl, own, hb⟩; have HO := Lib.hid (own_mono own hz1); have hB2 := after1 hB (by simp) hb; clear hA hcc hff hz1; have hA := fin_below3 hB2 (by omega); obtain ⟨hcc, hff⟩ := bcellB hB2; have hz1 : w.heap.size + 3 ≤ w4.heap.size := (by have := hB2.size; simp at this; omega); clear hB hb; have hB := hB2; clear hB2; have y0 : w.heap.size < w4.heap.size := (by omega); have y1 : w.heap.size + 1 < w4.heap.size := (by omega); have y2 : w.heap.size + 1 + 1 < w4.heap.size := (by omega); clear own)
                | (go_at_call 79; (with_reducible refine (l9Good_any O d ⟨(kindI a.n a.ws), (a.p + ↑b.ws.length - b.n), a.n, a.ws⟩ _ ?_ hf).mono ?_); exact (Cells.of_own HO.out).alloc_ _; rintro e w5 ⟨rfl, hb⟩; rw [HQ.out]; obtain ⟨hg, hgf⟩ := bcell hb; have g1 := fun o => hg w4.heap.size o (by simp); have gf := fun o => hgf w4.heap.size o (by simp); have HO5 := Lib.hid (own_keep (own_alloc HO.out _) hb); have hB2 := after1 (hB.alloc hz1 _) (by simp) hb; clear hA hcc hff hz1 hg hgf; have hA := fin_below3 hB2 (by omega); obtain ⟨hcc, hff⟩ := bcellB hB2; have hz1 : w.heap.size + 3 ≤ w5.heap.size := (by have := hB2.size; simp at this; omega); clear hB hb; have hB := hB2; clear hB2; have y3 : w.heap.size + 1 + 1 < w5.heap.size := (by omega)))
              refine bodyPost_ret (v := .tuple #[.agg #[.int .i64 (kindI a.n a.ws), .int .i64 (a.p + ↑b.ws.length - b.n), .int .i64 a.n, .slice O a.ws.length d], .bool true]) (by simp [results, Try.results44, go_sem, hcc]) rfl ?_
              rw [HYES.out, hok]
              refine ⟨O, d, rfl, own_mono (own_off4 HO5.out (fun e => by have := (HO5.out.lt _ e).1; omega) _ _ _ _) (by omega), ?_⟩
              go_grown
            · have hok : shOk a b = false := by simp only [shOk, hv, hv', hcn, hvs]; rfl
              have HNO := Lib.hid (shR_no hok)
              rw [hvs] at hq
              have HQ := Lib.hid hq
              clear hq hsh hs
              go_enter Try.func44, Try.ntmps44
              go_wp2_with (first
                | (go_at_call_of 79 (.agg #[.int .i64 a.k, .int .i64 a.p, .int .i64 a.n, .slice A a.ws.length c] : Value); refine (l9Good_any _ _ a _ ?_ hf).mono ?_; exact h.below h00; rintro e w1 ⟨rfl, hb⟩; (first | (have hB2 := after1 hB (by simp) hb; clear hB hA hcc hff hz1; have hB := hB2; clear hB2) | have hB := after1 (B := w.heap.size + 3) (W0 := (((w.alloc (.cells #[.int .i64 a.k, .int .i64 a.p, .int .i64 a.n, .slice A a.ws.length c] 40)).alloc (.cells #[.int .i64 b.k, .int .i64 b.p, .int .i64 b.n, .slice A' b.ws.length c'] 40)).alloc (.cells #[.int .i64 0, .int .i64 0, .int .i64 0, .slice none 0 0] 40))) (Below.refl _ _) (by simp) hb); have hA := fin_below3 hB (by omega); obtain ⟨hcc, hff⟩ := bcellB hB; have hz1 : w.heap.size + 3 ≤ w1.heap.size := (by have := hB.size; simp at this; omega); clear hb)
                | (go_at_call_of 79 (.agg #[.int .i64 b.k, .int .i64 b.p, .int .i64 b.n, .slice A' b.ws.length c'] : Value); refine (l9Good_any _ _ b _ ?_ hf').mono ?_; exact h'.below hA; rintro e w2 ⟨rfl, hb⟩; have hB2 := after1 hB (by simp) hb; clear hA hcc hff hz1; have hA := fin_below3 hB2 (by omega); obtain ⟨hcc, hff⟩ := bcellB hB2; have hz1 : w.heap.size + 3 ≤ w2.heap.size := (by have := hB2.size; simp at this; omega); clear hB hb; have hB := hB2; clear hB2)
                | (go_at_call 91; refine (l10Conflict_any A A' c c' a b _ (Small.of hv) (Small.of hv') hf.1 hf'.1).mono ?_; rintro e w3 ⟨rfl, hb⟩; have hB2 := after1 hB (by simp) hb; clear hA hcc hff hz1; have hA := fin_below3 hB2 (by omega); obtain ⟨hcc, hff⟩ := bcellB hB2; have hz1 : w.heap.size + 3 ≤ w3.heap.size := (by have := hB2.size; simp at this; omega); clear hB hb; have hB := hB2; clear hB2)
                | (go_at_call 88; refine (l9Kind_any a.p a.n A c a.ws _ ?_ (by have := hf.1; omega)).mono ?_; exact h.below hA; rintro e w4 ⟨O, d, rfl, own, hb⟩; have HO := Lib.hid (own_mono own hz1); have hB2 := after1 hB (by simp) hb; clear hA hcc hff hz1; have hA := fin_below3 hB2 (by omega); obtain ⟨hcc, hff⟩ := bcellB hB2; have hz1 : w.heap.size + 3 ≤ w4.heap.size := (by have := hB2.size; simp at this; omega); clear hB hb; have hB := hB2; clear hB2; have y0 : w.heap.size < w4.heap.size := (by omega); have y1 : w.heap.size + 1 < w4.heap.size := (by omega); have y2 : w.heap.size + 1 + 1 < w4.heap.size := (by omega); clear own)
                | (go_at_call 79; (with_reducible refine (l9Good_any O d ⟨(kindI a.n a.ws), (a.p + ↑b.ws.length - b.n), a.n, a.ws⟩ _ ?_ hf).mono ?_); exact (Cells.of_own HO.out).alloc_ _; rintro e w5 ⟨rfl, hb⟩; rw [HQ.out]; obtain ⟨hg, hgf⟩ := bcell hb; have g1 := fun o => hg w4.heap.size o (by simp); have gf := fun o => hgf w4.heap.size o (by simp); have HO5 := Lib.hid (own_keep (own_alloc HO.out _) hb); have hB2 := after1 (hB.alloc hz1 _) (by simp) hb; clear hA hcc hff hz1 hg hgf; have hA := fin_below3 hB2 (by omega); obtain ⟨hcc, hff⟩ := bcellB hB2; have hz1 : w.heap.size + 3 ≤ w5.heap.size := (by have := hB2.size; simp at this; omega); clear hB hb; have hB := hB2; clear hB2; have y3 : w.heap.size + 1 + 1 < w5.heap.size := (by omega)))
              refine bodyPost_ret (v := .tuple #[.agg #[.int .i64 0, .int .i64 0, .int .i64 0, .slice none 0 0], .bool false]) (by simp [results, Try.results44, go_sem, hcc]) rfl ?_
              refine madeAB_no HNO.out hok ?_
              go_grown
          · have hs : shB a b = false := by unfold shB; rw [decide_eq_false e2, decide_eq_true heq, decide_eq_false h0]; rfl
            clear heq
            have hsh : shA a b = a := by unfold shA; rw [if_neg (by simp [hs])]
            have hq : vldA ⟨(kindI a.n a.ws), a.p, a.n, a.ws⟩ = vldA (shA a b) := by rw [hsh]; rw [kindI_eq hv]
            rcases Bool.eq_false_or_eq_true (vldA (shA a b)) with hvs | hvs
            · have hok : shOk a b = true := by simp only [shOk, hv, hv', hcn, hvs]; rfl
              have HYES := Lib.hid (show shR a b = ⟨(kindI a.n a.ws), a.p, a.n, a.ws⟩ by unfold shR; rw [if_pos hok, hsh]; rw [kindI_eq hv])
              rw [hvs] at hq
              have HQ := Lib.hid hq
              clear hq hsh hs
              go_enter Try.func44, Try.ntmps44
              go_wp2_with (first
                | (go_at_call_of 79 (.agg #[.int .i64 a.k, .int .i64 a.p, .int .i64 a.n, .slice A a.ws.length c] : Value); refine (l9Good_any _ _ a _ ?_ hf).mono ?_; exact h.below h00; rintro e w1 ⟨rfl, hb⟩; (first | (have hB2 := after1 hB (by simp) hb; clear hB hA hcc hff hz1; have hB := hB2; clear hB2) | have hB := after1 (B := w.heap.size + 3) (W0 := (((w.alloc (.cells #[.int .i64 a.k, .int .i64 a.p, .int .i64 a.n, .slice A a.ws.length c] 40)).alloc (.cells #[.int .i64 b.k, .int .i64 b.p, .int .i64 b.n, .slice A' b.ws.length c'] 40)).alloc (.cells #[.int .i64 0, .int .i64 0, .int .i64 0, .slice none 0 0] 40))) (Below.refl _ _) (by simp) hb); have hA := fin_below3 hB (by omega); obtain ⟨hcc, hff⟩ := bcellB hB; have hz1 : w.heap.size + 3 ≤ w1.heap.size := (by have := hB.size; simp at this; omega); clear hb)
                | (go_at_call_of 79 (.agg #[.int .i64 b.k, .int .i64 b.p, .int .i64 b.n, .slice A' b.ws.length c'] : Value); refine (l9Good_any _ _ b _ ?_ hf').mono ?_; exact h'.below hA; rintro e w2 ⟨rfl, hb⟩; have hB2 := after1 hB (by simp) hb; clear hA hcc hff hz1; have hA := fin_below3 hB2 (by omega); obtain ⟨hcc, hff⟩ := bcellB hB2; have hz1 : w.heap.size + 3 ≤ w2.heap.size := (by have := hB2.size; simp at this; omega); clear hB hb; have hB := hB2; clear hB2)
                | (go_at_call 91; refine (l10Conflict_any A A' c c' a b _ (Small.of hv) (Small.of hv') hf.1 hf'.1).mono ?_; rintro e w3 ⟨rfl, hb⟩; have hB2 := after1 hB (by simp) hb; clear hA hcc hff hz1; have hA := fin_below3 hB2 (by omega); obtain ⟨hcc, hff⟩ := bcellB hB2; have hz1 : w.heap.size + 3 ≤ w3.heap.size := (by have := hB2.size; simp at this; omega); clear hB hb; have hB := hB2; clear hB2)
                | (go_at_call 88; refine (l9Kind_any a.p a.n A c a.ws _ ?_ (by have := hf.1; omega)).mono ?_; exact h.below hA; rintro e w4 ⟨O, d, rfl, own, hb⟩; have HO := Lib.hid (own_mono own hz1); have hB2 := after1 hB (by simp) hb; clear hA hcc hff hz1; have hA := fin_below3 hB2 (by omega); obtain ⟨hcc, hff⟩ := bcellB hB2; have hz1 : w.heap.size + 3 ≤ w4.heap.size := (by have := hB2.size; simp at this; omega); clear hB hb; have hB := hB2; clear hB2; have y0 : w.heap.size < w4.heap.size := (by omega); have y1 : w.heap.size + 1 < w4.heap.size := (by omega); have y2 : w.heap.size + 1 + 1 < w4.heap.size := (by omega); clear own)
                | (go_at_call 79; (with_reducible refine (l9Good_any O d ⟨(kindI a.n a.ws), a.p, a.n, a.ws⟩ _ ?_ hf).mono ?_); exact (Cells.of_own HO.out).alloc_ _; rintro e w5 ⟨rfl, hb⟩; rw [HQ.out]; obtain ⟨hg, hgf⟩ := bcell hb; have g1 := fun o => hg w4.heap.size o (by simp); have gf := fun o => hgf w4.heap.size o (by simp); have HO5 := Lib.hid (own_keep (own_alloc HO.out _) hb); have hB2 := after1 (hB.alloc hz1 _) (by simp) hb; clear hA hcc hff hz1 hg hgf; have hA := fin_below3 hB2 (by omega); obtain ⟨hcc, hff⟩ := bcellB hB2; have hz1 : w.heap.size + 3 ≤ w5.heap.size := (by have := hB2.size; simp at this; omega); clear hB hb; have hB := hB2; clear hB2; have y3 : w.heap.size + 1 + 1 < w5.heap.size := (by omega)))
              refine bodyPost_ret (v := .tuple #[.agg #[.int .i64 (kindI a.n a.ws), .int .i64 a.p, .int .i64 a.n, .slice O a.ws.length d], .bool true]) (by simp [results, Try.results44, go_sem, hcc]) rfl ?_
              rw [HYES.out, hok]
              refine ⟨O, d, rfl, own_mono (own_off4 HO5.out (fun e => by have := (HO5.out.lt _ e).1; omega) _ _ _ _) (by omega), ?_⟩
              go_grown
            · have hok : shOk a b = false := by simp only [shOk, hv, hv', hcn, hvs]; rfl
              have HNO := Lib.hid (shR_no hok)
              rw [hvs] at hq
              have HQ := Lib.hid hq
              clear hq hsh hs
              go_enter Try.func44, Try.ntmps44
              go_wp2_with (first
                | (go_at_call_of 79 (.agg #[.int .i64 a.k, .int .i64 a.p, .int .i64 a.n, .slice A a.ws.length c] : Value); refine (l9Good_any _ _ a _ ?_ hf).mono ?_; exact h.below h00; rintro e w1 ⟨rfl, hb⟩; (first | (have hB2 := after1 hB (by simp) hb; clear hB hA hcc hff hz1; have hB := hB2; clear hB2) | have hB := after1 (B := w.heap.size + 3) (W0 := (((w.alloc (.cells #[.int .i64 a.k, .int .i64 a.p, .int .i64 a.n, .slice A a.ws.length c] 40)).alloc (.cells #[.int .i64 b.k, .int .i64 b.p, .int .i64 b.n, .slice A' b.ws.length c'] 40)).alloc (.cells #[.int .i64 0, .int .i64 0, .int .i64 0, .slice none 0 0] 40))) (Below.refl _ _) (by simp) hb); have hA := fin_below3 hB (by omega); obtain ⟨hcc, hff⟩ := bcellB hB; have hz1 : w.heap.size + 3 ≤ w1.heap.size := (by have := hB.size; simp at this; omega); clear hb)
                | (go_at_call_of 79 (.agg #[.int .i64 b.k, .int .i64 b.p, .int .i64 b.n, .slice A' b.ws.length c'] : Value); refine (l9Good_any _ _ b _ ?_ hf').mono ?_; exact h'.below hA; rintro e w2 ⟨rfl, hb⟩; have hB2 := after1 hB (by simp) hb; clear hA hcc hff hz1; have hA := fin_below3 hB2 (by omega); obtain ⟨hcc, hff⟩ := bcellB hB2; have hz1 : w.heap.size + 3 ≤ w2.heap.size := (by have := hB2.size; simp at this; omega); clear hB hb; have hB := hB2; clear hB2)
                | (go_at_call 91; refine (l10Conflict_any A A' c c' a b _ (Small.of hv) (Small.of hv') hf.1 hf'.1).mono ?_; rintro e w3 ⟨rfl, hb⟩; have hB2 := after1 hB (by simp) hb; clear hA hcc hff hz1; have hA := fin_below3 hB2 (by omega); obtain ⟨hcc, hff⟩ := bcellB hB2; have hz1 : w.heap.size + 3 ≤ w3.heap.size := (by have := hB2.size; simp at this; omega); clear hB hb; have hB := hB2; clear hB2)
                | (go_at_call 88; refine (l9Kind_any a.p a.n A c a.ws _ ?_ (by have := hf.1; omega)).mono ?_; exact h.below hA; rintro e w4 ⟨O, d, rfl, own, hb⟩; have HO := Lib.hid (own_mono own hz1); have hB2 := after1 hB (by simp) hb; clear hA hcc hff hz1; have hA := fin_below3 hB2 (by omega); obtain ⟨hcc, hff⟩ := bcellB hB2; have hz1 : w.heap.size + 3 ≤ w4.heap.size := (by have := hB2.size; simp at this; omega); clear hB hb; have hB := hB2; clear hB2; have y0 : w.heap.size < w4.heap.size := (by omega); have y1 : w.heap.size + 1 < w4.heap.size := (by omega); have y2 : w.heap.size + 1 + 1 < w4.heap.size := (by omega); clear own)
                | (go_at_call 79; (with_reducible refine (l9Good_any O d ⟨(kindI a.n a.ws), a.p, a.n, a.ws⟩ _ ?_ hf).mono ?_); exact (Cells.of_own HO.out).alloc_ _; rintro e w5 ⟨rfl, hb⟩; rw [HQ.out]; obtain ⟨hg, hgf⟩ := bcell hb; have g1 := fun o => hg w4.heap.size o (by simp); have gf := fun o => hgf w4.heap.size o (by simp); have HO5 := Lib.hid (own_keep (own_alloc HO.out _) hb); have hB2 := after1 (hB.alloc hz1 _) (by simp) hb; clear hA hcc hff hz1 hg hgf; have hA := fin_below3 hB2 (by omega); obtain ⟨hcc, hff⟩ := bcellB hB2; have hz1 : w.heap.size + 3 ≤ w5.heap.size := (by have := hB2.size; simp at this; omega); clear hB hb; have hB := hB2; clear hB2; have y3 : w.heap.size + 1 + 1 < w5.heap.size := (by omega)))
              refine bodyPost_ret (v := .tuple #[.agg #[.int .i64 0, .int .i64 0, .int .i64 0, .slice none 0 0], .bool false]) (by simp [results, Try.results44, go_sem, hcc]) rfl ?_
              refine madeAB_no HNO.out hok ?_
              go_grown
        · have e1 : (b.p == a.p) = false := by simp only [beq_eq_false_iff_ne, ne_eq]; omega
          have e2 : ¬ b.p < a.p := by omega
          have hs : shB a b = false := by unfold shB; rw [decide_eq_false e2, decide_eq_false (p := b.p = a.p) (by omega)]; rfl
          have hsh : shA a b = a := by unfold shA; rw [if_neg (by simp [hs])]
          have hq : vldA ⟨(kindI a.n a.ws), a.p, a.n, a.ws⟩ = vldA (shA a b) := by rw [hsh]; rw [kindI_eq hv]
          rcases Bool.eq_false_or_eq_true (vldA (shA a b)) with hvs | hvs
          · have hok : shOk a b = true := by simp only [shOk, hv, hv', hcn, hvs]; rfl
            have HYES := Lib.hid (show shR a b = ⟨(kindI a.n a.ws), a.p, a.n, a.ws⟩ by unfold shR; rw [if_pos hok, hsh]; rw [kindI_eq hv])
            rw [hvs] at hq
            have HQ := Lib.hid hq
            clear hq hsh hs
            go_enter Try.func44, Try.ntmps44
            go_wp2_with (first
              | (go_at_call_of 79 (.agg #[.int .i64 a.k, .int .i64 a.p, .int .i64 a.n, .slice A a.ws.length c] : Value); refine (l9Good_any _ _ a _ ?_ hf).mono ?_; exact h.below h00; rintro e w1 ⟨rfl, hb⟩; (first | (have hB2 := after1 hB (by simp) hb; clear hB hA hcc hff hz1; have hB := hB2; clear hB2) | have hB := after1 (B := w.heap.size + 3) (W0 := (((w.alloc (.cells #[.int .i64 a.k, .int .i64 a.p, .int .i64 a.n, .slice A a.ws.length c] 40)).alloc (.cells #[.int .i64 b.k, .int .i64 b.p, .int .i64 b.n, .slice A' b.ws.length c'] 40)).alloc (.cells #[.int .i64 0, .int .i64 0, .int .i64 0, .slice none 0 0] 40))) (Below.refl _ _) (by simp) hb); have hA := fin_below3 hB (by omega); obtain ⟨hcc, hff⟩ := bcellB hB; have hz1 : w.heap.size + 3 ≤ w1.heap.size := (by have := hB.size; simp at this; omega); clear hb)
              | (go_at_call_of 79 (.agg #[.int .i64 b.k, .int .i64 b.p, .int .i64 b.n, .slice A' b.ws.length c'] : Value); refine (l9Good_any _ _ b _ ?_ hf').mono ?_; exact h'.below hA; rintro e w2 ⟨rfl, hb⟩; have hB2 := after1 hB (by simp) hb; clear hA hcc hff hz1; have hA := fin_below3 hB2 (by omega); obtain ⟨hcc, hff⟩ := bcellB hB2; have hz1 : w.heap.size + 3 ≤ w2.heap.size := (by have := hB2.size; simp at this; omega); clear hB hb; have hB := hB2; clear hB2)
              | (go_at_call 91; refine (l10Conflict_any A A' c c' a b _ (Small.of hv) (Small.of hv') hf.1 hf'.1).mono ?_; rintro e w3 ⟨rfl, hb⟩; have hB2 := after1 hB (by simp) hb; clear hA hcc hff hz1; have hA := fin_below3 hB2 (by omega); obtain ⟨hcc, hff⟩ := bcellB hB2; have hz1 : w.heap.size + 3 ≤ w3.heap.size := (by have := hB2.size; simp at this; omega); clear hB hb; have hB := hB2; clear hB2)
              | (go_at_call 88; refine (l9Kind_any a.p a.n A c a.ws _ ?_ (by have := hf.1; omega)).mono ?_; exact h.below hA; rintro e w4 ⟨O, d, rfl, own, hb⟩; have HO := Lib.hid (own_mono own hz1); have hB2 := after1 hB (by simp) hb; clear hA hcc hff hz1; have hA := fin_below3 hB2 (by omega); obtain ⟨hcc, hff⟩ := bcellB hB2; have hz1 : w.heap.size + 3 ≤ w4.heap.size := (by have := hB2.size; simp at this; omega); clear hB hb; have hB := hB2; clear hB2; have y0 : w.heap.size < w4.heap.size := (by omega); have y1 : w.heap.size + 1 < w4.heap.size := (by omega); have y2 : w.heap.size + 1 + 1 < w4.heap.size := (by omega); clear own)
              | (go_at_call 79; (with_reducible refine (l9Good_any O d ⟨(kindI a.n a.ws), a.p, a.n, a.ws⟩ _ ?_ hf).mono ?_); exact (Cells.of_own HO.out).alloc_ _; rintro e w5 ⟨rfl, hb⟩; rw [HQ.out]; obtain ⟨hg, hgf⟩ := bcell hb; have g1 := fun o => hg w4.heap.size o (by simp); have gf := fun o => hgf w4.heap.size o (by simp); have HO5 := Lib.hid (own_keep (own_alloc HO.out _) hb); have hB2 := after1 (hB.alloc hz1 _) (by simp) hb; clear hA hcc hff hz1 hg hgf; have hA := fin_below3 hB2 (by omega); obtain ⟨hcc, hff⟩ := bcellB hB2; have hz1 : w.heap.size + 3 ≤ w5.heap.size := (by have := hB2.size; simp at this; omega); clear hB hb; have hB := hB2; clear hB2; have y3 : w.heap.size + 1 + 1 < w5.heap.size := (by omega)))
            refine bodyPost_ret (v := .tuple #[.agg #[.int .i64 (kindI a.n a.ws), .int .i64 a.p, .int .i64 a.n, .slice O a.ws.length d], .bool true]) (by simp [results, Try.results44, go_sem, hcc]) rfl ?_
            rw [HYES.out, hok]
            refine ⟨O, d, rfl, own_mono (own_off4 HO5.out (fun e => by have := (HO5.out.lt _ e).1; omega) _ _ _ _) (by omega), ?_⟩
            go_grown
          · have hok : shOk a b = false := by simp only [shOk, hv, hv', hcn, hvs]; rfl
            have HNO := Lib.hid (shR_no hok)
            rw [hvs] at hq
            have HQ := Lib.hid hq
            clear hq hsh hs
            go_enter Try.func44, Try.ntmps44
            go_wp2_with (first
              | (go_at_call_of 79 (.agg #[.int .i64 a.k, .int .i64 a.p, .int .i64 a.n, .slice A a.ws.length c] : Value); refine (l9Good_any _ _ a _ ?_ hf).mono ?_; exact h.below h00; rintro e w1 ⟨rfl, hb⟩; (first | (have hB2 := after1 hB (by simp) hb; clear hB hA hcc hff hz1; have hB := hB2; clear hB2) | have hB := after1 (B := w.heap.size + 3) (W0 := (((w.alloc (.cells #[.int .i64 a.k, .int .i64 a.p, .int .i64 a.n, .slice A a.ws.length c] 40)).alloc (.cells #[.int .i64 b.k, .int .i64 b.p, .int .i64 b.n, .slice A' b.ws.length c'] 40)).alloc (.cells #[.int .i64 0, .int .i64 0, .int .i64 0, .slice none 0 0] 40))) (Below.refl _ _) (by simp) hb); have hA := fin_below3 hB (by omega); obtain ⟨hcc, hff⟩ := bcellB hB; have hz1 : w.heap.size + 3 ≤ w1.heap.size := (by have := hB.size; simp at this; omega); clear hb)
              | (go_at_call_of 79 (.agg #[.int .i64 b.k, .int .i64 b.p, .int .i64 b.n, .slice A' b.ws.length c'] : Value); refine (l9Good_any _ _ b _ ?_ hf').mono ?_; exact h'.below hA; rintro e w2 ⟨rfl, hb⟩; have hB2 := after1 hB (by simp) hb; clear hA hcc hff hz1; have hA := fin_below3 hB2 (by omega); obtain ⟨hcc, hff⟩ := bcellB hB2; have hz1 : w.heap.size + 3 ≤ w2.heap.size := (by have := hB2.size; simp at this; omega); clear hB hb; have hB := hB2; clear hB2)
              | (go_at_call 91; refine (l10Conflict_any A A' c c' a b _ (Small.of hv) (Small.of hv') hf.1 hf'.1).mono ?_; rintro e w3 ⟨rfl, hb⟩; have hB2 := after1 hB (by simp) hb; clear hA hcc hff hz1; have hA := fin_below3 hB2 (by omega); obtain ⟨hcc, hff⟩ := bcellB hB2; have hz1 : w.heap.size + 3 ≤ w3.heap.size := (by have := hB2.size; simp at this; omega); clear hB hb; have hB := hB2; clear hB2)
              | (go_at_call 88; refine (l9Kind_any a.p a.n A c a.ws _ ?_ (by have := hf.1; omega)).mono ?_; exact h.below hA; rintro e w4 ⟨O, d, rfl, own, hb⟩; have HO := Lib.hid (own_mono own hz1); have hB2 := after1 hB (by simp) hb; clear hA hcc hff hz1; have hA := fin_below3 hB2 (by omega); obtain ⟨hcc, hff⟩ := bcellB hB2; have hz1 : w.heap.size + 3 ≤ w4.heap.size := (by have := hB2.size; simp at this; omega); clear hB hb; have hB := hB2; clear hB2; have y0 : w.heap.size < w4.heap.size := (by omega); have y1 : w.heap.size + 1 < w4.heap.size := (by omega); have y2 : w.heap.size + 1 + 1 < w4.heap.size := (by omega); clear own)
              | (go_at_call 79; (with_reducible refine (l9Good_any O d ⟨(kindI a.n a.ws), a.p, a.n, a.ws⟩ _ ?_ hf).mono ?_); exact (Cells.of_own HO.out).alloc_ _; rintro e w5 ⟨rfl, hb⟩; rw [HQ.out]; obtain ⟨hg, hgf⟩ := bcell hb; have g1 := fun o => hg w4.heap.size o (by simp); have gf := fun o => hgf w4.heap.size o (by simp); have HO5 := Lib.hid (own_keep (own_alloc HO.out _) hb); have hB2 := after1 (hB.alloc hz1 _) (by simp) hb; clear hA hcc hff hz1 hg hgf; have hA := fin_below3 hB2 (by omega); obtain ⟨hcc, hff⟩ := bcellB hB2; have hz1 : w.heap.size + 3 ≤ w5.heap.size := (by have := hB2.size; simp at this; omega); clear hB hb; have hB := hB2; clear hB2; have y3 : w.heap.size + 1 + 1 < w5.heap.size := (by omega)))
            refine bodyPost_ret (v := .tuple #[.agg #[.int .i64 0, .int .i64 0, .int .i64 0, .slice none 0 0], .bool false]) (by simp [results, Try.results44, go_sem, hcc]) rfl ?_
            refine madeAB_no HNO.out hok ?_
            go_grown
    · skip
      have hok : shOk a b = false := by simp only [shOk, hv, hv']; simp
      have HNO := Lib.hid (shR_no hok)
      go_enter Try.func44, Try.ntmps44
      go_wp2_with (first
        | (go_at_call_of 79 (.agg #[.int .i64 a.k, .int .i64 a.p, .int .i64 a.n, .slice A a.ws.length c] : Value); refine (l9Good_any _ _ a _ ?_ hf).mono ?_; exact h.below h00; rintro e w1 ⟨rfl, hb⟩; (first | (have hB2 := after1 hB (by simp) hb; clear hB hA hcc hff hz1; have hB := hB2; clear hB2) | have hB := after1 (B := w.heap.size + 3) (W0 := (((w.alloc (.cells #[.int .i64 a.k, .int .i64 a.p, .int .i64 a.n, .slice A a.ws.length c] 40)).alloc (.cells #[.int .i64 b.k, .int .i64 b.p, .int .i64 b.n, .slice A' b.ws.length c'] 40)).alloc (.cells #[.int .i64 0, .int .i64 0, .int .i64 0, .slice none 0 0] 40))) (Below.refl _ _) (by simp) hb); have hA := fin_below3 hB (by omega); obtain ⟨hcc, hff⟩ := bcellB hB; have hz1 : w.heap.size + 3 ≤ w1.heap.size := (by have := hB.size; simp at this; omega); clear hb)
        | (go_at_call_of 79 (.agg #[.int .i64 b.k, .int .i64 b.p, .int .i64 b.n, .slice A' b.ws.length c'] : Value); refine (l9Good_any _ _ b _ ?_ hf').mono ?_; exact h'.below hA; rintro e w2 ⟨rfl, hb⟩; have hB2 := after1 hB (by simp) hb; clear hA hcc hff hz1; have hA := fin_below3 hB2 (by omega); obtain ⟨hcc, hff⟩ := bcellB hB2; have hz1 : w.heap.size + 3 ≤ w2.heap.size := (by have := hB2.size; simp at this; omega); clear hB hb; have hB := hB2; clear hB2))
      refine bodyPost_ret (v := .tuple #[.agg #[.int .i64 0, .int .i64 0, .int .i64 0, .slice none 0 0], .bool false]) (by simp [results, Try.results44, go_sem, hcc]) rfl ?_
      refine madeAB_no HNO.out hok ?_
      go_grown
  · skip
    have hok : shOk a b = false := by simp only [shOk, hv]; simp
    have HNO := Lib.hid (shR_no hok)
    go_enter Try.func44, Try.ntmps44
    go_wp2_with (first
      | (go_at_call_of 79 (.agg #[.int .i64 a.k, .int .i64 a.p, .int .i64 a.n, .slice A a.ws.length c] : Value); refine (l9Good_any _ _ a _ ?_ hf).mono ?_; exact h.below h00; rintro e w1 ⟨rfl, hb⟩; (first | (have hB2 := after1 hB (by simp) hb; clear hB hA hcc hff hz1; have hB := hB2; clear hB2) | have hB := after1 (B := w.heap.size + 3) (W0 := (((w.alloc (.cells #[.int .i64 a.k, .int .i64 a.p, .int .i64 a.n, .slice A a.ws.length c] 40)).alloc (.cells #[.int .i64 b.k, .int .i64 b.p, .int .i64 b.n, .slice A' b.ws.length c'] 40)).alloc (.cells #[.int .i64 0, .int .i64 0, .int .i64 0, .slice none 0 0] 40))) (Below.refl _ _) (by simp) hb); have hA := fin_below3 hB (by omega); obtain ⟨hcc, hff⟩ := bcellB hB; have hz1 : w.heap.size + 3 ≤ w1.heap.size := (by have := hB.size; simp at this; omega); clear hb))
    refine bodyPost_ret (v := .tuple #[.agg #[.int .i64 0, .int .i64 0, .int .i64 0, .slice none 0 0], .bool false]) (by simp [results, Try.results44, go_sem, hcc]) rfl ?_
    refine madeAB_no HNO.out hok ?_
    go_grown
section
variable {B B' : Nat} {w : World} {A A' : Option Addr} {c c' : Nat} {a b : Amd}
theorem ShiftedChange_abs (h : RdS B w A c a.ws) (h' : RdS B' w A' c' b.ws) : Calls Try.prog 43 #[.agg #[.int .i64 a.k, .int .i64 a.p, .int .i64 a.n, .slice A a.ws.length c], .agg #[.int .i64 b.k, .int .i64 b.p, .int .i64 b.n, .slice A' b.ws.length c']] w (ToAB w (shR a b) (shOk a b)) :=
  (ShiftedChange_any A A' c c' a b w h.cells h.2.2 h'.cells h'.2.2).mono fun _ _ h1 => h1.obj h.2.2.shift
theorem sShiftedChange_abs (h : RdS B w A c a.ws) (h' : RdS B' w A' c' b.ws) : Calls Try.prog 44 #[.agg #[.int .i64 a.k, .int .i64 a.p, .int .i64 a.n, .slice A a.ws.length c], .agg #[.int .i64 b.k, .int .i64 b.p, .int .i64 b.n, .slice A' b.ws.length c']] w (ToAB w (shR a b) (shOk a b)) :=
  (sShiftedChange_any A A' c c' a b w h.cells h.2.2 h'.cells h'.2.2).mono fun _ _ h1 => h1.obj h.2.2.shift
end
end Go.Proofs.Ytgchbimjgdoifaa
