/- The walk of the law on IsValidAmendment: it returns true. Conditions: none. -/
import Derived.Test.YtecdgnflikkhaaaAmd
namespace Go.Proofs.Ytecdgnflikkhaaa
open Go.RowKit
set_option linter.unusedVariables false
namespace fnExactIsValidAmendment
set_option maxHeartbeats 800000 in
theorem walk (A : Option Addr) (c : Nat) (a : Amd) (w : World) (hc : a.ws.length ≤ c) (ha : Cells w A (strs a.ws)) (hn : a.ws.length ≤ maxLen) (hs : ∀ s ∈ a.ws, s.size ≤ maxLen) (wk : (Lit.int .i64 a.k).wf = true) (wp : (Lit.int .i64 a.p).wf = true) (wn : (Lit.int .i64 a.n).wf = true) :
    Calls Try.prog 4 #[.agg #[.int .i64 a.k, .int .i64 a.p, .int .i64 a.n, .slice A a.ws.length c]] w fun e w' => e = .returned (.bool true) ∧ Below w.heap.size w w' := by
  clear wk wp wn hc
  by_cases hz : szF a.ws 1048576 < 0
  · go_enter Try.func4, Try.ntmps4
    go_wp2_with (go_at_call 20; refine (szAmendment_any _ _ _ _ _ (by exact ha.alloc_ _) hn hs (by omega) (by omega)).mono ?_; rintro e w' ⟨rfl, hb⟩; have hB := after (w := w) (by go_grown) hb; clear hb)
    go_ret
    exact ⟨rfl, hB⟩
  · have hf : Fit a.ws := ⟨by have := (szF_ok (Int.not_lt.1 hz)).1; omega, hs⟩
    have x0 := ha.alloc_ (.cells #[.int .i64 a.k, .int .i64 a.p, .int .i64 a.n, .slice A a.ws.length c] 28)
    have b0 := Box4.new w (.int .i64 a.k) (.int .i64 a.p) (.int .i64 a.n) (.slice A a.ws.length c) 28
    have h0 : Below w.heap.size w (w.alloc (.cells #[.int .i64 a.k, .int .i64 a.p, .int .i64 a.n, .slice A a.ws.length c] 28)) := by go_grown
    go_enter Try.func4, Try.ntmps4
    go_wp2_with fail
    generalize w.alloc (.cells #[.int .i64 a.k, .int .i64 a.p, .int .i64 a.n, .slice A a.ws.length c] 28) = w0 at *
    refine (szAmendment_any A c a _ w0 x0 hn hs (by omega) (by omega)).mono ?_
    rintro e w1 ⟨rfl, hb1⟩
    have x1 := x0.below hb1
    have b1 := b0.below hb1
    have h1 := after h0 hb1
    obtain ⟨e0, e1, e2, e3⟩ := b1
    go_wp2_with fail
    refine (toAmendment_any A c a w1 x1 hf).mono ?_
    rintro e w2 ⟨g1, rfl, own1, hb2⟩
    have x2 := x1.below hb2
    have b2 := Box4.below ⟨e0, e1, e2, e3⟩ hb2
    have h2 := after h1 hb2
    have r1 := Cells.of_own own1
    clear own1 hb1 hb2 e0 e1 e2 e3 x1 h1
    go_wp2_with fail
    refine (sIsValidAmendment_any _ _ a w2 r1 hf).mono ?_
    rintro e w3 ⟨rfl, hb3⟩
    have x3 := x2.below hb3
    have h3 := after h2 hb3
    obtain ⟨e0, e1, e2, e3⟩ := b2.below hb3
    clear hb3 x2 h2 b2 r1
    go_wp2_with fail
    refine (toAmendment_any A c a w3 x3 hf).mono ?_
    rintro e w4 ⟨g2, rfl, own2, hb4⟩
    have x4 := x3.below hb4
    have b4 := Box4.below ⟨e0, e1, e2, e3⟩ hb4
    have h4 := after h3 hb4
    have r2 := Cells.of_own own2
    clear own2 hb4 e0 e1 e2 e3 x3 h3
    have n4 := Box4.new w4 (.int .i64 a.k) (.int .i64 a.p) (.int .i64 a.n) (.slice (some ⟨g2, 0, none⟩) a.ws.length a.ws.length) 31
    have hn4 : Below w4.heap.size w4 (w4.alloc (.cells #[.int .i64 a.k, .int .i64 a.p, .int .i64 a.n, .slice (some ⟨g2, 0, none⟩) a.ws.length a.ws.length] 31)) := by go_grown
    go_wp2_with fail
    generalize w4.alloc (.cells #[.int .i64 a.k, .int .i64 a.p, .int .i64 a.n, .slice (some ⟨g2, 0, none⟩) a.ws.length a.ws.length] 31) = w5 at *
    have x5 := x4.below hn4
    have b5 := b4.below hn4
    have h5 := after h4 hn4
    have r5 := r2.below hn4
    clear hn4 x4 b4 h4 r2
    refine (IsValidAmendment_any _ _ a w5 r5 hf).mono ?_
    rintro e w6 ⟨rfl, hb6⟩
    have x6 := x5.below hb6
    have h6 := after h5 hb6
    have r6 := r5.below hb6
    obtain ⟨e0, e1, e2, e3⟩ := b5.below hb6
    obtain ⟨d0, d1, d2, d3⟩ := n4.below hb6
    clear hb6 x5 b5 h5 r5 n4
    have z0 : w.heap.size < w6.heap.size := World.block_lt_of_cell? _ _ e0
    have z1 : w4.heap.size < w6.heap.size := World.block_lt_of_cell? _ _ d0
    go_wp2_with fail
    go_region_held3 (fun w' => Below w6.heap.size w6 w' ∧ (∀ b o, b < w6.heap.size → w'.cell? ⟨b, o, none⟩ = w6.cell? ⟨b, o, none⟩))
      ((first | (refine mkS ?_; assumption) | (refine drewS ?_; assumption) | (refine mkS ?_; go_grown)))
      (first
        | (go_at_call 22; refine (toAmendment_any A c a _ ?_ hf).mono ?_; exact x6.below (S1 (by assumption)); rintro e w' ⟨g3, rfl, own3, hb⟩; have r3 := Cells.of_own own3; clear own3; have hB := (callS (by assumption) (Nat.le_refl _) hb).1; clear hb)
        | (go_at_call 24; refine (eqAmendment_same _ _ _ _ a a _ ?_ ?_ hf rfl).mono ?_; exact r6.below hB; exact r3; rintro e w' ⟨rfl, hb⟩; have hB2 := (callS (by assumption) (Nat.le_refl _) hb).1; clear hb))
    go_wp2
    go_ret
    exact ⟨rfl, after h6 hB2⟩
end fnExactIsValidAmendment
end Go.Proofs.Ytecdgnflikkhaaa
