/- The walk of the law on AddTallies: it returns true. Conditions: none. -/
import Derived.Test.YtnhmggoaldaecaaVt3
namespace Go.Proofs.Ytnhmggoaldaecaa
open Go.RowKit Vt
set_option linter.unusedVariables false

def pickI (b : Bool) (x : Int) : Int := if b then x else 0
theorem addR_eq (y n a y' n' a' : Int) : addR y n a y' n' a' = .tuple #[.agg #[.int .i64 (pickI (addS y n a y' n' a') (y + y')), .int .i64 (pickI (addS y n a y' n' a') (n + n')), .int .i64 (pickI (addS y n a y' n' a') (a + a'))], .bool (addS y n a y' n' a')] := by
  unfold addR addV pickI
  rcases Bool.eq_false_or_eq_true (addS y n a y' n' a') with h | h <;> rw [h] <;> rfl
namespace fnExactAddTallies
set_option maxHeartbeats 1600000 in
theorem walk (y n a : Int) (wy : (Lit.int .i64 y).wf = true) (wn : (Lit.int .i64 n).wf = true) (wa : (Lit.int .i64 a).wf = true) (y' n' a' : Int) (wy' : (Lit.int .i64 y').wf = true) (wn' : (Lit.int .i64 n').wf = true) (wa' : (Lit.int .i64 a').wf = true) (w : World) :
    Calls Try.prog 4 #[.agg #[.int .i64 y, .int .i64 n, .int .i64 a], .agg #[.int .i64 y', .int .i64 n', .int .i64 a']] w fun e w' => e = .returned (.bool true) ∧ Below w.heap.size w w' := by
  go_enter Try.func4, Try.ntmps4
  go_upto_region 1 with fail
  go_cut [5, 6] (fun s t wx => ∃ g : Nat, s = .pointer (some ⟨g, 0, none⟩) ∧ t = .bool (addS y n a y' n' a') ∧ w.heap.size + 2 ≤ g ∧ g < wx.heap.size ∧ wx.cell? ⟨g, 0, none⟩ = some (.int .i64 (pickI (addS y n a y' n' a') (y + y'))) ∧ wx.cell? ⟨g, 1, none⟩ = some (.int .i64 (pickI (addS y n a y' n' a') (n + n'))) ∧ wx.cell? ⟨g, 2, none⟩ = some (.int .i64 (pickI (addS y n a y' n' a') (a + a'))) ∧ Below (w.heap.size + 2) ((w.alloc (.cells #[.int .i64 y, .int .i64 n, .int .i64 a] 23)).alloc (.cells #[.int .i64 y', .int .i64 n', .int .i64 a'] 23)) wx)
  case first =>
    go_region_held3 (fun w' => Below (w.heap.size + 2) ((w.alloc (.cells #[.int .i64 y, .int .i64 n, .int .i64 a] 23)).alloc (.cells #[.int .i64 y', .int .i64 n', .int .i64 a'] 23)) w' ∧ (∀ b o, b < w.heap.size + 2 → w'.cell? ⟨b, o, none⟩ = ((w.alloc (.cells #[.int .i64 y, .int .i64 n, .int .i64 a] 23)).alloc (.cells #[.int .i64 y', .int .i64 n', .int .i64 a'] 23)).cell? ⟨b, o, none⟩))
      ((first | (refine mkS ?_; assumption) | (refine allocS ?_ ?_; assumption; simp; done) | (refine setS ?_ ?_; assumption; simp; omega) | (refine drewS ?_; assumption) | (refine mkS ?_; go_grown)))
      (first
        | (go_at_call 13; refine (toTally_any _ _ _ _).mono ?_; rintro e w' ⟨rfl, hb⟩; obtain ⟨hB, hz⟩ := callS (by assumption) (by simp) hb; first | (have hP1 := Since.step hP hb; clear hP hc hf hl; have hP := hP1; clear hP1; obtain ⟨hc, hf, hl⟩ := bcell3 hP.below; clear hb) | (have hP := Since.mk hb; obtain ⟨hc, hf, hl⟩ := bcell3 hb; clear hb))
        | (go_at_call 15; refine (sAddTallies_any _ _ _ _ _ _ _).mono ?_; rintro e w' ⟨rfl, hb⟩; rw [addR_eq]; obtain ⟨hB, hz⟩ := callS (by assumption) (by simp) hb; first | (have hP1 := Since.step hP hb; clear hP hc hf hl; have hP := hP1; clear hP1; obtain ⟨hc, hf, hl⟩ := bcell3 hP.below; clear hb) | (have hP := Since.mk hb; obtain ⟨hc, hf, hl⟩ := bcell3 hb; clear hb)))
    all_goals (go_wp2_with fail; go_meet; refine ⟨_, rfl, rfl, ?_, ?_, ?_, ?_, ?_, ?_⟩)
    all_goals first | (go_grown; done) | (simp [go_sem]; done) | (simp [go_sem]; omega) | (simp [go_sem, *]; done)
  case rest =>
    obtain ⟨g1, rfl, rfl, hg1, hh1, c10, c11, c12, hB1⟩ := hcut
    obtain ⟨W1, rfl⟩ : ∃ W, W = wc := ⟨_, rfl⟩
    obtain ⟨e1, f1⟩ := bcellB hB1
    have z1 : w.heap.size + 1 < W1.heap.size := by have := hB1.size; simp at this; omega
    have z0 : w.heap.size < W1.heap.size := by omega
    go_upto_region 2 with fail
    go_cut [7, 8] (fun s t wx => ∃ g : Nat, s = .pointer (some ⟨g, 0, none⟩) ∧ t = .bool (addS y n a y' n' a') ∧ W1.heap.size ≤ g ∧ g < wx.heap.size ∧ wx.cell? ⟨g, 0, none⟩ = some (.int .i64 (pickI (addS y n a y' n' a') (y + y'))) ∧ wx.cell? ⟨g, 1, none⟩ = some (.int .i64 (pickI (addS y n a y' n' a') (n + n'))) ∧ wx.cell? ⟨g, 2, none⟩ = some (.int .i64 (pickI (addS y n a y' n' a') (a + a'))) ∧ Below (W1.heap.size) W1 wx)
    case first =>
      go_region_held3 (fun w' => Below (W1.heap.size) W1 w' ∧ (∀ b o, b < W1.heap.size → w'.cell? ⟨b, o, none⟩ = W1.cell? ⟨b, o, none⟩))
        ((first | (refine mkS ?_; assumption) | (refine allocS ?_ ?_; assumption; simp; done) | (refine setS ?_ ?_; assumption; simp; omega) | (refine drewS ?_; assumption) | (refine mkS ?_; go_grown)))
        (first
          | (go_at_call 13; refine (toTally_any _ _ _ _).mono ?_; rintro e w' ⟨rfl, hb⟩; obtain ⟨hB, hz⟩ := callS (by assumption) (by simp) hb; first | (have hP1 := Since.step hP hb; clear hP hc hf hl; have hP := hP1; clear hP1; obtain ⟨hc, hf, hl⟩ := bcell3 hP.below; clear hb) | (have hP := Since.mk hb; obtain ⟨hc, hf, hl⟩ := bcell3 hb; clear hb))
          | (go_at_call 16; refine (AddTallies_any _ _ _ _ _ _ _).mono ?_; rintro e w' ⟨rfl, hb⟩; rw [addR_eq]; obtain ⟨hB, hz⟩ := callS (by assumption) (by simp) hb; first | (have hP1 := Since.step hP hb; clear hP hc hf hl; have hP := hP1; clear hP1; obtain ⟨hc, hf, hl⟩ := bcell3 hP.below; clear hb) | (have hP := Since.mk hb; obtain ⟨hc, hf, hl⟩ := bcell3 hb; clear hb)))
      all_goals (go_wp2_with fail; go_meet; refine ⟨_, rfl, rfl, ?_, ?_, ?_, ?_, ?_, ?_⟩)
      all_goals first | (go_grown; done) | (simp [go_sem]; done) | (simp [go_sem]; omega) | (simp [go_sem, *]; done)
    case rest =>
      obtain ⟨g2, rfl, rfl, hg2, hh2, c20, c21, c22, hB2⟩ := hcut
      obtain ⟨W2, rfl⟩ : ∃ W, W = wc := ⟨_, rfl⟩
      have d0 := (hB2.cell (p := ⟨g1, 0, none⟩) hh1).trans c10
      have d1 := (hB2.cell (p := ⟨g1, 1, none⟩) hh1).trans c11
      have d2 := (hB2.cell (p := ⟨g1, 2, none⟩) hh1).trans c12
      have hall : Below w.heap.size w W2 := (((Below.refl _ _).alloc (Nat.le_refl _) _).alloc (by simp) _).trans ((hB1.mono (by omega)).trans (hB2.mono (by omega)))
      clear e1 f1 hB1 hB2
      go_wp2_with (go_at_call 17; refine (eqTally_same _ _ _ _).mono ?_; rintro e w' ⟨rfl, hb⟩; have hB := after hall hb; clear hb)
      go_ret
      exact ⟨rfl, hB⟩
end fnExactAddTallies
end Go.Proofs.Ytnhmggoaldaecaa
