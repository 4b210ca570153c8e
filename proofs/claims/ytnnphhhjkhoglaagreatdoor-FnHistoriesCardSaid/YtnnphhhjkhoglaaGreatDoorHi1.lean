/- The plain law of FnHistories: the undoing amendments lead from the rebuilt text back to the first one. No program's step is here. Conditions: none. -/
import Derived.Test.YtnnphhhjkhoglaaGreatDoorRb5
import Derived.Test.YtnnphhhjkhoglaaGreatDoorFa1
namespace Go.Proofs.YtnnphhhjkhoglaaGreatDoor
set_option linter.unusedVariables false
/-- The text behind all amendments. -/
def endT : List ByteArray → List Amd → List ByteArray
  | ss, [] => ss
  | ss, a :: qs => endT (amdL ss a) qs
def fitsAll : List ByteArray → List Amd → Prop
  | _, [] => True
  | ss, a :: qs => fitsB ss a = true ∧ fitsAll (amdL ss a) qs
theorem full_fits : ∀ {ps : List Amd} {ss : List ByteArray}, (rebT ss ps).length = ps.length + 1 → fitsAll ss ps
  | [], _, _ => trivial
  | a :: ps, ss, h => by
    obtain ⟨h1, h2⟩ := full_cons h
    exact ⟨h1, full_fits h2⟩
theorem fits_full : ∀ {ps : List Amd} {ss : List ByteArray}, fitsAll ss ps → (rebT ss ps).length = ps.length + 1 ∧ ∀ d, (rebT ss ps).getLastD d = endT ss ps
  | [], _, _ => ⟨rfl, fun _ => rfl⟩
  | a :: ps, ss, ⟨h1, h2⟩ => by
    obtain ⟨e1, e2⟩ := fits_full h2
    rw [rebT, if_pos h1]
    refine ⟨by rw [List.length_cons, e1, List.length_cons], fun d => ?_⟩
    rw [List.getLastD_cons, e2]
    rfl
theorem fits_snoc : ∀ {xs : List Amd} {ss : List ByteArray} {y : Amd}, fitsAll ss xs → fitsB (endT ss xs) y = true → fitsAll ss (xs ++ [y]) ∧ endT ss (xs ++ [y]) = amdL (endT ss xs) y
  | [], ss, y, _, h => ⟨⟨h, trivial⟩, rfl⟩
  | a :: xs, ss, y, ⟨h1, h2⟩, h => by
    obtain ⟨e1, e2⟩ := fits_snoc (xs := xs) (ss := amdL ss a) (y := y) h2 h
    exact ⟨⟨h1, e1⟩, e2⟩
theorem can_parts {ss : List ByteArray} {a : Amd} : canB ss a = true ↔ wordsB ss 0 20 = true ∧ vldA a = true ∧ fitsB ss a = true := by
  unfold canB
  simp [Bool.and_eq_true, and_assoc]
theorem back_all : ∀ {ps : List Amd} {ss : List ByteArray}, fitsAll ss ps → wordsB ss 0 20 = true → (∀ a ∈ ps, vldA a = true) →
    fitsAll (endT ss ps) (invsL ss ps).reverse ∧ endT (endT ss ps) (invsL ss ps).reverse = ss ∧ wordsB (endT ss ps) 0 20 = true ∧ ∀ a ∈ invsL ss ps, vldA a = true
  | [], ss, _, hw, _ => ⟨trivial, rfl, hw, fun a h => by cases h⟩
  | a :: ps, ss, ⟨h1, h2⟩, hw, hv => by
    have hc : canB ss a = true := can_parts.2 ⟨hw, hv a List.mem_cons_self, h1⟩
    obtain ⟨i1, i2⟩ := inv_law hc
    obtain ⟨w1, v1, f1⟩ := can_parts.1 i1
    obtain ⟨r1, r2, r3, r4⟩ := back_all (ps := ps) (ss := amdL ss a) h2 w1 (fun x hx => hv x (List.mem_cons_of_mem _ hx))
    have e : (invsL ss (a :: ps)).reverse = (invsL (amdL ss a) ps).reverse ++ [invA ss a] := by rw [invsL, List.reverse_cons]
    have e2 : endT ss (a :: ps) = endT (amdL ss a) ps := rfl
    rw [e, e2]
    obtain ⟨s1, s2⟩ := fits_snoc (y := invA ss a) r1 (by rw [r2]; exact f1)
    refine ⟨s1, by rw [s2, r2, i2], r3, fun x hx => ?_⟩
    rw [invsL] at hx
    rcases List.mem_cons.1 hx with rfl | hx
    · exact v1
    · exact r4 x hx
/-- What FnHistories asks of the texts. -/
theorem hist_law {ss : List ByteArray} {ps : List Amd} (h : undoB ss ps = true) : rebL (rebL ss ps) (undoL ss ps) = ss ∧ rebN (rebL ss ps) (undoL ss ps) = ((undoL ss ps).length : Int) ∧ rebB (rebL ss ps) (undoL ss ps) = true := by
  have h0 := h
  unfold undoB fullB at h
  rw [Bool.and_eq_true, decide_eq_true_eq] at h
  obtain ⟨hr, hl⟩ := h
  have hf := full_fits hl
  have hr0 := hr
  unfold rebB listB at hr
  rw [Bool.and_eq_true, Bool.and_eq_true, decide_eq_true_eq, List.all_eq_true] at hr
  obtain ⟨hw, h8, hv⟩ := hr
  obtain ⟨r1, r2, r3, r4⟩ := back_all hf hw hv
  have eb : rebL ss ps = endT ss ps := by unfold rebL; rw [if_pos hr0, (fits_full hf).2]
  have eu : undoL ss ps = (invsL ss ps).reverse := by unfold undoL; rw [if_pos h0]
  have hb : rebB (endT ss ps) (invsL ss ps).reverse = true := by
    unfold rebB listB
    rw [Bool.and_eq_true, Bool.and_eq_true, decide_eq_true_eq, List.all_eq_true]
    refine ⟨r3, by rw [List.length_reverse, invsL_len]; exact h8, fun a ha => r4 a (List.mem_reverse.1 ha)⟩
  obtain ⟨q1, q2⟩ := fits_full r1
  rw [eb, eu]
  refine ⟨?_, ?_, hb⟩
  · unfold rebL
    rw [if_pos hb, q2, r2]
  · unfold rebN
    rw [if_pos hb, q1]
    omega
/-- Whether all fit, told by the number of those that do. -/
theorem hist_told {ss : List ByteArray} {ps : List Amd} (h : rebB ss ps = true) : undoB ss ps = decide (rebN ss ps = (ps.length : Int)) := by
  unfold undoB fullB rebN
  rw [h, if_pos rfl, Bool.true_and]
  have := (rebT_len ss ps).1
  congr 1
  apply propext
  omega
end Go.Proofs.YtnnphhhjkhoglaaGreatDoor
