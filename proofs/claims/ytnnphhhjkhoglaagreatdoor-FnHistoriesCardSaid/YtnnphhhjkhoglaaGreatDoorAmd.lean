/- Amendments: their copies, sizes, comparisons and marks in the laws; whether one is valid, in the program and in the reference. Conditions: the ranges named. -/
import Derived.Test.YtnnphhhjkhoglaaGreatDoorWord
import Derived.Test.YtnnphhhjkhoglaaGreatDoorObj2
import Derived.Deep.Light
namespace Go.Proofs.YtnnphhhjkhoglaaGreatDoor
open Go.RowKit
set_option linter.unusedVariables false

/-- An amendment, as data. -/
structure Amd where
  k : Int
  p : Int
  n : Int
  ws : List ByteArray
theorem Amd.ext' {a b : Amd} (h1 : a.k = b.k) (h2 : a.p = b.p) (h3 : a.n = b.n) (h4 : a.ws = b.ws) : a = b := by
  cases a; cases b; simp_all
/-- A block whose first four cells are known. -/
def Box4 (w : World) (b : Nat) (v0 v1 v2 v3 : Value) : Prop := w.cell? ⟨b, 0, none⟩ = some v0 ∧ w.cell? ⟨b, 1, none⟩ = some v1 ∧ w.cell? ⟨b, 2, none⟩ = some v2 ∧ w.cell? ⟨b, 3, none⟩ = some v3
theorem Box4.below {w w' : World} {b : Nat} {v0 v1 v2 v3 : Value} (h : Box4 w b v0 v1 v2 v3) (hb : Below w.heap.size w w') : Box4 w' b v0 v1 v2 v3 := by
  have hl := World.block_lt_of_cell? _ _ h.1
  exact ⟨(hb.cell (p := ⟨b, 0, none⟩) hl).trans h.1, (hb.cell (p := ⟨b, 1, none⟩) hl).trans h.2.1, (hb.cell (p := ⟨b, 2, none⟩) hl).trans h.2.2.1, (hb.cell (p := ⟨b, 3, none⟩) hl).trans h.2.2.2⟩
theorem Box4.new (w : World) (v0 v1 v2 v3 : Value) (t : TypeId) : Box4 (w.alloc (.cells #[v0, v1, v2, v3] t)) w.heap.size v0 v1 v2 v3 := by
  unfold Box4
  simp [go_sem]
/-- What a copy of an amendment is: its words in new memory. -/
def AmdPost (w : World) (a : Amd) (e : Ending) (w' : World) : Prop :=
  ∃ g : Nat, e = .returned (.agg #[.int .i64 a.k, .int .i64 a.p, .int .i64 a.n, .slice (some ⟨g, 0, none⟩) a.ws.length a.ws.length]) ∧ w'.ownsRow w.heap.size 9 1 (.slice (some ⟨g, 0, none⟩) a.ws.length a.ws.length) a.ws.length (strs a.ws) ∧ Below w.heap.size w w'
/-! ### Valid amendments -/
def vldA (a : Amd) : Bool := inB a.p 0 20 && (if a.k = 1 then a.n == 0 && wordsB a.ws 1 5 else if a.k = 2 then inB a.n 1 5 && (a.ws.length : Int) == 0 else if a.k = 3 then inB a.n 1 5 && wordsB a.ws 1 5 else false)
set_option maxHeartbeats 400000 in
theorem IsValidAmendment_any (A : Option Addr) (c : Nat) (a : Amd) (w : World) (ha : Cells w A (strs a.ws)) (hf : Fit a.ws) :
    Calls Tryz.prog 28 #[.agg #[.int .i64 a.k, .int .i64 a.p, .int .i64 a.n, .slice A a.ws.length c]] w fun e w' => e = .returned (.bool (vldA a)) ∧ Below w.heap.size w w' := by
  go_enter Tryz.func28, Tryz.ntmps28
  go_wp2_with (first | (go_at_call 51; refine (inside_any _ _ _ _).mono ?_; rintro e w' ⟨rfl, rfl⟩) | (go_at_call 52; refine (areWords_any _ _ _ _ _ _ (by exact ha.alloc_ _) hf.1 hf.2).mono ?_; rintro e w' ⟨rfl, rfl⟩))
  all_goals (go_ret; refine ⟨ret_bool ?_, by go_grown⟩; go_light; unfold vldA; simp_all)
theorem wordsB_low (ss : List ByteArray) (m : Int) : wordsB ss 0 m = (decide ((ss.length : Int) ≤ m) && ss.all wordB) := by
  unfold wordsB inB; simp
theorem wordsB_one (ss : List ByteArray) (m : Int) : wordsB ss 1 m = (decide (0 < (ss.length : Int)) && wordsB ss 0 m) := by
  unfold wordsB inB
  have h : decide ((1 : Int) ≤ ss.length) = decide (0 < (ss.length : Int)) := by simp; omega
  rw [h]; simp [Bool.and_assoc]
/-- The reference's order of the same tests. -/
def vldA2 (a : Amd) : Bool := inB a.p 0 20 && wordsB a.ws 0 5 && (if a.k = 1 then a.n == 0 && decide (0 < (a.ws.length : Int)) else if a.k = 2 then inB a.n 1 5 && (a.ws.length : Int) == 0 else if a.k = 3 then inB a.n 1 5 && decide (0 < (a.ws.length : Int)) else false)
theorem vldA2_eq (a : Amd) : vldA2 a = vldA a := by
  unfold vldA2 vldA
  rw [wordsB_one]
  by_cases h1 : a.k = 1
  · simp only [h1, if_true]
    cases inB a.p 0 20 <;> cases wordsB a.ws 0 5 <;> cases (a.n == 0) <;> simp
  · by_cases h2 : a.k = 2
    · rw [if_neg h1, if_pos h2, if_neg h1, if_pos h2]
      rcases Bool.eq_false_or_eq_true ((a.ws.length : Int) == 0) with h | h
      · have h3 : a.ws = [] := by simp at h; exact h
        rw [h3]; simp [wordsB, inB]
      · rw [h]; simp
    · by_cases h3 : a.k = 3
      · rw [if_neg h1, if_neg h2, if_pos h3, if_neg h1, if_neg h2, if_pos h3]
        cases inB a.p 0 20 <;> cases wordsB a.ws 0 5 <;> cases inB a.n 1 5 <;> simp
      · simp [h1, h2, h3]
set_option maxHeartbeats 400000 in
theorem l9Good_any (A : Option Addr) (c : Nat) (a : Amd) (w : World) (ha : Cells w A (strs a.ws)) (hf : Fit a.ws) :
    Calls Tryz.prog 34 #[.agg #[.int .i64 a.k, .int .i64 a.p, .int .i64 a.n, .slice A a.ws.length c]] w fun e w' => e = .returned (.bool (vldA a)) ∧ Below w.heap.size w w' := by
  rw [← vldA2_eq]
  go_enter Tryz.func34, Tryz.ntmps34
  go_wp2_with (first | (go_at_call 58; refine (l1In_any _ _ _ _).mono ?_; rintro e w' ⟨rfl, rfl⟩) | (go_at_call 48; refine (l9Words_any _ _ 5 _ _ (by exact ha.alloc_ _) hf.1 hf.2 (by omega)).mono ?_; rintro e w' ⟨rfl, rfl⟩))
  all_goals (go_ret; refine ⟨ret_bool ?_, by go_grown⟩; go_light; unfold vldA2; simp_all)
end Go.Proofs.YtnnphhhjkhoglaaGreatDoor
