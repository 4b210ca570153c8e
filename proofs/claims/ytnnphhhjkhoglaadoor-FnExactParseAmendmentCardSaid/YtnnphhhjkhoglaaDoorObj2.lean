/- The laws' helpers on slices of strings, in the words of objects. Conditions: the ranges named. -/
import Derived.Test.YtnnphhhjkhoglaaDoorObj
import Derived.Test.YtnnphhhjkhoglaaDoorStr2
namespace Go.Proofs.YtnnphhhjkhoglaaDoor
open Go.RowKit
set_option linter.unusedVariables false

theorem mkLoop_size (f : Nat) : ∀ (k : Nat) (out : ByteArray), (mkLoop f k out).size ≤ out.size + f := by
  induction f with
  | zero => intro k out; simp [mkLoop]
  | succ f ih =>
    intro k out
    rw [mkLoop]
    split
    · omega
    · have := ih (k / 10) (digB k ++ out)
      rw [ByteArray.size_append, digB_size] at this
      omega
theorem markB_size (k : Nat) (hk : k ≤ 100000000) : (markB k).size ≤ maxLen := by
  unfold markB maxLen
  rw [ByteArray.size_append]
  have := mkLoop_size k k ByteArray.empty
  have h1 : (⟨#[109]⟩ : ByteArray).size = 1 := rfl
  have h2 : ByteArray.empty.size = 0 := rfl
  omega
theorem Fit.marks {k n : Nat} (hn : n ≤ 1048576) (hk : k ≤ 50000000) : Fit (marks k n) := by
  refine ⟨by rw [marks_len]; exact hn, fun s hs => ?_⟩
  obtain ⟨i, hi, rfl⟩ := List.getElem_of_mem hs
  rw [marks_len] at hi
  rw [marks_get k n i hi]
  exact markB_size _ (by omega)
section
variable {B B' lo hi : Nat} {w : World} {A A' : Option Addr} {c c' : Nat} {ss : List ByteArray}
theorem eqS_abs (h : RdS B w A c ss) (h' : RdS B' w A' c' ss) : Calls Tryd.prog 16 #[.slice A ss.length c, .slice A' ss.length c'] w fun e w' => e = .returned (.bool true) ∧ Below w.heap.size w w' := by
  refine (eqStringS_any A A' c c' ss ss w h.cells h'.cells h.2.2.1 h.2.2.1).mono ?_
  rintro e w' ⟨rfl, hb⟩
  exact ⟨ret_bool (decide_eq_true rfl), hb⟩
theorem markS_abs (k : Nat) (h : OwS lo hi w A c ss) (hk0 : 0 < k) (hk : k ≤ 20000000) : Calls Tryd.prog 17 #[.slice A ss.length c, .int .i64 k] w fun e w' => e = .returned (.int .i64 ((k : Int) + ss.length)) ∧ OwS lo hi w' A c (marks k ss.length) ∧ Only lo hi w w' := by
  refine (markStringS_any lo A ss.length c k (strs ss) w h.1 (by have := h.2.2.1; omega) hk0 hk).mono ?_
  rintro e w' ⟨rfl, own, hg⟩
  refine ⟨rfl, ⟨by rw [marks_len]; exact own, h.2.1, Fit.marks h.2.2.1 (by omega)⟩, Only.of_grown hg fun g hgg => ?_⟩
  have hl := h.1.lt g hgg
  refine ⟨hl.1, ?_⟩
  cases A with
  | none => simp [Value.ownBlock] at hgg
  | some a =>
    have := h.2.1 a rfl
    simp [Value.ownBlock] at hgg
    omega
theorem heldS_abs (k n : Nat) (h : RdS B w A c (marks k n)) (hk0 : 0 < k) (hk : k ≤ 20000000) : Calls Tryd.prog 18 #[.slice A n c, .int .i64 k] w fun e w' => e = .returned (.int .i64 ((k : Int) + n)) ∧ Below w.heap.size w w' :=
  heldStringS_yes A n c k w h.cells (by have := h.2.2.1; rw [marks_len] at this; omega) hk0 hk
end
end Go.Proofs.YtnnphhhjkhoglaaDoor
