/- Calls that return a list of words and whether they could, in the words of objects. Conditions: none. -/
import Derived.Test.YtnnphhhjkhoglaaGreatDoorApp2
namespace Go.Proofs.YtnnphhhjkhoglaaGreatDoor
open Go.RowKit
set_option linter.unusedVariables false
/-- A call that returns a list of words of its own and a Bool. -/
def ToSB (w : World) (ss : List ByteArray) (ok : Bool) (e : Ending) (w' : World) : Prop := ∃ (A : Option Addr) (c : Nat), e = .returned (.tuple #[.slice A ss.length c, .bool ok]) ∧ OwS w.heap.size w'.heap.size w' A c ss ∧ Below w.heap.size w w'
theorem fitsB_len {ss : List ByteArray} {a : Amd} (h : fitsB ss a = true) (hv : vldA a = true) : (amdL ss a).length ≤ 20 := by
  obtain ⟨hp0, hp1, hn0, hn1, hw5, _⟩ := vldA_range hv
  unfold fitsB at h
  rw [Bool.and_eq_true, Bool.and_eq_true] at h
  have h1 : a.p + a.n ≤ ss.length := of_decide_eq_true h.1.1
  have h2 : (ss.length : Int) - a.n + a.ws.length ≤ 20 := of_decide_eq_true h.1.2
  unfold amdL
  rw [List.length_append, List.length_append, List.length_take, List.length_drop]
  omega
theorem amdL_mem {ss : List ByteArray} {a : Amd} {s : ByteArray} (h : s ∈ amdL ss a) : s ∈ ss ∨ s ∈ a.ws := by
  unfold amdL at h
  rw [List.mem_append, List.mem_append] at h
  rcases h with h | h | h
  · exact .inl (List.mem_of_mem_take h)
  · exact .inr h
  · exact .inl (List.mem_of_mem_drop h)
theorem Fit.app {ss : List ByteArray} {a : Amd} (h : Fit ss) (h' : Fit a.ws) : Fit (appL ss a) := by
  unfold appL
  split
  · rename_i hc
    unfold canB at hc
    rw [Bool.and_eq_true, Bool.and_eq_true] at hc
    refine ⟨Nat.le_trans (fitsB_len hc.2 hc.1.2) (by omega), fun s hs => ?_⟩
    rcases amdL_mem hs with h1 | h1
    · exact h.2 s h1
    · exact h'.2 s h1
  · exact ⟨by simp, fun s hs => by simp at hs⟩
section
variable {B B' : Nat} {w : World} {T A : Option Addr} {t c : Nat} {ss : List ByteArray} {a : Amd}
theorem sApplyAmendment_abs (h : RdS B w T t ss) (h' : RdS B' w A c a.ws) : Calls Tryz.prog 42 #[.slice T ss.length t, .agg #[.int .i64 a.k, .int .i64 a.p, .int .i64 a.n, .slice A a.ws.length c]] w (ToSB w (appL ss a) (canB ss a)) := by
  refine (sApplyAmendment_any T A t c ss a w h.cells h.1 h.2.2 h'.cells h'.2.2).mono ?_
  rintro e w' ⟨O, d, rfl, own, hb⟩
  exact ⟨O, d, rfl, OwS.mk own (h.2.2.app h'.2.2), hb⟩
end
end Go.Proofs.YtnnphhhjkhoglaaGreatDoor
