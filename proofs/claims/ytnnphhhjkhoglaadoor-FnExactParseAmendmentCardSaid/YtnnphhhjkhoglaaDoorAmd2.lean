/- Amendments in the words of objects: the laws' helpers on them. Conditions: the ranges named. -/
import Derived.Test.YtnnphhhjkhoglaaDoorAmd
namespace Go.Proofs.YtnnphhhjkhoglaaDoor
open Go.RowKit
set_option linter.unusedVariables false
/-- A copy of an amendment. -/
def ToA (w : World) (a : Amd) (e : Ending) (w' : World) : Prop := ∃ (A : Option Addr) (c : Nat), e = .returned (.agg #[.int .i64 a.k, .int .i64 a.p, .int .i64 a.n, .slice A a.ws.length c]) ∧ OwS w.heap.size w'.heap.size w' A c a.ws ∧ Below w.heap.size w w'
section
variable {B B' lo hi : Nat} {w : World} {A A' : Option Addr} {c c' : Nat} {a : Amd}
theorem eqA_abs (h : RdS B w A c a.ws) (h' : RdS B' w A' c' a.ws) : Calls Tryd.prog 6 #[.agg #[.int .i64 a.k, .int .i64 a.p, .int .i64 a.n, .slice A a.ws.length c], .agg #[.int .i64 a.k, .int .i64 a.p, .int .i64 a.n, .slice A' a.ws.length c']] w fun e w' => e = .returned (.bool true) ∧ Below w.heap.size w w' :=
  eqAmendment_same A A' c c' a a w h.cells h'.cells h.2.2 rfl
theorem markA_abs (k : Nat) (h : OwS lo hi w A c a.ws) (hk0 : 0 < k) (hk : k ≤ 20000000) : Calls Tryd.prog 7 #[.agg #[.int .i64 a.k, .int .i64 a.p, .int .i64 a.n, .slice A a.ws.length c], .int .i64 k] w fun e w' => e = .returned (.int .i64 ((k : Int) + a.ws.length)) ∧ OwS lo hi w' A c (marks k a.ws.length) ∧ Only lo hi w w' := by
  refine (markAmendment_any lo A c k a (strs a.ws) w h.1 (by have := h.2.2.1; omega) hk0 hk).mono ?_
  rintro e w' ⟨rfl, own, hg⟩
  refine ⟨rfl, ⟨by rw [marks_len]; exact own, h.2.1, Fit.marks h.2.2.1 (by omega)⟩, Only.of_grown hg fun g hgg => ?_⟩
  have hl := h.1.lt g hgg
  refine ⟨hl.1, ?_⟩
  cases A with
  | none => simp [Value.ownBlock] at hgg
  | some a =>
    have := h.2.1 a rfl
    simp [Value.ownBlock] at hgg
    omega
theorem heldA_abs (k : Nat) (h : RdS B w A c (marks k a.ws.length)) (hk0 : 0 < k) (hk : k ≤ 20000000) : Calls Tryd.prog 8 #[.agg #[.int .i64 a.k, .int .i64 a.p, .int .i64 a.n, .slice A a.ws.length c], .int .i64 k] w fun e w' => e = .returned (.int .i64 ((k : Int) + a.ws.length)) ∧ Below w.heap.size w w' :=
  heldAmendment_yes A c k a w h.cells (by have := h.2.2.1; rw [marks_len] at this; omega) hk0 hk
end
end Go.Proofs.YtnnphhhjkhoglaaDoor
