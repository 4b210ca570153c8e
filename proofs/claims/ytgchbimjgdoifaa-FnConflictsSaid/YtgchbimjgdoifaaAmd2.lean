/- Amendments in the words of objects: the laws' helpers on them. Conditions: the ranges named. -/
import Derived.Test.YtgchbimjgdoifaaAmd
namespace Go.Proofs.Ytgchbimjgdoifaa
open Go.RowKit
set_option linter.unusedVariables false
/-- A copy of an amendment. -/
def ToA (w : World) (a : Amd) (e : Ending) (w' : World) : Prop := ∃ (A : Option Addr) (c : Nat), e = .returned (.agg #[.int .i64 a.k, .int .i64 a.p, .int .i64 a.n, .slice A a.ws.length c]) ∧ OwS w.heap.size w'.heap.size w' A c a.ws ∧ Below w.heap.size w w'
section
variable {B B' lo hi : Nat} {w : World} {A A' : Option Addr} {c c' : Nat} {a : Amd}
theorem toA_abs (h : RdS B w A c a.ws) : Calls Try.prog 69 #[.agg #[.int .i64 a.k, .int .i64 a.p, .int .i64 a.n, .slice A a.ws.length c]] w (ToA w a) := by
  refine (toAmendment_any A c a w h.cells h.2.2).mono ?_
  rintro e w' ⟨g, rfl, own, hb⟩
  exact ⟨_, _, rfl, OwS.mk own h.2.2, hb⟩
theorem szA_abs (left : Int) (h : Cells w A (strs a.ws)) (hf : Fit0 a.ws) (h0 : 0 ≤ left) (h1 : left ≤ 1048576) : Calls Try.prog 64 #[.agg #[.int .i64 a.k, .int .i64 a.p, .int .i64 a.n, .slice A a.ws.length c], .int .i64 left] w fun e w' => e = .returned (.int .i64 (szF a.ws left)) ∧ Below w.heap.size w w' :=
  szAmendment_any A c a left w h hf.1 hf.2 h0 h1
theorem eqA_abs (h : RdS B w A c a.ws) (h' : RdS B' w A' c' a.ws) : Calls Try.prog 72 #[.agg #[.int .i64 a.k, .int .i64 a.p, .int .i64 a.n, .slice A a.ws.length c], .agg #[.int .i64 a.k, .int .i64 a.p, .int .i64 a.n, .slice A' a.ws.length c']] w fun e w' => e = .returned (.bool true) ∧ Below w.heap.size w w' :=
  eqAmendment_same A A' c c' a a w h.cells h'.cells h.2.2 rfl
end
end Go.Proofs.Ytgchbimjgdoifaa
