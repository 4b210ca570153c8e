/- Slices of elements Question: the copies, comparisons, sizes and marks of the laws. Conditions: the ranges named. -/
import Derived.Test.YtifahgdalgjgfaaInts
namespace Go.Proofs.Ytifahgdalgjgfaa
open Go.RowKit
set_option linter.unusedVariables false

structure Qst where
  r : Int
  m : Int
  s : Bool
deriving DecidableEq
def QuestionK : Kd Qst := ⟨3, fun x => [.int .i64 x.r, .int .i64 x.m, .bool x.s], fun _ => rfl, fun x => True⟩
theorem question_at {w : World} {A : Option Addr} {xs : List Qst} (h : Cells w A (QuestionK.row xs)) {i : Nat} (hi : i < xs.length) : ∃ ad, A = some ad ∧ w.cell? (ad.add (i * 3)) = some (.int .i64 xs[i].r) ∧ w.cell? ⟨(ad.add (i * 3)).block, (ad.add (i * 3)).off + 1, none⟩ = some (.int .i64 xs[i].m) ∧ w.cell? ⟨(ad.add (i * 3)).block, (ad.add (i * 3)).off + 2, none⟩ = some (.bool xs[i].s) := by
  obtain ⟨ad, e, hc⟩ := Rd.at_ h hi (by decide)
  exact ⟨ad, e, hc 0 _ rfl, by rw [← add_split (h := by omega)]; exact hc 1 _ rfl, by rw [← add_split (h := by omega)]; exact hc 2 _ rfl⟩
theorem infoQuestion : (Try.prog.info? 32).map (fun i => (i.zero, i.size, i.bytes)) = some (some (.agg #[.int .i64 0, .int .i64 0, .bool false]), 3, 24) := by kernel_rfl
/-- The marks of element j, from k on. -/
def markQuestion (k : Nat) (j : Nat) : Qst := ⟨((k + 3 * j : Nat) : Int), ((k + 3 * j + 1 : Nat) : Int), decide ((k + 3 * j + 2) % 3 = 0)⟩
end Go.Proofs.Ytifahgdalgjgfaa
