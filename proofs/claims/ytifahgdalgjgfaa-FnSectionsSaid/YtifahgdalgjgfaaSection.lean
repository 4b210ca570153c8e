/- Slices of elements Section: the copies, comparisons, sizes and marks of the laws. Conditions: the ranges named. -/
import Derived.Test.YtifahgdalgjgfaaStrs
namespace Go.Proofs.Ytifahgdalgjgfaa
open Go.RowKit
set_option linter.unusedVariables false

structure Sec where
  d : Int
  t : ByteArray
def SectionK : Kd Sec := ⟨2, fun x => [.int .i64 x.d, .string x.t], fun _ => rfl, fun x => x.t.size ≤ maxLen⟩
theorem section_at {w : World} {A : Option Addr} {xs : List Sec} (h : Cells w A (SectionK.row xs)) {i : Nat} (hi : i < xs.length) : ∃ ad, A = some ad ∧ w.cell? (ad.add (i * 2)) = some (.int .i64 xs[i].d) ∧ w.cell? ⟨(ad.add (i * 2)).block, (ad.add (i * 2)).off + 1, none⟩ = some (.string xs[i].t) := by
  obtain ⟨ad, e, hc⟩ := Rd.at_ h hi (by decide)
  exact ⟨ad, e, hc 0 _ rfl, by rw [← add_split (h := by omega)]; exact hc 1 _ rfl⟩
theorem infoSection : (Try.prog.info? 78).map (fun i => (i.zero, i.size, i.bytes)) = some (some (.agg #[.int .i64 0, .string ByteArray.empty]), 2, 24) := by kernel_rfl
def szSection (xs : List Sec) (left : Int) : Int := szF (xs.map (·.t)) left
end Go.Proofs.Ytifahgdalgjgfaa
