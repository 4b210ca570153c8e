/- Slices of elements Rule: the copies, comparisons, sizes and marks of the laws. Conditions: the ranges named. -/
import Derived.Test.YtifahgdalgjgfaaStrs
namespace Go.Proofs.Ytifahgdalgjgfaa
open Go.RowKit
set_option linter.unusedVariables false

structure Rul where
  id : Int
  nm : ByteArray
  rk : Int
  sc : Bool
  db : Bool
  am : Bool
  nd : Int
def RuleK : Kd Rul := ⟨7, fun x => [.int .i64 x.id, .string x.nm, .int .i64 x.rk, .bool x.sc, .bool x.db, .bool x.am, .int .i64 x.nd], fun _ => rfl, fun x => x.nm.size ≤ maxLen⟩
theorem rule_at {w : World} {A : Option Addr} {xs : List Rul} (h : Cells w A (RuleK.row xs)) {i : Nat} (hi : i < xs.length) : ∃ ad, A = some ad ∧ w.cell? (ad.add (i * 7)) = some (.int .i64 xs[i].id) ∧ w.cell? ⟨(ad.add (i * 7)).block, (ad.add (i * 7)).off + 1, none⟩ = some (.string xs[i].nm) ∧ w.cell? ⟨(ad.add (i * 7)).block, (ad.add (i * 7)).off + 2, none⟩ = some (.int .i64 xs[i].rk) ∧ w.cell? ⟨(ad.add (i * 7)).block, (ad.add (i * 7)).off + 3, none⟩ = some (.bool xs[i].sc) ∧ w.cell? ⟨(ad.add (i * 7)).block, (ad.add (i * 7)).off + 4, none⟩ = some (.bool xs[i].db) ∧ w.cell? ⟨(ad.add (i * 7)).block, (ad.add (i * 7)).off + 5, none⟩ = some (.bool xs[i].am) ∧ w.cell? ⟨(ad.add (i * 7)).block, (ad.add (i * 7)).off + 6, none⟩ = some (.int .i64 xs[i].nd) := by
  obtain ⟨ad, e, hc⟩ := Rd.at_ h hi (by decide)
  exact ⟨ad, e, hc 0 _ rfl, by rw [← add_split (h := by omega)]; exact hc 1 _ rfl, by rw [← add_split (h := by omega)]; exact hc 2 _ rfl, by rw [← add_split (h := by omega)]; exact hc 3 _ rfl, by rw [← add_split (h := by omega)]; exact hc 4 _ rfl, by rw [← add_split (h := by omega)]; exact hc 5 _ rfl, by rw [← add_split (h := by omega)]; exact hc 6 _ rfl⟩
theorem infoRule : (Try.prog.info? 52).map (fun i => (i.zero, i.size, i.bytes)) = some (some (.agg #[.int .i64 0, .string ByteArray.empty, .int .i64 0, .bool false, .bool false, .bool false, .int .i64 0]), 7, 48) := by kernel_rfl
def szRule (xs : List Rul) (left : Int) : Int := szF (xs.map (·.nm)) left
end Go.Proofs.Ytifahgdalgjgfaa
