/- Lists of sections in the words of the laws' walks. Conditions: the ranges named. -/
import Derived.Test.YtfncfaamdedmjaaDoorDs4
namespace Go.Proofs.YtfncfaamdedmjaaDoor
open Go.RowKit
set_option linter.unusedVariables false
section
variable {B B' lo hi : Nat} {w : World} {A A' : Option Addr} {c c' : Nat} {xs : List Sec}
theorem toSc_abs (h : Rd SectionK B w A c xs) : Calls Tryd.prog 13 #[.slice A xs.length c] w (ToL SectionK 52 w xs) := toSectionS_any A c xs w h.cells h.2.2.1 h.2.2.2
theorem eqSc_abs (h : Rd SectionK B w A c xs) (k : Rd SectionK B' w A' c' xs) : Calls Tryd.prog 15 #[.slice A xs.length c, .slice A' xs.length c'] w fun e w' => e = .returned (.bool true) ∧ Below w.heap.size w w' := eqSectionS_same B B' A A' c c' xs w h k
def szSc_of (xs : List Sec) (left : Int) : Int := szSection xs left
theorem szSc_abs (left : Int) (h : Rd0 SectionK B w A c xs) (h0 : 0 ≤ left) (h1 : left ≤ 1048576) : Calls Tryd.prog 11 #[.slice A xs.length c, .int .i64 left] w fun e w' => e = .returned (.int .i64 (szSc_of xs left)) ∧ Below w.heap.size w w' := szSectionS_any A c xs left w h.2.1.cells h.2.2.1 h.2.2.2 h0 h1
theorem szSc_fit {left : Int} (h : ¬ szSc_of xs left < 0) (h1 : left ≤ 1048576) : xs.length ≤ 1048576 ∧ 0 ≤ szSc_of xs left ∧ szSc_of xs left ≤ 1048576 := by
  have h2 := szF_ok (ss := xs.map (·.t)) (left := left) (by unfold szSc_of szSection at h; omega)
  have h3 : szSc_of xs left = szF (xs.map (·.t)) left := rfl
  rw [List.length_map] at h2
  omega
theorem FindSection_abs (h : Rd SectionK B w A c xs) (s : ByteArray) : Calls Tryd.prog 14 #[.slice A xs.length c, .string s] w fun e w' => e = .returned (.tuple #[.int .i64 (fsI xs s), .bool (fsB xs s)]) ∧ Below w.heap.size w w' := FindSection_any A c xs s w h.cells h.2.2.1 h.2.2.2
theorem sFindSection_abs (h : Rd SectionK B w A c xs) (s : ByteArray) : Calls Tryd.prog 12 #[.slice A xs.length c, .string s] w fun e w' => e = .returned (.tuple #[.int .i64 (fsI xs s), .bool (fsB xs s)]) ∧ Below w.heap.size w w' := sFindSection_any A c xs s w h.cells h.2.2.1 h.2.2.2
theorem DocumentText_abs (h : Rd SectionK B w A c xs) : Calls Tryd.prog 17 #[.slice A xs.length c] w fun e w' => e = .returned (.tuple #[.string (txS xs), .bool (docB xs)]) ∧ Below w.heap.size w w' := DocumentText_any A c xs w h.cells h.2.2.1 h.2.2.2
theorem sDocumentText_abs (h : Rd SectionK B w A c xs) : Calls Tryd.prog 16 #[.slice A xs.length c] w fun e w' => e = .returned (.tuple #[.string (txS xs), .bool (docB xs)]) ∧ Below w.heap.size w w' := sDocumentText_any A c xs w h.cells h.2.2.1 h.2.2.2
end
end Go.Proofs.YtfncfaamdedmjaaDoor
