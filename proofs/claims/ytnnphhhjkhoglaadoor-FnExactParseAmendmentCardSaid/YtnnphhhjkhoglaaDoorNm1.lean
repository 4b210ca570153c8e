/- Numerals up to 20 (over Tt1). Conditions: the ranges named. -/
import Derived.Test.YtnnphhhjkhoglaaDoorTt1
import Derived.Test.YtnnphhhjkhoglaaDoorPt0
import Derived.BigQuiet
import Derived.Deep.DrawnRows
namespace Go.Proofs.YtnnphhhjkhoglaaDoor
open Go.RowKit
set_option linter.unusedVariables false
set_option linter.unusedSimpArgs false
theorem dec_sz2 {i : Nat} (h : i ≤ 20) : (dec i).size ≤ 2 := by
  have h1 := dec_len (k := 1) (n := i) (by omega)
  have h2 : (dec i).size = (Go.Lib.decDigits i).length := by unfold dec ByteArray.size; simp
  omega
theorem l1Num_any (i : Nat) (h : i ≤ 20) (w : World) : Calls Tryd.prog 33 #[.int .i64 i] w fun e w' => e = .returned (.string (dec i)) ∧ ∃ m, w' = w.drewN m := l1Num_all i w (by omega)
theorem itoa_sm (i : Nat) (h : i < 100) (w : World) : Calls Tryd.prog 28 #[.int .i64 i] w fun e w' => e = .returned (.string (dec i)) ∧ w' = w := Tryd.strconv_Itoa_small i h w
end Go.Proofs.YtnnphhhjkhoglaaDoor
