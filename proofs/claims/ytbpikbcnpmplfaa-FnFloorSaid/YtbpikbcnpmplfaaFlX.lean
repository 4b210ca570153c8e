/- The exported functions on floors that read alone, in the words of the laws' walks. Conditions: the ranges named. -/
import Derived.Test.YtbpikbcnpmplfaaFlC
import Derived.Test.YtbpikbcnpmplfaaFlD
namespace Go.Proofs.Ytbpikbcnpmplfaa
open Go.RowKit
set_option linter.unusedVariables false
section
variable {B B' : Nat} {w : World} {A D : Option Addr} {c d : Nat} {f : Flr}
theorem IsValidFloor_abs (h : Rd IntK B w A c f.wt) (h' : Rd ShareK B' w D d f.sh) : Calls Try.prog 19 #[.agg #[.int .i64 f.t, .int .i64 f.s, .int .i64 f.sp, .slice A f.wt.length c, .slice D f.sh.length d]] w fun e w' => e = .returned (.bool (vldF f)) ∧ Below w.heap.size w w' :=
  IsValidFloor_any A D c d f w h.cells h.2.2.1 h.1 h'.cells h'.2.2.1
theorem l8Good_abs (h : Rd IntK B w A c f.wt) (h' : Rd ShareK B' w D d f.sh) : Calls Try.prog 44 #[.agg #[.int .i64 f.t, .int .i64 f.s, .int .i64 f.sp, .slice A f.wt.length c, .slice D f.sh.length d]] w fun e w' => e = .returned (.bool (vldF f)) ∧ Below w.heap.size w w' :=
  l8Good_any A D c d f w h.cells h.2.2.1 h.1 h'.cells h'.2.2.1
theorem sIsValidFloor_abs (h : Rd IntK B w A c f.wt) (h' : Rd ShareK B' w D d f.sh) : Calls Try.prog 33 #[.agg #[.int .i64 f.t, .int .i64 f.s, .int .i64 f.sp, .slice A f.wt.length c, .slice D f.sh.length d]] w fun e w' => e = .returned (.bool (vldF f)) ∧ Below w.heap.size w w' := by
  have H1 := Lib.hid (h.cells.alloc_ (.cells #[.int .i64 f.t, .int .i64 f.s, .int .i64 f.sp, .slice A f.wt.length c, .slice D f.sh.length d] 29))
  have H2 := Lib.hid (h'.cells.alloc_ (.cells #[.int .i64 f.t, .int .i64 f.s, .int .i64 f.sp, .slice A f.wt.length c, .slice D f.sh.length d] 29))
  have k1 := h.2.2.1
  have k2 := h.1
  have k3 := h'.2.2.1
  clear h h'
  go_enter Try.func33, Try.ntmps33
  go_wp2_with (go_at_call 44; refine (l8Good_any A D c d f _ H1.out k1 k2 H2.out k3).mono ?_; rintro e w1 ⟨rfl, hb⟩; have HB := Lib.hid (after (w := w) (by go_grown) hb); clear hb)
  go_ret
  exact ⟨rfl, HB.out⟩
end
end Go.Proofs.Ytbpikbcnpmplfaa
