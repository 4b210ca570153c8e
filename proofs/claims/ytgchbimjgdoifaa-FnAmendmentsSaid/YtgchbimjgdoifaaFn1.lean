/- The laws' comparison of amendments. Conditions: none. -/
import Derived.Test.YtgchbimjgdoifaaFn0
namespace Go.Proofs.Ytgchbimjgdoifaa
open Go.RowKit
set_option linter.unusedVariables false
set_option linter.unusedSimpArgs false
theorem vAmendment_same {B B' : Nat} {A A' : Option Addr} {c c' : Nat} {a : Amd} {w : World} (h : RdS B w A c a.ws) (h' : RdS B' w A' c' a.ws) :
    Calls Try.prog 35 #[.agg #[.int .i64 a.k, .int .i64 a.p, .int .i64 a.n, .slice A a.ws.length c], .agg #[.int .i64 a.k, .int .i64 a.p, .int .i64 a.n, .slice A' a.ws.length c']] w fun e w' => e = .returned (.bool true) ∧ Below w.heap.size w w' := by
  have hb := below2 w (.cells #[.int .i64 a.k, .int .i64 a.p, .int .i64 a.n, .slice A a.ws.length c] 40) (.cells #[.int .i64 a.k, .int .i64 a.p, .int .i64 a.n, .slice A' a.ws.length c'] 40)
  have HX : Hid (∀ (X Y : Nat) (C C' : Option Addr) (d d' : Nat) (W : World), RdS X W C d a.ws → RdS Y W C' d' a.ws → Calls Try.prog 26 #[.slice C a.ws.length d, .slice C' a.ws.length d'] W fun e w' => e = .returned (.bool true) ∧ Below W.heap.size W w') := Lib.hid fun X Y C C' d d' W h1 h2 => vTexts_same h1 h2
  have H1 := Lib.hid (RdS.below (show RdS w.heap.size w A c a.ws from ⟨h.1, CellsB.of_cells (h.cells), h.2.2⟩) hb (Nat.le_refl _))
  have H2 := Lib.hid (RdS.below (show RdS w.heap.size w A' c' a.ws from ⟨h'.1, CellsB.of_cells (h'.cells), h'.2.2⟩) hb (Nat.le_refl _))
  have HB := Lib.hid hb
  have k1 : (a.k == a.k) = true := by simp
  have k2 : (a.p == a.p) = true := by simp
  have k3 : (a.n == a.n) = true := by simp
  clear h h' hb
  go_enter Try.func35, Try.ntmps35
  go_wp2_with fail
  refine (HX.out _ _ _ _ _ _ _ H1.out H2.out).mono ?_
  rintro e w1 ⟨rfl, hb⟩
  have HB1 := Lib.hid (HB.out.trans (hb.mono HB.out.size))
  clear hb
  go_wp2
  go_ret
  exact ⟨rfl, HB1.out⟩
end Go.Proofs.Ytgchbimjgdoifaa
