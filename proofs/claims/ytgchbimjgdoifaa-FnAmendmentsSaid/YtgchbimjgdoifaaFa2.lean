/- The draws of FnAmendments. Conditions: the ranges named. -/
import Derived.Test.YtgchbimjgdoifaaDw4
import Derived.Test.YtgchbimjgdoifaaFn1
namespace Go.Proofs.Ytgchbimjgdoifaa
open Go.RowKit
set_option linter.unusedVariables false
set_option linter.unusedSimpArgs false
theorem rd_own {lo : Nat} {w : World} {A : Option Addr} {c : Nat} {ss : List ByteArray} (h : w.ownsRow lo 9 1 (.slice A ss.length c) ss.length (strs ss)) (hf : Fit ss) : RdS w.heap.size w A c ss := ⟨own_cap h, CellsB.own h (Under.own h), hf⟩
set_option maxHeartbeats 1000000 in
theorem DrawApplyAmendment_any (A : Option Addr) (n c : Nat) (w : World) (h : BytesC w A n) (hn : n ≤ 65536) :
    Calls Try.prog 23 #[.slice A n c] w fun e w' => ∃ (O N : Option Addr) (d nd : Nat) (ss : List ByteArray) (a : Amd), e = .returned (.tuple #[.slice O ss.length d, .agg #[.int .i64 a.k, .int .i64 a.p, .int .i64 a.n, .slice N a.ws.length nd]]) ∧ RdS w'.heap.size w' O d ss ∧ RdS w'.heap.size w' N nd a.ws ∧ Below w.heap.size w w' := by
  have hb1 := below1 w (.cells #[.int .i64 0, .int .i64 0, .int .i64 0, .slice none 0 0] 40)
  have HR := Lib.hid (BoxF.new' w #[.int .i64 0, .int .i64 0, .int .i64 0, .slice none 0 0] 40 w.heap.size rfl)
  have HY := Lib.hid (h.grow hb1)
  have HB := Lib.hid hb1
  have hz : w.heap.size < (w.alloc (.cells #[.int .i64 0, .int .i64 0, .int .i64 0, .slice none 0 0] 40)).heap.size := by simp
  clear h hb1
  go_enter Try.func23, Try.ntmps23
  go_wp2_with fail
  generalize w.alloc (.cells #[.int .i64 0, .int .i64 0, .int .i64 0, .slice none 0 0] 40) = W0 at *
  refine (DrawFitsText_any A n c W0 HY.out hn).mono ?_
  rintro e w1 ⟨O, N, d, nd, ss, a, rfl, h1, h2, hb⟩
  have H1 := Lib.hid h1
  have H2 := Lib.hid h2
  have HR := Lib.hid (HR.out.below hb hz)
  have HB := Lib.hid (HB.out.trans (hb.mono HB.out.size))
  have rf := HR.out.2
  have r0 := HR.out.1 0 _ rfl
  have r1 := HR.out.1 1 _ rfl
  have r2 := HR.out.1 2 _ rfl
  have r3 := HR.out.1 3 _ rfl
  clear h1 h2 hb
  go_wp2
  have KS := HR.out.set4 (.int .i64 a.k) (.int .i64 a.p) (.int .i64 a.n) (.slice N a.ws.length nd)
  have k0 := KS.1 0 _ rfl
  have k1 := KS.1 1 _ rfl
  have k2 := KS.1 2 _ rfl
  have k3 := KS.1 3 _ rfl
  refine bodyPost_ret (v := .tuple #[.slice O ss.length d, .agg #[.int .i64 a.k, .int .i64 a.p, .int .i64 a.n, .slice N a.ws.length nd]]) (by simp [results, Try.results23, go_sem, k0, k1, k2, k3]) rfl ?_
  have hst : Below w.heap.size w1 ((((w1.setCell ⟨w.heap.size, 0, none⟩ (.int .i64 a.k)).setCell ⟨w.heap.size, 1, none⟩ (.int .i64 a.p)).setCell ⟨w.heap.size, 2, none⟩ (.int .i64 a.n)).setCell ⟨w.heap.size, 3, none⟩ (.slice N a.ws.length nd)) := by (refine Below.setCell (Below.setCell (Below.setCell (Below.setCell (Below.refl _ _) ?_ _) ?_ _) ?_ _) ?_ _) <;> exact Nat.le_refl _
  have o1 := (H1.out.only (only4 w1 w.heap.size (.int .i64 a.k) (.int .i64 a.p) (.int .i64 a.n) (.slice N a.ws.length nd)) (.inr hz)).1
  have o2 := (H2.out.only (only4 w1 w.heap.size (.int .i64 a.k) (.int .i64 a.p) (.int .i64 a.n) (.slice N a.ws.length nd)) (.inr hz)).1
  exact ⟨O, N, d, nd, ss, a, rfl, ⟨own_cap o1, CellsB.own o1 (Under.own o1), H1.out.2.2⟩, ⟨own_cap o2, CellsB.own o2 (Under.own o2), H2.out.2.2⟩, HB.out.trans hst⟩
end Go.Proofs.Ytgchbimjgdoifaa
