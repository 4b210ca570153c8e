/- Lists of amendments in the words of objects; lists of amendments as arguments. Conditions: none. -/
import Derived.Test.YtgchbimjgdoifaaDa3
import Derived.Test.YtgchbimjgdoifaaOpn
import Derived.Test.YtgchbimjgdoifaaOpen
namespace Go.Proofs.Ytgchbimjgdoifaa
open Go.RowKit
set_option linter.unusedVariables false
section
variable {B B' : Nat} {w : World} {A A' : Option Addr} {c c' : Nat} {ps : List Amd}
theorem toQ_abs (h : RdQ B w A c ps) : Calls Try.prog 12 #[.slice A ps.length c] w (ToQ w ps) := toAmendmentS_any A c ps w h.1.dl h.2
theorem szQ_abs (left : Int) (h : RdQ0 B w A c ps) (h0 : 0 ≤ left) (h1 : left ≤ 1048576) : Calls Try.prog 9 #[.slice A ps.length c, .int .i64 left] w fun e w' => e = .returned (.int .i64 (szQ ps left)) ∧ Below w.heap.size w w' := szAmendmentS_any A c ps left w h.1.dl h.2 h0 h1
theorem eqQ_abs (h : RdQ B w A c ps) (h' : RdQ B' w A' c' ps) : Calls Try.prog 15 #[.slice A ps.length c, .slice A' ps.length c'] w fun e w' => e = .returned (.bool true) ∧ Below w.heap.size w w' := eqAmendmentS_same A A' c c' ps w h.1.dl h'.1.dl h.2
end
theorem szQs_le : ∀ (ps : List Amd) (l : Int), ¬ szQs ps l < 0 → szQs ps l ≤ l := by
  intro ps
  induction ps with
  | nil => intro l h; simp [szQs]
  | cons p ps ih =>
    intro l h
    simp only [szQs] at h ⊢
    by_cases hs : szF p.ws l < 0
    · rw [if_pos hs] at h; omega
    · rw [if_neg hs] at h ⊢
      have h1 := szF_leQ _ _ hs
      have := ih _ h
      omega
theorem szQ_of {ps : List Amd} {l : Int} (h : ¬ szQ ps l < 0) (hl : l ≤ 1048576) (h0 : FitQ0 ps) : FitQ ps ∧ 0 ≤ szQ ps l ∧ szQ ps l ≤ 1048576 := by
  refine ⟨szQ_fit h hl h0, by omega, ?_⟩
  unfold szQ at h ⊢
  by_cases hs : l - (ps.length : Int) < 0
  · rw [if_pos hs] at h; omega
  · rw [if_neg hs] at h ⊢
    have := szQs_le _ _ h
    omega
end Go.Proofs.Ytgchbimjgdoifaa
namespace Go.Proofs.Ytgchbimjgdoifaa
open Go.ChangeShapes Go.WideShapes Go.ChangeAt Go.RowKit Go.Joins
set_option linter.unusedVariables false
section
variable {H : Type} {enc : TypeId × Value → H} {w : World} {base : Nat} {spare : Nat → Bool} {held : Bool}
/-- The cells of an amendment. -/
theorem amd_dec {n : Nat} {cs : List Value} {y : DataW H × List MemPlace} (h : DataW.trod enc Try.prog w base spare held n 79 cs = some y) :
    ∃ (kk p m : Int) (B : Option Addr) (d : Nat) (ss : List ByteArray), cs = [.int .i64 kk, .int .i64 p, .int .i64 m, .slice B ss.length d] ∧ ss.length ≤ d ∧ Cells w B (Go.Proofs.Ytgchbimjgdoifaa.strs ss) ∧ Fit0 ss := by
  obtain ⟨hl, m, hf⟩ := struct_fields Try.underlying79 (by kernel_rfl) (by kernel_rfl) h
  obtain ⟨c0, y0, g0, t0⟩ := hf 0 _ rfl
  obtain ⟨c1, y1, g1, t1⟩ := hf 1 _ rfl
  obtain ⟨c2, y2, g2, t2⟩ := hf 2 _ rfl
  obtain ⟨c3, y3, g3, t3⟩ := hf 3 _ rfl
  obtain ⟨a0, e0, _, _⟩ := DataW.trod_int Try.underlying3 t0
  obtain ⟨a1, e1, _, _⟩ := DataW.trod_int Try.underlying3 t1
  obtain ⟨a2, e2, _, _⟩ := DataW.trod_int Try.underlying3 t2
  obtain ⟨B, l, d, e3⟩ := slice_form Try.underlying22 t3
  simp only [List.cons.injEq, and_true] at e0 e1 e2 e3
  subst e0 e1 e2 e3
  obtain ⟨ss, rfl, h1, h2, h3, h4⟩ := strs_trod Try.underlying22 Try.underlying9 (by kernel_rfl) t3
  refine ⟨a0, a1, a2, B, d, ss, ?_, h1, h2, h3, h4⟩
  apply List.ext_getElem?
  intro i
  match i with
  | 0 => exact g0
  | 1 => exact g1
  | 2 => exact g2
  | 3 => exact g3
  | i + 4 =>
    rw [List.getElem?_eq_none (by rw [hl]; simp), List.getElem?_eq_none (by simp)]
/-- An amendment with its cells. -/
def AmHR (w : World) : Kd (AmH × Amd) := ⟨4, fun x => AmHK.enc x.1, fun x => AmHK.len x.1, fun x => BearsQ w x.1 x.2 ∧ Fit0 x.2.ws⟩
theorem amdq_dec {n : Nat} {cs : List Value} {y : DataW H × List MemPlace} (h : DataW.trod enc Try.prog w base spare held n 79 cs = some y) : ∃ x : AmH × Amd, (AmHR w).enc x = cs ∧ (AmHR w).fit x := by
  obtain ⟨k, p, nn, B, d, ss, rfl, h1, h2, h3⟩ := amd_dec h
  exact ⟨(⟨k, p, nn, B, ss.length, d⟩, ⟨k, p, nn, ss⟩), rfl, ⟨⟨rfl, rfl, rfl, rfl⟩, h1, h2⟩, h3⟩
set_option maxRecDepth 100000 in
theorem amdsIn {r : Reach} {b0 : Nat} {v : Value} {d : DataW H} {p : List MemPlace} (hv : Value.okWide Try.prog w r b0 23 v) (h : DataW.Trod enc Try.prog w base spare held 23 v d p) :
    ∃ (A : Option Addr) (c : Nat) (ps : List Amd), v = .slice A ps.length c ∧ (DLQ w A c ps ∧ FitQ0 ps) := by
  obtain ⟨A, c, xs, rfl, h1, h2, h3, h4⟩ := slice_in (AmHR w) Try.underlying23 (by kernel_rfl) (fun _ _ _ h => amdq_dec h) hv h
  refine ⟨A, c, xs.map (·.2), by rw [List.length_map], ⟨by rw [List.length_map]; exact h1, xs.map (·.1), by simp, ?_, fun i hi hi' => ?_⟩, by rw [List.length_map]; exact h3, fun q hq => ?_⟩
  · have hr : AmHK.row (xs.map (·.1)) = (AmHR w).row xs := by
      unfold Kd.row
      rw [List.flatMap_map]
      rfl
    rw [hr]
    exact h2
  · rw [List.getElem_map, List.getElem_map]
    exact (h4 _ (List.getElem_mem (by simpa using hi))).1
  · obtain ⟨x, hx, rfl⟩ := List.mem_map.1 hq
    exact (h4 x hx).2
end
end Go.Proofs.Ytgchbimjgdoifaa
