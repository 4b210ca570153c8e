/- Lists of proposals in the words of objects; lists of proposals as arguments. Conditions: none. -/
import Derived.Test.YthohogimhijbdaaDk3
import Derived.Test.YthohogimhijbdaaOpn
import Derived.Test.YthohogimhijbdaaOpen
namespace Go.Proofs.Ythohogimhijbdaa
open Go.RowKit
set_option linter.unusedVariables false
section
variable {B B' : Nat} {w : World} {A A' : Option Addr} {c c' : Nat} {ps : List Prp}
theorem toP_abs (h : RdP B w A c ps) : Calls Try.prog 12 #[.slice A ps.length c] w (ToP w ps) := toProposalS_any A c ps w h.1.dl h.2
theorem szP_abs (left : Int) (h : RdP0 B w A c ps) (h0 : 0 ≤ left) (h1 : left ≤ 1048576) : Calls Try.prog 9 #[.slice A ps.length c, .int .i64 left] w fun e w' => e = .returned (.int .i64 (szP ps left)) ∧ Below w.heap.size w w' := szProposalS_any A c ps left w h.1.dl h.2 h0 h1
theorem eqP_abs (h : RdP B w A c ps) (h' : RdP B' w A' c' ps) : Calls Try.prog 15 #[.slice A ps.length c, .slice A' ps.length c'] w fun e w' => e = .returned (.bool true) ∧ Below w.heap.size w w' := eqProposalS_same A A' c c' ps w h.1.dl h'.1.dl h.2
end
theorem szPs_le : ∀ (ps : List Prp) (l : Int), ¬ szPs ps l < 0 → szPs ps l ≤ l := by
  intro ps
  induction ps with
  | nil => intro l h; simp [szPs]
  | cons p ps ih =>
    intro l h
    simp only [szPs] at h ⊢
    by_cases hs : szF p.a.ws l < 0
    · rw [if_pos hs] at h; omega
    · rw [if_neg hs] at h ⊢
      have h1 := szF_le _ _ hs
      have := ih _ h
      omega
theorem szP_of {ps : List Prp} {l : Int} (h : ¬ szP ps l < 0) (hl : l ≤ 1048576) (h0 : FitP0 ps) : FitP ps ∧ 0 ≤ szP ps l ∧ szP ps l ≤ 1048576 := by
  refine ⟨szP_fit h hl h0, by omega, ?_⟩
  unfold szP at h ⊢
  by_cases hs : l - (ps.length : Int) < 0
  · rw [if_pos hs] at h; omega
  · rw [if_neg hs] at h ⊢
    have := szPs_le _ _ h
    omega
end Go.Proofs.Ythohogimhijbdaa
namespace Go.Proofs.Ythohogimhijbdaa
open Go.ChangeShapes Go.WideShapes Go.ChangeAt Go.RowKit Go.Joins
set_option linter.unusedVariables false
section
variable {H : Type} {enc : TypeId × Value → H} {w : World} {base : Nat} {spare : Nat → Bool} {held : Bool}
theorem one_of {P : Program} {t : TypeId} {cs : List Value} {o k : Nat} (hk : P.cellsOf t = 1) {c : Value} (h : cs[o]? = some c) : (cs.drop o).take (P.cellsOf t) = [c] := by
  obtain ⟨hl, h1⟩ := List.getElem?_eq_some_iff.1 h
  rw [hk, List.drop_eq_getElem_cons hl, h1]
  rfl
/-- The cells of an amendment. -/
theorem amd_dec {n : Nat} {cs : List Value} {y : DataW H × List MemPlace} (h : DataW.trod enc Try.prog w base spare held n 50 cs = some y) :
    ∃ (kk p m : Int) (B : Option Addr) (d : Nat) (ss : List ByteArray), cs = [.int .i64 kk, .int .i64 p, .int .i64 m, .slice B ss.length d] ∧ ss.length ≤ d ∧ Cells w B (Go.Proofs.Ythohogimhijbdaa.strs ss) ∧ Fit0 ss := by
  obtain ⟨hl, m, hf⟩ := struct_fields Try.underlying50 (by kernel_rfl) (by kernel_rfl) h
  obtain ⟨c0, y0, g0, t0⟩ := hf 0 _ rfl
  obtain ⟨c1, y1, g1, t1⟩ := hf 1 _ rfl
  obtain ⟨c2, y2, g2, t2⟩ := hf 2 _ rfl
  obtain ⟨c3, y3, g3, t3⟩ := hf 3 _ rfl
  obtain ⟨a0, e0, _, _⟩ := DataW.trod_int Try.underlying3 t0
  obtain ⟨a1, e1, _, _⟩ := DataW.trod_int Try.underlying3 t1
  obtain ⟨a2, e2, _, _⟩ := DataW.trod_int Try.underlying3 t2
  obtain ⟨B, l, d, e3⟩ := slice_form Try.underlying22 t3
  simp only [List.cons.injEq, and_true] at e0 e1 e2 e3
  subst e0 e1 e2 e3
  obtain ⟨ss, rfl, h1, h2, h3, h4⟩ := strs_trod Try.underlying22 Try.underlying9 (by kernel_rfl) t3
  refine ⟨a0, a1, a2, B, d, ss, ?_, h1, h2, h3, h4⟩
  apply List.ext_getElem?
  intro i
  match i with
  | 0 => exact g0
  | 1 => exact g1
  | 2 => exact g2
  | 3 => exact g3
  | i + 4 =>
    rw [List.getElem?_eq_none (by rw [hl]; simp), List.getElem?_eq_none (by simp)]
/-- A proposal with its cells. -/
def PrHR (w : World) : Kd (PrH × Prp) := ⟨6, fun x => PrHK.enc x.1, fun x => PrHK.len x.1, fun x => Bears w x.1 x.2 ∧ Fit0 x.2.a.ws⟩
theorem proposal_dec {n : Nat} {cs : List Value} {y : DataW H × List MemPlace} (h : DataW.trod enc Try.prog w base spare held n 52 cs = some y) : ∃ x : PrH × Prp, (PrHR w).enc x = cs ∧ (PrHR w).fit x := by
  obtain ⟨xs, m, _, _, hl, hxl, hg⟩ := DataW.trod_struct Try.underlying52 h
  have hl6 : cs.length = 6 := hl.trans (by kernel_rfl)
  have k0 := hg 0 _ rfl
  have k1 := hg 1 _ rfl
  have k2 := hg 2 _ rfl
  rw [List.getElem?_eq_getElem (by rw [hxl]; decide)] at k0 k1 k2
  obtain ⟨a0, e0, _, _⟩ := DataW.trod_int Try.underlying3 k0
  obtain ⟨a5, e5, _, _⟩ := DataW.trod_int Try.underlying3 k2
  obtain ⟨k, p, nn, B, d, ss, e1, h1, h2, h3⟩ := amd_dec k1
  have c1 : Try.prog.cellsOf 3 = 1 := by kernel_rfl
  have c4 : Try.prog.cellsOf 50 = 4 := by kernel_rfl
  replace e0 : (cs.drop 0).take (Try.prog.cellsOf 3) = _ := e0
  replace e1 : (cs.drop 1).take (Try.prog.cellsOf 50) = _ := e1
  replace e5 : (cs.drop 5).take (Try.prog.cellsOf 3) = _ := e5
  rw [c1] at e0 e5
  rw [c4] at e1
  refine ⟨(⟨a0, k, p, nn, B, ss.length, d, a5⟩, ⟨a0, ⟨k, p, nn, ss⟩, a5⟩), ?_, ⟨⟨rfl, rfl, rfl, rfl, rfl, rfl⟩, h1, h2⟩, h3⟩
  match cs, hl6 with
  | [v0, v1, v2, v3, v4, v5], _ =>
    simp at e0 e1 e5
    obtain ⟨r1, r2, r3, r4⟩ := e1
    subst e0 e5 r1 r2 r3 r4
    rfl
theorem propsIn {r : Reach} {b0 : Nat} {v : Value} {d : DataW H} {p : List MemPlace} (hv : Value.okWide Try.prog w r b0 23 v) (h : DataW.Trod enc Try.prog w base spare held 23 v d p) :
    ∃ (A : Option Addr) (c : Nat) (ps : List Prp), v = .slice A ps.length c ∧ (DL w A c ps ∧ FitP0 ps) := by
  obtain ⟨A, c, xs, rfl, h1, h2, h3, h4⟩ := slice_in (PrHR w) Try.underlying23 (by kernel_rfl) (fun _ _ _ h => proposal_dec h) hv h
  refine ⟨A, c, xs.map (·.2), by rw [List.length_map], ⟨by rw [List.length_map]; exact h1, xs.map (·.1), by simp, ?_, fun i hi hi' => ?_⟩, by rw [List.length_map]; exact h3, fun q hq => ?_⟩
  · have hr : PrHK.row (xs.map (·.1)) = (PrHR w).row xs := by
      unfold Kd.row
      rw [List.flatMap_map]
      rfl
    rw [hr]
    exact h2
  · rw [List.getElem_map, List.getElem_map]
    exact (h4 _ (List.getElem_mem (by simpa using hi))).1
  · obtain ⟨x, hx, rfl⟩ := List.mem_map.1 hq
    exact (h4 x hx).2
end
end Go.Proofs.Ythohogimhijbdaa
