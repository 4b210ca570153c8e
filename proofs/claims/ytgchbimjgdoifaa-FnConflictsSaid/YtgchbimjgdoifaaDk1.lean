/- Lists of proposals in memory: a header of six cells an element, and the words of each in a row of their own. Conditions: none. -/
import Derived.Test.YtgchbimjgdoifaaAmd2
import Derived.Test.YtgchbimjgdoifaaSetc
import Derived.Test.YtgchbimjgdoifaaSetc2
namespace Go.Proofs.Ytgchbimjgdoifaa
open Go.RowKit
set_option linter.unusedVariables false
/-- The cells of an element. -/
structure PrH where
  i : Int
  k : Int
  p : Int
  n : Int
  B : Option Addr
  l : Nat
  d : Nat
  t : Int
def PrHK : Kd PrH := ⟨6, fun x => [.int .i64 x.i, .int .i64 x.k, .int .i64 x.p, .int .i64 x.n, .slice x.B x.l x.d, .int .i64 x.t], fun _ => rfl, fun _ => True⟩
theorem prh_at {w : World} {A : Option Addr} {xs : List PrH} (h : Cells w A (PrHK.row xs)) {i : Nat} (hi : i < xs.length) : ∃ ad, A = some ad ∧ w.cell? (ad.add (i * 6)) = some (.int .i64 xs[i].i) ∧ w.cell? ⟨(ad.add (i * 6)).block, (ad.add (i * 6)).off + 1, none⟩ = some (.int .i64 xs[i].k) ∧ w.cell? ⟨(ad.add (i * 6)).block, (ad.add (i * 6)).off + 2, none⟩ = some (.int .i64 xs[i].p) ∧ w.cell? ⟨(ad.add (i * 6)).block, (ad.add (i * 6)).off + 3, none⟩ = some (.int .i64 xs[i].n) ∧ w.cell? ⟨(ad.add (i * 6)).block, (ad.add (i * 6)).off + 4, none⟩ = some (.slice xs[i].B xs[i].l xs[i].d) ∧ w.cell? ⟨(ad.add (i * 6)).block, (ad.add (i * 6)).off + 5, none⟩ = some (.int .i64 xs[i].t) := by
  obtain ⟨ad, e, hc⟩ := Rd.at_ h hi (by decide)
  exact ⟨ad, e, hc 0 _ rfl, by rw [← add_split (h := by omega)]; exact hc 1 _ rfl, by rw [← add_split (h := by omega)]; exact hc 2 _ rfl, by rw [← add_split (h := by omega)]; exact hc 3 _ rfl, by rw [← add_split (h := by omega)]; exact hc 4 _ rfl, by rw [← add_split (h := by omega)]; exact hc 5 _ rfl⟩
/-- A proposal, as data. -/
structure Prp where
  i : Int
  a : Amd
  t : Int
/-- The cells x bear the proposal p. -/
def Bears (w : World) (x : PrH) (p : Prp) : Prop := (x.i = p.i ∧ x.k = p.a.k ∧ x.p = p.a.p ∧ x.n = p.a.n ∧ x.l = p.a.ws.length ∧ x.t = p.t) ∧ x.l ≤ x.d ∧ Cells w x.B (strs p.a.ws)
theorem Bears.below {w w' : World} {x : PrH} {p : Prp} (h : Bears w x p) (hb : Below w.heap.size w w') : Bears w' x p := ⟨h.1, h.2.1, h.2.2.below hb⟩
/-- A list of proposals that is read. -/
def DL (w : World) (A : Option Addr) (c : Nat) (ps : List Prp) : Prop := ps.length ≤ c ∧ ∃ hs : List PrH, hs.length = ps.length ∧ Cells w A (PrHK.row hs) ∧ ∀ i (hi : i < hs.length) (hi' : i < ps.length), Bears w hs[i] ps[i]
theorem DL.below {w w' : World} {A : Option Addr} {c : Nat} {ps : List Prp} (h : DL w A c ps) (hb : Below w.heap.size w w') : DL w' A c ps := by
  obtain ⟨h1, hs, h2, h3, h4⟩ := h
  exact ⟨h1, hs, h2, h3.below hb, fun i hi hi' => (h4 i hi hi').below hb⟩
/-- The words of all. -/
def cntW : List Prp → Nat
  | [] => 0
  | p :: ps => p.a.ws.length + cntW ps
theorem cntW_append (ps qs : List Prp) : cntW (ps ++ qs) = cntW ps + cntW qs := by
  induction ps with
  | nil => simp [cntW]
  | cons p ps ih => simp only [List.cons_append, cntW, ih]; omega
theorem cntW_take {ps : List Prp} {k : Nat} (h : k < ps.length) : cntW (ps.take (k + 1)) = cntW (ps.take k) + ps[k].a.ws.length := by
  rw [List.take_succ_eq_append_getElem h, cntW_append]; simp [cntW]
theorem cntW_le (ps : List Prp) (k : Nat) : cntW (ps.take k) ≤ cntW ps := by
  have := cntW_append (ps.take k) (ps.drop k)
  rw [List.take_append_drop] at this
  omega
def FitP (ps : List Prp) : Prop := ps.length ≤ 1048576 ∧ (∀ p ∈ ps, Fit p.a.ws) ∧ cntW ps ≤ 1048576
def FitP0 (ps : List Prp) : Prop := ps.length ≤ maxLen ∧ ∀ p ∈ ps, Fit0 p.a.ws
/-- Element i, read. -/
theorem DL.at_ {w : World} {A : Option Addr} {c : Nat} {ps : List Prp} (h : DL w A c ps) {i : Nat} (hi : i < ps.length) : ∃ (ad : Addr) (B : Option Addr) (d : Nat), A = some ad ∧ (w.cell? (ad.add (i * 6)) = some (.int .i64 ps[i].i) ∧ w.cell? ⟨(ad.add (i * 6)).block, (ad.add (i * 6)).off + 1, none⟩ = some (.int .i64 ps[i].a.k) ∧ w.cell? ⟨(ad.add (i * 6)).block, (ad.add (i * 6)).off + 2, none⟩ = some (.int .i64 ps[i].a.p) ∧ w.cell? ⟨(ad.add (i * 6)).block, (ad.add (i * 6)).off + 3, none⟩ = some (.int .i64 ps[i].a.n) ∧ w.cell? ⟨(ad.add (i * 6)).block, (ad.add (i * 6)).off + 4, none⟩ = some (.slice B ps[i].a.ws.length d) ∧ w.cell? ⟨(ad.add (i * 6)).block, (ad.add (i * 6)).off + 5, none⟩ = some (.int .i64 ps[i].t)) ∧ ps[i].a.ws.length ≤ d ∧ Cells w B (strs ps[i].a.ws) := by
  obtain ⟨_, hs, h2, h3, h4⟩ := h
  obtain ⟨ad, e, c0, c1, c2, c3, c4, c5⟩ := prh_at h3 (show i < hs.length by omega)
  obtain ⟨⟨b0, b1, b2, b3, b4, b5⟩, b6, b7⟩ := h4 i (by omega) hi
  rw [b0] at c0
  rw [b1] at c1
  rw [b2] at c2
  rw [b3] at c3
  rw [b4] at c4 b6
  rw [b5] at c5
  exact ⟨ad, _, _, e, ⟨c0, c1, c2, c3, c4, c5⟩, b6, b7⟩
end Go.Proofs.Ytgchbimjgdoifaa
