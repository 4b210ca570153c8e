/- Lists of amendments in memory: a header of four cells an element, and the words of each in a row of their own. Conditions: none. -/
import Derived.Test.YtnnphhhjkhoglaaGreatDoorAmd2
import Derived.Test.YtnnphhhjkhoglaaGreatDoorSetc
import Derived.Test.YtnnphhhjkhoglaaGreatDoorSetc2
namespace Go.Proofs.YtnnphhhjkhoglaaGreatDoor
open Go.RowKit
set_option linter.unusedVariables false
/-- The cells of an element. -/
structure AmH where
  k : Int
  p : Int
  n : Int
  B : Option Addr
  l : Nat
  d : Nat
def AmHK : Kd AmH := ⟨4, fun x => [.int .i64 x.k, .int .i64 x.p, .int .i64 x.n, .slice x.B x.l x.d], fun _ => rfl, fun _ => True⟩
theorem amh_at {w : World} {A : Option Addr} {xs : List AmH} (h : Cells w A (AmHK.row xs)) {i : Nat} (hi : i < xs.length) : ∃ ad, A = some ad ∧ w.cell? (ad.add (i * 4)) = some (.int .i64 xs[i].k) ∧ w.cell? ⟨(ad.add (i * 4)).block, (ad.add (i * 4)).off + 1, none⟩ = some (.int .i64 xs[i].p) ∧ w.cell? ⟨(ad.add (i * 4)).block, (ad.add (i * 4)).off + 2, none⟩ = some (.int .i64 xs[i].n) ∧ w.cell? ⟨(ad.add (i * 4)).block, (ad.add (i * 4)).off + 3, none⟩ = some (.slice xs[i].B xs[i].l xs[i].d) := by
  obtain ⟨ad, e, hc⟩ := Rd.at_ h hi (by decide)
  exact ⟨ad, e, hc 0 _ rfl, by rw [← add_split (h := by omega)]; exact hc 1 _ rfl, by rw [← add_split (h := by omega)]; exact hc 2 _ rfl, by rw [← add_split (h := by omega)]; exact hc 3 _ rfl⟩
/-- The cells x bear the amendment p. -/
def BearsQ (w : World) (x : AmH) (p : Amd) : Prop := (x.k = p.k ∧ x.p = p.p ∧ x.n = p.n ∧ x.l = p.ws.length) ∧ x.l ≤ x.d ∧ Cells w x.B (strs p.ws)
theorem BearsQ.below {w w' : World} {x : AmH} {p : Amd} (h : BearsQ w x p) (hb : Below w.heap.size w w') : BearsQ w' x p := ⟨h.1, h.2.1, h.2.2.below hb⟩
/-- A list of amendments that is read. -/
def DLQ (w : World) (A : Option Addr) (c : Nat) (ps : List Amd) : Prop := ps.length ≤ c ∧ ∃ hs : List AmH, hs.length = ps.length ∧ Cells w A (AmHK.row hs) ∧ ∀ i (hi : i < hs.length) (hi' : i < ps.length), BearsQ w hs[i] ps[i]
theorem DLQ.below {w w' : World} {A : Option Addr} {c : Nat} {ps : List Amd} (h : DLQ w A c ps) (hb : Below w.heap.size w w') : DLQ w' A c ps := by
  obtain ⟨h1, hs, h2, h3, h4⟩ := h
  exact ⟨h1, hs, h2, h3.below hb, fun i hi hi' => (h4 i hi hi').below hb⟩
/-- The words of all. -/
def cntV : List Amd → Nat
  | [] => 0
  | p :: ps => p.ws.length + cntV ps
theorem cntV_append (ps qs : List Amd) : cntV (ps ++ qs) = cntV ps + cntV qs := by
  induction ps with
  | nil => simp [cntV]
  | cons p ps ih => simp only [List.cons_append, cntV, ih]; omega
theorem cntV_take {ps : List Amd} {k : Nat} (h : k < ps.length) : cntV (ps.take (k + 1)) = cntV (ps.take k) + ps[k].ws.length := by
  rw [List.take_succ_eq_append_getElem h, cntV_append]; simp [cntV]
theorem cntV_le (ps : List Amd) (k : Nat) : cntV (ps.take k) ≤ cntV ps := by
  have := cntV_append (ps.take k) (ps.drop k)
  rw [List.take_append_drop] at this
  omega
def FitQ (ps : List Amd) : Prop := ps.length ≤ 1048576 ∧ (∀ p ∈ ps, Fit p.ws) ∧ cntV ps ≤ 1048576
def FitQ0 (ps : List Amd) : Prop := ps.length ≤ maxLen ∧ ∀ p ∈ ps, Fit0 p.ws
/-- Element i, read. -/
theorem DLQ.at_ {w : World} {A : Option Addr} {c : Nat} {ps : List Amd} (h : DLQ w A c ps) {i : Nat} (hi : i < ps.length) : ∃ (ad : Addr) (B : Option Addr) (d : Nat), A = some ad ∧ (w.cell? (ad.add (i * 4)) = some (.int .i64 ps[i].k) ∧ w.cell? ⟨(ad.add (i * 4)).block, (ad.add (i * 4)).off + 1, none⟩ = some (.int .i64 ps[i].p) ∧ w.cell? ⟨(ad.add (i * 4)).block, (ad.add (i * 4)).off + 2, none⟩ = some (.int .i64 ps[i].n) ∧ w.cell? ⟨(ad.add (i * 4)).block, (ad.add (i * 4)).off + 3, none⟩ = some (.slice B ps[i].ws.length d)) ∧ ps[i].ws.length ≤ d ∧ Cells w B (strs ps[i].ws) := by
  obtain ⟨_, hs, h2, h3, h4⟩ := h
  obtain ⟨ad, e, c0, c1, c2, c3⟩ := amh_at h3 (show i < hs.length by omega)
  obtain ⟨⟨b0, b1, b2, b3⟩, b6, b7⟩ := h4 i (by omega) hi
  rw [b0] at c0
  rw [b1] at c1
  rw [b2] at c2
  rw [b3] at c3 b6
  exact ⟨ad, _, _, e, ⟨c0, c1, c2, c3⟩, b6, b7⟩
end Go.Proofs.YtnnphhhjkhoglaaGreatDoor
