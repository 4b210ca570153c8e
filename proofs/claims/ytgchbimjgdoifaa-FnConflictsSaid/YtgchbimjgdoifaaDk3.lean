/- The laws' copies, comparisons and sizes of lists of proposals. Conditions: the ranges named. -/
import Derived.Test.YtgchbimjgdoifaaDk2
namespace Go.Proofs.Ytgchbimjgdoifaa
open Go.RowKit
set_option linter.unusedVariables false
set_option linter.unusedSimpArgs false
/-- The cells of the first headers, the rest z. -/
def partP (z : List Value) (hs : List PrH) (m : Nat) : List Value := PrHK.row hs ++ (List.replicate m z).flatten
theorem partP_zero (z : List Value) (m : Nat) : partP z [] m = (List.replicate m z).flatten := by simp [partP, Kd.row]
theorem partP_all (z : List Value) (hs : List PrH) : partP z hs 0 = PrHK.row hs := by simp [partP]
theorem partP_set {z : List Value} (hz : z.length = 6) (hs : List PrH) (x : PrH) (m : Nat) : setL (partP z hs (m + 1)) (hs.length * 6) (PrHK.enc x) = partP z (hs ++ [x]) m := by
  have hl : ((hs ++ [x]) ++ List.replicate m x).length - hs.length = m + 1 := by simp
  have hl2 : ((hs ++ [x]) ++ List.replicate m x).length - (hs.length + 1) = m := by simp; omega
  have ht : ((hs ++ [x]) ++ List.replicate m x).take hs.length = hs := by simp
  have ht2 : ((hs ++ [x]) ++ List.replicate m x).take (hs.length + 1) = hs ++ [x] := by
    rw [List.take_append_of_le_length (by simp), List.take_of_length_le (by simp)]
  have hlt : hs.length < ((hs ++ [x]) ++ List.replicate m x).length := by simp
  have h := PrHK.part_set (z := z) (xs := (hs ++ [x]) ++ List.replicate m x) (k := hs.length) hz hlt
  unfold Kd.part at h
  rw [hl, hl2, ht, ht2] at h
  have hg : ((hs ++ [x]) ++ List.replicate m x)[hs.length] = x := by simp
  rw [hg] at h
  exact h
/-- The cells x bear p, and the words lie in a row of the call's own behind g. -/
def Heads (x : PrH) (p : Prp) : Prop := x.i = p.i ∧ x.k = p.a.k ∧ x.p = p.a.p ∧ x.n = p.a.n ∧ x.l = p.a.ws.length ∧ x.t = p.t
def AllF (g : Nat) (w : World) (hs : List PrH) (ps : List Prp) : Prop := ∀ i (hi : i < hs.length) (hi' : i < ps.length), Heads hs[i] ps[i] ∧ OwS (g + 1) w.heap.size w hs[i].B hs[i].d ps[i].a.ws
theorem AllF.snoc {g : Nat} {w : World} {hs : List PrH} {ps : List Prp} {x : PrH} (h : AllF g w hs ps) (hl : hs.length < ps.length) (hx : Heads x ps[hs.length] ∧ OwS (g + 1) w.heap.size w x.B x.d ps[hs.length].a.ws) : AllF g w (hs ++ [x]) ps := fun i hi hi' => by
  rcases Nat.lt_or_ge i hs.length with h1 | h1
  · rw [List.getElem_append_left h1]; exact h i h1 hi'
  · have : i = hs.length := by simp at hi; omega
    subst this
    simpa using hx
theorem AllF.below {g : Nat} {w w' : World} {hs : List PrH} {ps : List Prp} (h : AllF g w hs ps) (hb : Below w.heap.size w w') : AllF g w' hs ps := fun i hi hi' => ⟨(h i hi hi').1, (OwS.below (h i hi hi').2 hb (Nat.le_refl _)).1, (h i hi hi').2.2.1.mono hb.size, (h i hi hi').2.2.2⟩
theorem AllF.set {g o : Nat} {w : World} {hs : List PrH} {ps : List Prp} (h : AllF g w hs ps) (v : Value) : AllF g (w.setCell ⟨g, o, none⟩ v) hs ps := fun i hi hi' =>
  ⟨(h i hi hi').1, (OwS.only (h i hi hi').2 ((Only.refl' (lo := g) (hi := g + 1)).set_ (Nat.le_refl _) (Nat.lt_succ_self _) v) (.inr (Nat.le_refl _))).1, by simpa using (h i hi hi').2.2.1, (h i hi hi').2.2.2⟩
/-- The rows of the words lie one behind the other, behind that of the headers. -/
def Ord (A : Option Addr) (hs : List PrH) : Prop := (∀ i j (hij : i < j) (hj : j < hs.length) a b, hs[i].B = some a → hs[j].B = some b → a.block < b.block) ∧ ∀ i (hi : i < hs.length) a b, A = some a → hs[i].B = some b → a.block < b.block
theorem Ord.snoc {A : Option Addr} {hs : List PrH} {x : PrH} {m : Nat} (h : Ord A hs) (h1 : ∀ i (hi : i < hs.length), Under m hs[i].B) (h2 : ∀ a, A = some a → a.block < m) (hx : ∀ b, x.B = some b → m ≤ b.block) : Ord A (hs ++ [x]) := by
  refine ⟨fun i j hij hj a b ha hb => ?_, fun i hi a b ha hb => ?_⟩
  · have hil : i < hs.length := by simp at hj; omega
    rw [List.getElem_append_left hil] at ha
    rcases Nat.lt_or_ge j hs.length with h3 | h3
    · rw [List.getElem_append_left h3] at hb; exact h.1 i j hij h3 a b ha hb
    · have : j = hs.length := by simp at hj; omega
      subst this
      have hb' : x.B = some b := by simpa using hb
      exact Nat.lt_of_lt_of_le (h1 i hil a ha) (hx b hb')
  · rcases Nat.lt_or_ge i hs.length with h3 | h3
    · rw [List.getElem_append_left h3] at hb; exact h.2 i h3 a b ha hb
    · have : i = hs.length := by simp at hi; omega
      subst this
      have hb' : x.B = some b := by simpa using hb
      exact Nat.lt_of_lt_of_le (h2 a ha) (hx b hb')
theorem Ord.set {A : Option Addr} {hs : List PrH} {x : PrH} {k : Nat} (h : Ord A hs) (hk : k < hs.length) (hx : x.B = hs[k].B) : Ord A (hs.set k x) := by
  have e : ∀ i (hi : i < hs.length), ((hs.set k x)[i]'(by simpa using hi)).B = hs[i].B := fun i hi => by
    rw [List.getElem_set]
    split
    · rename_i hki; subst hki; exact hx
    · rfl
  refine ⟨fun i j hij hj a b ha hb => ?_, fun i hi a b ha hb => ?_⟩
  · have hj' : j < hs.length := by simpa using hj
    rw [e i (by omega)] at ha
    rw [e j hj'] at hb
    exact h.1 i j hij hj' a b ha hb
  · have hi' : i < hs.length := by simpa using hi
    rw [e i hi'] at hb
    exact h.2 i hi' a b ha hb
theorem infoProposal : (Try.prog.info? 65).map (fun i => (i.zero, i.size, i.bytes)) = some (some (.agg #[.int .i64 0, .int .i64 0, .int .i64 0, .int .i64 0, .slice none 0 0, .int .i64 0]), 6, 64) := by kernel_rfl
/-- A list of proposals that is read, its memory below B. -/
def DLB (B : Nat) (w : World) (A : Option Addr) (c : Nat) (ps : List Prp) : Prop := ps.length ≤ c ∧ ∃ hs : List PrH, hs.length = ps.length ∧ CellsB B w A (PrHK.row hs) ∧ ∀ i (h1 : i < hs.length) (h2 : i < ps.length), Bears w hs[i] ps[i] ∧ CellsB B w hs[i].B (strs ps[i].a.ws)
theorem DLB.dl {B : Nat} {w : World} {A : Option Addr} {c : Nat} {ps : List Prp} (h : DLB B w A c ps) : DL w A c ps := by
  obtain ⟨h1, hs, h2, h3, h4⟩ := h
  exact ⟨h1, hs, h2, h3.cells, fun i hi hi' => (h4 i hi hi').1⟩
theorem DLB.of_dl {w : World} {A : Option Addr} {c : Nat} {ps : List Prp} (h : DL w A c ps) : DLB w.heap.size w A c ps := by
  obtain ⟨h1, hs, h2, h3, h4⟩ := h
  exact ⟨h1, hs, h2, CellsB.of_cells h3, fun i hi hi' => ⟨h4 i hi hi', CellsB.of_cells (h4 i hi hi').2.2⟩⟩
theorem DLB.below {B B' : Nat} {w w' : World} {A : Option Addr} {c : Nat} {ps : List Prp} (h : DLB B w A c ps) (hb : Below B' w w') (hB : B ≤ B') : DLB B w' A c ps := by
  obtain ⟨h1, hs, h2, h3, h4⟩ := h
  exact ⟨h1, hs, h2, h3.below hb hB, fun i hi hi' => ⟨⟨(h4 i hi hi').1.1, (h4 i hi hi').1.2.1, ((h4 i hi hi').2.below hb hB).cells⟩, (h4 i hi hi').2.below hb hB⟩⟩
/-- A list that is read: memory below B; one of which the sizes are not known yet; a copy, with its memory in lo .. hi - 1. -/
def RdP (B : Nat) (w : World) (A : Option Addr) (c : Nat) (ps : List Prp) : Prop := DLB B w A c ps ∧ FitP ps
def RdP0 (B : Nat) (w : World) (A : Option Addr) (c : Nat) (ps : List Prp) : Prop := DLB B w A c ps ∧ FitP0 ps
def OwP (lo hi : Nat) (w : World) (A : Option Addr) (c : Nat) (ps : List Prp) : Prop := ∃ hs : List PrH, hs.length = ps.length ∧ w.ownsRow lo 65 6 (.slice A ps.length c) ps.length (PrHK.row hs) ∧ Under hi A ∧ FitP ps ∧ (∀ i (h1 : i < hs.length) (h2 : i < ps.length), Heads hs[i] ps[i] ∧ OwS lo hi w hs[i].B hs[i].d ps[i].a.ws) ∧ Ord A hs
section
variable {B B' lo hi lo' hi' : Nat} {w w' : World} {A : Option Addr} {c : Nat} {ps : List Prp}
theorem RdP.below (h : RdP B w A c ps) (hb : Below B' w w') (hB : B ≤ B') : RdP B w' A c ps := ⟨h.1.below hb hB, h.2⟩
theorem RdP0.below (h : RdP0 B w A c ps) (hb : Below B' w w') (hB : B ≤ B') : RdP0 B w' A c ps := ⟨h.1.below hb hB, h.2⟩
theorem RdP0.up (h : RdP0 B w A c ps) (hf : FitP ps) : RdP B w A c ps := ⟨h.1, hf⟩
theorem OwP.below (h : OwP lo hi w A c ps) (hb : Below B w w') (hB : hi ≤ B) : OwP lo hi w' A c ps := by
  obtain ⟨hs, h1, h2, h3, h4, h5, h6⟩ := h
  exact ⟨hs, h1, own_under h2 h3 hb hB, h3, h4, fun i hi hi' => ⟨(h5 i hi hi').1, (h5 i hi hi').2.below hb hB⟩, h6⟩
theorem OwP.only (h : OwP lo hi w A c ps) (ho : Only lo' hi' w w') (hd : hi ≤ lo' ∨ hi' ≤ lo) : OwP lo hi w' A c ps := by
  obtain ⟨hs, h1, h2, h3, h4, h5, h6⟩ := h
  exact ⟨hs, h1, own_only h2 h3 ho hd, h3, h4, fun i hi hi' => ⟨(h5 i hi hi').1, (h5 i hi hi').2.only ho hd⟩, h6⟩
theorem OwP.rd (h : OwP lo hi w A c ps) : RdP hi w A c ps := by
  obtain ⟨hs, h1, h2, h3, h4, h5, h6⟩ := h
  exact ⟨⟨own_cap h2, hs, h1, CellsB.own h2 h3, fun i hi hi' => ⟨⟨(h5 i hi hi').1, by rw [(h5 i hi hi').1.2.2.2.2.1]; exact own_cap (h5 i hi hi').2.1, Cells.of_own (h5 i hi hi').2.1⟩, CellsB.own (h5 i hi hi').2.1 (h5 i hi hi').2.2.1⟩⟩, h4⟩
theorem OwP.low (h : OwP lo hi w A c ps) (hl : lo' ≤ lo) : OwP lo' hi w A c ps := by
  obtain ⟨hs, h1, h2, h3, h4, h5, h6⟩ := h
  exact ⟨hs, h1, own_mono h2 hl, h3, h4, fun i hi hi' => ⟨(h5 i hi hi').1, own_mono (h5 i hi hi').2.1 hl, (h5 i hi hi').2.2⟩, h6⟩
end
/-- A copy. -/
def ToP (w : World) (ps : List Prp) (e : Ending) (w' : World) : Prop := ∃ (A : Option Addr) (c : Nat), e = .returned (.slice A ps.length c) ∧ OwP w.heap.size w'.heap.size w' A c ps ∧ Below w.heap.size w w'
end Go.Proofs.Ytgchbimjgdoifaa
