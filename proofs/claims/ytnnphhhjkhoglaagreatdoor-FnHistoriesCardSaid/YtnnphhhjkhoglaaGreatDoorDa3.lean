/- The laws' copies, comparisons and sizes of lists of amendments. Conditions: the ranges named. -/
import Derived.Test.YtnnphhhjkhoglaaGreatDoorDa1
import Derived.Test.YtnnphhhjkhoglaaGreatDoorObj2
import Derived.Deep.Cut
import Derived.Deep.DeepCutAuto
namespace Go.Proofs.YtnnphhhjkhoglaaGreatDoor
open Go.RowKit
set_option linter.unusedVariables false
set_option linter.unusedSimpArgs false
/-- The cells of the first headers, the rest z. -/
def partQ (z : List Value) (hs : List AmH) (m : Nat) : List Value := AmHK.row hs ++ (List.replicate m z).flatten
theorem partQ_zero (z : List Value) (m : Nat) : partQ z [] m = (List.replicate m z).flatten := by simp [partQ, Kd.row]
theorem partQ_all (z : List Value) (hs : List AmH) : partQ z hs 0 = AmHK.row hs := by simp [partQ]
theorem partQ_set {z : List Value} (hz : z.length = 4) (hs : List AmH) (x : AmH) (m : Nat) : setL (partQ z hs (m + 1)) (hs.length * 4) (AmHK.enc x) = partQ z (hs ++ [x]) m := by
  have hl : ((hs ++ [x]) ++ List.replicate m x).length - hs.length = m + 1 := by simp
  have hl2 : ((hs ++ [x]) ++ List.replicate m x).length - (hs.length + 1) = m := by simp; omega
  have ht : ((hs ++ [x]) ++ List.replicate m x).take hs.length = hs := by simp
  have ht2 : ((hs ++ [x]) ++ List.replicate m x).take (hs.length + 1) = hs ++ [x] := by
    rw [List.take_append_of_le_length (by simp), List.take_of_length_le (by simp)]
  have hlt : hs.length < ((hs ++ [x]) ++ List.replicate m x).length := by simp
  have h := AmHK.part_set (z := z) (xs := (hs ++ [x]) ++ List.replicate m x) (k := hs.length) hz hlt
  unfold Kd.part at h
  rw [hl, hl2, ht, ht2] at h
  have hg : ((hs ++ [x]) ++ List.replicate m x)[hs.length] = x := by simp
  rw [hg] at h
  exact h
/-- The cells x bear p, and the words lie in a row of the call's own behind g. -/
def HeadsQ (x : AmH) (p : Amd) : Prop := x.k = p.k ∧ x.p = p.p ∧ x.n = p.n ∧ x.l = p.ws.length
def AllQ (g : Nat) (w : World) (hs : List AmH) (ps : List Amd) : Prop := ∀ i (hi : i < hs.length) (hi' : i < ps.length), HeadsQ hs[i] ps[i] ∧ OwS (g + 1) w.heap.size w hs[i].B hs[i].d ps[i].ws
theorem AllQ.snoc {g : Nat} {w : World} {hs : List AmH} {ps : List Amd} {x : AmH} (h : AllQ g w hs ps) (hl : hs.length < ps.length) (hx : HeadsQ x ps[hs.length] ∧ OwS (g + 1) w.heap.size w x.B x.d ps[hs.length].ws) : AllQ g w (hs ++ [x]) ps := fun i hi hi' => by
  rcases Nat.lt_or_ge i hs.length with h1 | h1
  · rw [List.getElem_append_left h1]; exact h i h1 hi'
  · have : i = hs.length := by simp at hi; omega
    subst this
    simpa using hx
theorem AllQ.below {g : Nat} {w w' : World} {hs : List AmH} {ps : List Amd} (h : AllQ g w hs ps) (hb : Below w.heap.size w w') : AllQ g w' hs ps := fun i hi hi' => ⟨(h i hi hi').1, (OwS.below (h i hi hi').2 hb (Nat.le_refl _)).1, (h i hi hi').2.2.1.mono hb.size, (h i hi hi').2.2.2⟩
theorem AllQ.set {g o : Nat} {w : World} {hs : List AmH} {ps : List Amd} (h : AllQ g w hs ps) (v : Value) : AllQ g (w.setCell ⟨g, o, none⟩ v) hs ps := fun i hi hi' =>
  ⟨(h i hi hi').1, (OwS.only (h i hi hi').2 ((Only.refl' (lo := g) (hi := g + 1)).set_ (Nat.le_refl _) (Nat.lt_succ_self _) v) (.inr (Nat.le_refl _))).1, by simpa using (h i hi hi').2.2.1, (h i hi hi').2.2.2⟩
/-- The rows of the words lie in blocks that differ, and differ from that of the headers. -/
def OrdQ (A : Option Addr) (hs : List AmH) : Prop := (∀ i j (hij : i < j) (hj : j < hs.length) a b, hs[i].B = some a → hs[j].B = some b → a.block ≠ b.block) ∧ ∀ i (hi : i < hs.length) a b, A = some a → hs[i].B = some b → a.block ≠ b.block
theorem OrdQ.snoc {A : Option Addr} {hs : List AmH} {x : AmH} {m : Nat} (h : OrdQ A hs) (h1 : ∀ i (hi : i < hs.length), Under m hs[i].B) (h2 : ∀ a, A = some a → a.block < m) (hx : ∀ b, x.B = some b → m ≤ b.block) : OrdQ A (hs ++ [x]) := by
  refine ⟨fun i j hij hj a b ha hb => ?_, fun i hi a b ha hb => ?_⟩
  · have hil : i < hs.length := by simp at hj; omega
    rw [List.getElem_append_left hil] at ha
    rcases Nat.lt_or_ge j hs.length with h3 | h3
    · rw [List.getElem_append_left h3] at hb; exact h.1 i j hij h3 a b ha hb
    · have : j = hs.length := by simp at hj; omega
      subst this
      have hb' : x.B = some b := by simpa using hb
      exact Nat.ne_of_lt (Nat.lt_of_lt_of_le (h1 i hil a ha) (hx b hb'))
  · rcases Nat.lt_or_ge i hs.length with h3 | h3
    · rw [List.getElem_append_left h3] at hb; exact h.2 i h3 a b ha hb
    · have : i = hs.length := by simp at hi; omega
      subst this
      have hb' : x.B = some b := by simpa using hb
      exact Nat.ne_of_lt (Nat.lt_of_lt_of_le (h2 a ha) (hx b hb'))
theorem OrdQ.set {A : Option Addr} {hs : List AmH} {x : AmH} {k : Nat} (h : OrdQ A hs) (hk : k < hs.length) (hx : x.B = hs[k].B) : OrdQ A (hs.set k x) := by
  have e : ∀ i (hi : i < hs.length), ((hs.set k x)[i]'(by simpa using hi)).B = hs[i].B := fun i hi => by
    rw [List.getElem_set]
    split
    · rename_i hki; subst hki; exact hx
    · rfl
  refine ⟨fun i j hij hj a b ha hb => ?_, fun i hi a b ha hb => ?_⟩
  · have hj' : j < hs.length := by simpa using hj
    rw [e i (by omega)] at ha
    rw [e j hj'] at hb
    exact h.1 i j hij hj' a b ha hb
  · have hi' : i < hs.length := by simpa using hi
    rw [e i hi'] at hb
    exact h.2 i hi' a b ha hb
theorem infoAmdQ : (Tryz.prog.info? 35).map (fun i => (i.zero, i.size, i.bytes)) = some (some (.agg #[.int .i64 0, .int .i64 0, .int .i64 0, .slice none 0 0]), 4, 48) := by kernel_rfl
/-- A list of proposals that is read, its memory below B. -/
def DLQQB (B : Nat) (w : World) (A : Option Addr) (c : Nat) (ps : List Amd) : Prop := ps.length ≤ c ∧ ∃ hs : List AmH, hs.length = ps.length ∧ CellsB B w A (AmHK.row hs) ∧ ∀ i (h1 : i < hs.length) (h2 : i < ps.length), BearsQ w hs[i] ps[i] ∧ CellsB B w hs[i].B (strs ps[i].ws)
theorem DLQQB.dl {B : Nat} {w : World} {A : Option Addr} {c : Nat} {ps : List Amd} (h : DLQQB B w A c ps) : DLQ w A c ps := by
  obtain ⟨h1, hs, h2, h3, h4⟩ := h
  exact ⟨h1, hs, h2, h3.cells, fun i hi hi' => (h4 i hi hi').1⟩
theorem DLQQB.of_dl {w : World} {A : Option Addr} {c : Nat} {ps : List Amd} (h : DLQ w A c ps) : DLQQB w.heap.size w A c ps := by
  obtain ⟨h1, hs, h2, h3, h4⟩ := h
  exact ⟨h1, hs, h2, CellsB.of_cells h3, fun i hi hi' => ⟨h4 i hi hi', CellsB.of_cells (h4 i hi hi').2.2⟩⟩
theorem DLQQB.below {B B' : Nat} {w w' : World} {A : Option Addr} {c : Nat} {ps : List Amd} (h : DLQQB B w A c ps) (hb : Below B' w w') (hB : B ≤ B') : DLQQB B w' A c ps := by
  obtain ⟨h1, hs, h2, h3, h4⟩ := h
  exact ⟨h1, hs, h2, h3.below hb hB, fun i hi hi' => ⟨⟨(h4 i hi hi').1.1, (h4 i hi hi').1.2.1, ((h4 i hi hi').2.below hb hB).cells⟩, (h4 i hi hi').2.below hb hB⟩⟩
/-- A list that is read: memory below B; one of which the sizes are not known yet; a copy, with its memory in lo .. hi - 1. -/
def RdQ (B : Nat) (w : World) (A : Option Addr) (c : Nat) (ps : List Amd) : Prop := DLQQB B w A c ps ∧ FitQ ps
def RdQ0 (B : Nat) (w : World) (A : Option Addr) (c : Nat) (ps : List Amd) : Prop := DLQQB B w A c ps ∧ FitQ0 ps
def OwQ (lo hi : Nat) (w : World) (A : Option Addr) (c : Nat) (ps : List Amd) : Prop := ∃ hs : List AmH, hs.length = ps.length ∧ w.ownsRow lo 35 4 (.slice A ps.length c) ps.length (AmHK.row hs) ∧ Under hi A ∧ FitQ ps ∧ (∀ i (h1 : i < hs.length) (h2 : i < ps.length), HeadsQ hs[i] ps[i] ∧ OwS lo hi w hs[i].B hs[i].d ps[i].ws) ∧ OrdQ A hs
section
variable {B B' lo hi lo' hi' : Nat} {w w' : World} {A : Option Addr} {c : Nat} {ps : List Amd}
theorem RdQ.below (h : RdQ B w A c ps) (hb : Below B' w w') (hB : B ≤ B') : RdQ B w' A c ps := ⟨h.1.below hb hB, h.2⟩
theorem RdQ0.below (h : RdQ0 B w A c ps) (hb : Below B' w w') (hB : B ≤ B') : RdQ0 B w' A c ps := ⟨h.1.below hb hB, h.2⟩
theorem RdQ0.up (h : RdQ0 B w A c ps) (hf : FitQ ps) : RdQ B w A c ps := ⟨h.1, hf⟩
theorem OwQ.below (h : OwQ lo hi w A c ps) (hb : Below B w w') (hB : hi ≤ B) : OwQ lo hi w' A c ps := by
  obtain ⟨hs, h1, h2, h3, h4, h5, h6⟩ := h
  exact ⟨hs, h1, own_under h2 h3 hb hB, h3, h4, fun i hi hi' => ⟨(h5 i hi hi').1, (h5 i hi hi').2.below hb hB⟩, h6⟩
theorem OwQ.only (h : OwQ lo hi w A c ps) (ho : Only lo' hi' w w') (hd : hi ≤ lo' ∨ hi' ≤ lo) : OwQ lo hi w' A c ps := by
  obtain ⟨hs, h1, h2, h3, h4, h5, h6⟩ := h
  exact ⟨hs, h1, own_only h2 h3 ho hd, h3, h4, fun i hi hi' => ⟨(h5 i hi hi').1, (h5 i hi hi').2.only ho hd⟩, h6⟩
theorem OwQ.rd (h : OwQ lo hi w A c ps) : RdQ hi w A c ps := by
  obtain ⟨hs, h1, h2, h3, h4, h5, h6⟩ := h
  exact ⟨⟨own_cap h2, hs, h1, CellsB.own h2 h3, fun i hi hi' => ⟨⟨(h5 i hi hi').1, by rw [(h5 i hi hi').1.2.2.2]; exact own_cap (h5 i hi hi').2.1, Cells.of_own (h5 i hi hi').2.1⟩, CellsB.own (h5 i hi hi').2.1 (h5 i hi hi').2.2.1⟩⟩, h4⟩
theorem OwQ.low (h : OwQ lo hi w A c ps) (hl : lo' ≤ lo) : OwQ lo' hi w A c ps := by
  obtain ⟨hs, h1, h2, h3, h4, h5, h6⟩ := h
  exact ⟨hs, h1, own_mono h2 hl, h3, h4, fun i hi hi' => ⟨(h5 i hi hi').1, own_mono (h5 i hi hi').2.1 hl, (h5 i hi hi').2.2⟩, h6⟩
end
/-- A copy. -/
def ToQ (w : World) (ps : List Amd) (e : Ending) (w' : World) : Prop := ∃ (A : Option Addr) (c : Nat), e = .returned (.slice A ps.length c) ∧ OwQ w.heap.size w'.heap.size w' A c ps ∧ Below w.heap.size w w'
/-- What is left when the lists are counted, and -1 where it does not reach. -/
def szQs : List Amd → Int → Int
  | [], l => l
  | p :: ps, l => if szF p.ws l < 0 then -1 else szQs ps (szF p.ws l)
def szQ (ps : List Amd) (left : Int) : Int := if left - (ps.length : Int) < 0 then -1 else szQs ps (left - (ps.length : Int))
theorem szF_leQ (ss : List ByteArray) (l : Int) : ¬ szF ss l < 0 → (ss.length : Int) ≤ l ∧ (ss.length : Int) + szF ss l ≤ l := by
  unfold szF
  split <;> omega
theorem szQs_fit : ∀ (ps : List Amd) (l : Int), ¬ szQs ps l < 0 → l ≤ 1048576 → (∀ p ∈ ps, p.ws.length ≤ 1048576) ∧ (cntV ps : Int) + szQs ps l ≤ l := by
  intro ps
  induction ps with
  | nil => intro l h hl; exact ⟨fun p hp => by simp at hp, by simp [szQs, cntV]⟩
  | cons p ps ih =>
    intro l h hl
    simp only [szQs] at h ⊢
    by_cases hs : szF p.ws l < 0
    · rw [if_pos hs] at h; omega
    · rw [if_neg hs] at h ⊢
      have h1 := szF_leQ _ _ hs
      obtain ⟨h2, h3⟩ := ih _ h (by omega)
      refine ⟨fun q hq => ?_, by simp only [cntV]; omega⟩
      rcases List.mem_cons.1 hq with rfl | hq
      · omega
      · exact h2 q hq
theorem szQ_fit {ps : List Amd} {l : Int} (h : ¬ szQ ps l < 0) (hl : l ≤ 1048576) (h0 : FitQ0 ps) : FitQ ps := by
  unfold szQ at h
  by_cases hs : l - (ps.length : Int) < 0
  · rw [if_pos hs] at h; omega
  · rw [if_neg hs] at h
    obtain ⟨h1, h2⟩ := szQs_fit ps _ h (by omega)
    exact ⟨by omega, fun p hp => ⟨h1 p hp, (h0.2 p hp).2⟩, by omega⟩
end Go.Proofs.YtnnphhhjkhoglaaGreatDoor
