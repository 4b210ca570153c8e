/- The laws' copies, comparisons and sizes of lists of amendments. Conditions: the ranges named. -/
import Derived.Test.YtgchbimjgdoifaaDa1
import Derived.Test.YtgchbimjgdoifaaObj2
import Derived.Deep.Cut
import Derived.Deep.DeepCutAuto
namespace Go.Proofs.Ytgchbimjgdoifaa
open Go.RowKit
set_option linter.unusedVariables false
set_option linter.unusedSimpArgs false
/-- The cells of the first headers, the rest z. -/
def partQ (z : List Value) (hs : List AmH) (m : Nat) : List Value := AmHK.row hs ++ (List.replicate m z).flatten
theorem partQ_zero (z : List Value) (m : Nat) : partQ z [] m = (List.replicate m z).flatten := by simp [partQ, Kd.row]
theorem partQ_all (z : List Value) (hs : List AmH) : partQ z hs 0 = AmHK.row hs := by simp [partQ]
theorem partQ_set {z : List Value} (hz : z.length = 4) (hs : List AmH) (x : AmH) (m : Nat) : setL (partQ z hs (m + 1)) (hs.length * 4) (AmHK.enc x) = partQ z (hs ++ [x]) m := by
  have hl : ((hs ++ [x]) ++ List.replicate m x).length - hs.length = m + 1 := by simp
  have hl2 : ((hs ++ [x]) ++ List.replicate m x).length - (hs.length + 1) = m := by simp; omega
  have ht : ((hs ++ [x]) ++ List.replicate m x).take hs.length = hs := by simp
  have ht2 : ((hs ++ [x]) ++ List.replicate m x).take (hs.length + 1) = hs ++ [x] := by
    rw [List.take_append_of_le_length (by simp), List.take_of_length_le (by simp)]
  have hlt : hs.length < ((hs ++ [x]) ++ List.replicate m x).length := by simp
  have h := AmHK.part_set (z := z) (xs := (hs ++ [x]) ++ List.replicate m x) (k := hs.length) hz hlt
  unfold Kd.part at h
  rw [hl, hl2, ht, ht2] at h
  have hg : ((hs ++ [x]) ++ List.replicate m x)[hs.length] = x := by simp
  rw [hg] at h
  exact h
/-- The cells x bear p, and the words lie in a row of the call's own behind g. -/
def HeadsQ (x : AmH) (p : Amd) : Prop := x.k = p.k ∧ x.p = p.p ∧ x.n = p.n ∧ x.l = p.ws.length
def AllQ (g : Nat) (w : World) (hs : List AmH) (ps : List Amd) : Prop := ∀ i (hi : i < hs.length) (hi' : i < ps.length), HeadsQ hs[i] ps[i] ∧ OwS (g + 1) w.heap.size w hs[i].B hs[i].d ps[i].ws
theorem AllQ.snoc {g : Nat} {w : World} {hs : List AmH} {ps : List Amd} {x : AmH} (h : AllQ g w hs ps) (hl : hs.length < ps.length) (hx : HeadsQ x ps[hs.length] ∧ OwS (g + 1) w.heap.size w x.B x.d ps[hs.length].ws) : AllQ g w (hs ++ [x]) ps := fun i hi hi' => by
  rcases Nat.lt_or_ge i hs.length with h1 | h1
  · rw [List.getElem_append_left h1]; exact h i h1 hi'
  · have : i = hs.length := by simp at hi; omega
    subst this
    simpa using hx
theorem AllQ.below {g : Nat} {w w' : World} {hs : List AmH} {ps : List Amd} (h : AllQ g w hs ps) (hb : Below w.heap.size w w') : AllQ g w' hs ps := fun i hi hi' => ⟨(h i hi hi').1, (OwS.below (h i hi hi').2 hb (Nat.le_refl _)).1, (h i hi hi').2.2.1.mono hb.size, (h i hi hi').2.2.2⟩
theorem AllQ.set {g o : Nat} {w : World} {hs : List AmH} {ps : List Amd} (h : AllQ g w hs ps) (v : Value) : AllQ g (w.setCell ⟨g, o, none⟩ v) hs ps := fun i hi hi' =>
  ⟨(h i hi hi').1, (OwS.only (h i hi hi').2 ((Only.refl' (lo := g) (hi := g + 1)).set_ (Nat.le_refl _) (Nat.lt_succ_self _) v) (.inr (Nat.le_refl _))).1, by simpa using (h i hi hi').2.2.1, (h i hi hi').2.2.2⟩
/-- The rows of the words lie in blocks that differ, and differ from that of the headers. -/
def OrdQ (A : Option Addr) (hs : List AmH) : Prop := (∀ i j (hij : i < j) (hj : j < hs.length) a b, hs[i].B = some a → hs[j].B = some b → a.block ≠ b.block) ∧ ∀ i (hi : i < hs.length) a b, A = some a → hs[i].B = some b → a.block ≠ b.block
theorem OrdQ.snoc {A : Option Addr} {hs : List AmH} {x : AmH} {m : Nat} (h : OrdQ A hs) (h1 : ∀ i (hi : i < hs.length), Under m hs[i].B) (h2 : ∀ a, A = some a → a.block < m) (hx : ∀ b, x.B = some b → m ≤ b.block) : OrdQ A (hs ++ [x]) := by
  refine ⟨fun i j hij hj a b ha hb => ?_, fun i hi a b ha hb => ?_⟩
  · have hil : i < hs.length := by simp at hj; omega
    rw [List.getElem_append_left hil] at ha
    rcases Nat.lt_or_ge j hs.length with h3 | h3
    · rw [List.getElem_append_left h3] at hb; exact h.1 i j hij h3 a b ha hb
    · have : j = hs.length := by simp at hj; omega
      subst this
      have hb' : x.B = some b := by simpa using hb
      exact Nat.ne_of_lt (Nat.lt_of_lt_of_le (h1 i hil a ha) (hx b hb'))
  · rcases Nat.lt_or_ge i hs.length with h3 | h3
    · rw [List.getElem_append_left h3] at hb; exact h.2 i h3 a b ha hb
    · have : i = hs.length := by simp at hi; omega
      subst this
      have hb' : x.B = some b := by simpa using hb
      exact Nat.ne_of_lt (Nat.lt_of_lt_of_le (h2 a ha) (hx b hb'))
theorem OrdQ.set {A : Option Addr} {hs : List AmH} {x : AmH} {k : Nat} (h : OrdQ A hs) (hk : k < hs.length) (hx : x.B = hs[k].B) : OrdQ A (hs.set k x) := by
  have e : ∀ i (hi : i < hs.length), ((hs.set k x)[i]'(by simpa using hi)).B = hs[i].B := fun i hi => by
    rw [List.getElem_set]
    split
    · rename_i hki; subst hki; exact hx
    · rfl
  refine ⟨fun i j hij hj a b ha hb => ?_, fun i hi a b ha hb => ?_⟩
  · have hj' : j < hs.length := by simpa using hj
    rw [e i (by omega)] at ha
    rw [e j hj'] at hb
    exact h.1 i j hij hj' a b ha hb
  · have hi' : i < hs.length := by simpa using hi
    rw [e i hi'] at hb
    exact h.2 i hi' a b ha hb
theorem infoAmdQ : (Try.prog.info? 40).map (fun i => (i.zero, i.size, i.bytes)) = some (some (.agg #[.int .i64 0, .int .i64 0, .int .i64 0, .slice none 0 0]), 4, 48) := by kernel_rfl
/-- A list of proposals that is read, its memory below B. -/
def DLQQB (B : Nat) (w : World) (A : Option Addr) (c : Nat) (ps : List Amd) : Prop := ps.length ≤ c ∧ ∃ hs : List AmH, hs.length = ps.length ∧ CellsB B w A (AmHK.row hs) ∧ ∀ i (h1 : i < hs.length) (h2 : i < ps.length), BearsQ w hs[i] ps[i] ∧ CellsB B w hs[i].B (strs ps[i].ws)
theorem DLQQB.dl {B : Nat} {w : World} {A : Option Addr} {c : Nat} {ps : List Amd} (h : DLQQB B w A c ps) : DLQ w A c ps := by
  obtain ⟨h1, hs, h2, h3, h4⟩ := h
  exact ⟨h1, hs, h2, h3.cells, fun i hi hi' => (h4 i hi hi').1⟩
theorem DLQQB.of_dl {w : World} {A : Option Addr} {c : Nat} {ps : List Amd} (h : DLQ w A c ps) : DLQQB w.heap.size w A c ps := by
  obtain ⟨h1, hs, h2, h3, h4⟩ := h
  exact ⟨h1, hs, h2, CellsB.of_cells h3, fun i hi hi' => ⟨h4 i hi hi', CellsB.of_cells (h4 i hi hi').2.2⟩⟩
theorem DLQQB.below {B B' : Nat} {w w' : World} {A : Option Addr} {c : Nat} {ps : List Amd} (h : DLQQB B w A c ps) (hb : Below B' w w') (hB : B ≤ B') : DLQQB B w' A c ps := by
  obtain ⟨h1, hs, h2, h3, h4⟩ := h
  exact ⟨h1, hs, h2, h3.below hb hB, fun i hi hi' => ⟨⟨(h4 i hi hi').1.1, (h4 i hi hi').1.2.1, ((h4 i hi hi').2.below hb hB).cells⟩, (h4 i hi hi').2.below hb hB⟩⟩
/-- A list that is read: memory below B; one of which the sizes are not known yet; a copy, with its memory in lo .. hi - 1. -/
def RdQ (B : Nat) (w : World) (A : Option Addr) (c : Nat) (ps : List Amd) : Prop := DLQQB B w A c ps ∧ FitQ ps
def RdQ0 (B : Nat) (w : World) (A : Option Addr) (c : Nat) (ps : List Amd) : Prop := DLQQB B w A c ps ∧ FitQ0 ps
def OwQ (lo hi : Nat) (w : World) (A : Option Addr) (c : Nat) (ps : List Amd) : Prop := ∃ hs : List AmH, hs.length = ps.length ∧ w.ownsRow lo 40 4 (.slice A ps.length c) ps.length (AmHK.row hs) ∧ Under hi A ∧ FitQ ps ∧ (∀ i (h1 : i < hs.length) (h2 : i < ps.length), HeadsQ hs[i] ps[i] ∧ OwS lo hi w hs[i].B hs[i].d ps[i].ws) ∧ OrdQ A hs
section
variable {B B' lo hi lo' hi' : Nat} {w w' : World} {A : Option Addr} {c : Nat} {ps : List Amd}
theorem RdQ.below (h : RdQ B w A c ps) (hb : Below B' w w') (hB : B ≤ B') : RdQ B w' A c ps := ⟨h.1.below hb hB, h.2⟩
theorem RdQ0.below (h : RdQ0 B w A c ps) (hb : Below B' w w') (hB : B ≤ B') : RdQ0 B w' A c ps := ⟨h.1.below hb hB, h.2⟩
theorem RdQ0.up (h : RdQ0 B w A c ps) (hf : FitQ ps) : RdQ B w A c ps := ⟨h.1, hf⟩
theorem OwQ.below (h : OwQ lo hi w A c ps) (hb : Below B w w') (hB : hi ≤ B) : OwQ lo hi w' A c ps := by
  obtain ⟨hs, h1, h2, h3, h4, h5, h6⟩ := h
  exact ⟨hs, h1, own_under h2 h3 hb hB, h3, h4, fun i hi hi' => ⟨(h5 i hi hi').1, (h5 i hi hi').2.below hb hB⟩, h6⟩
theorem OwQ.only (h : OwQ lo hi w A c ps) (ho : Only lo' hi' w w') (hd : hi ≤ lo' ∨ hi' ≤ lo) : OwQ lo hi w' A c ps := by
  obtain ⟨hs, h1, h2, h3, h4, h5, h6⟩ := h
  exact ⟨hs, h1, own_only h2 h3 ho hd, h3, h4, fun i hi hi' => ⟨(h5 i hi hi').1, (h5 i hi hi').2.only ho hd⟩, h6⟩
theorem OwQ.rd (h : OwQ lo hi w A c ps) : RdQ hi w A c ps := by
  obtain ⟨hs, h1, h2, h3, h4, h5, h6⟩ := h
  exact ⟨⟨own_cap h2, hs, h1, CellsB.own h2 h3, fun i hi hi' => ⟨⟨(h5 i hi hi').1, by rw [(h5 i hi hi').1.2.2.2]; exact own_cap (h5 i hi hi').2.1, Cells.of_own (h5 i hi hi').2.1⟩, CellsB.own (h5 i hi hi').2.1 (h5 i hi hi').2.2.1⟩⟩, h4⟩
theorem OwQ.low (h : OwQ lo hi w A c ps) (hl : lo' ≤ lo) : OwQ lo' hi w A c ps := by
  obtain ⟨hs, h1, h2, h3, h4, h5, h6⟩ := h
  exact ⟨hs, h1, own_mono h2 hl, h3, h4, fun i hi hi' => ⟨(h5 i hi hi').1, own_mono (h5 i hi hi').2.1 hl, (h5 i hi hi').2.2⟩, h6⟩
end
/-- A copy. -/
def ToQ (w : World) (ps : List Amd) (e : Ending) (w' : World) : Prop := ∃ (A : Option Addr) (c : Nat), e = .returned (.slice A ps.length c) ∧ OwQ w.heap.size w'.heap.size w' A c ps ∧ Below w.heap.size w w'
set_option maxHeartbeats 2000000 in
theorem toAmendmentS_any (A : Option Addr) (c : Nat) (ps : List Amd) (w : World) (ha : DLQ w A c ps) (hf : FitQ ps) :
    Calls Try.prog 12 #[.slice A ps.length c] w (ToQ w ps) := by
  obtain ⟨i0, hi, hz0, hz1, hz2⟩ := info_parts infoAmdQ
  have hn := hf.1
  go_enter Try.func12, Try.ntmps12
  go_wp2_with (at_make; refine wpList_make_full _ rfl (.tmp 6) (.tmp 6) 29 rfl w.heap.size 40 i0 _ 4 Try.underlying29 hi hz0 hz1 .i64 .i64 _ _ ps.length rfl rfl rfl rfl (by rw [hz2]; omega) (by unfold maxLen; omega) (Nat.le_refl _) ?_; intro w1 hown hgrow; rw [show (Value.agg #[.int .i64 0, .int .i64 0, .int .i64 0, .slice none 0 0]).cells = #[.int .i64 0, .int .i64 0, .int .i64 0, .slice none 0 0] from rfl, show ps.length * 4 = ps.length * (#[.int .i64 0, .int .i64 0, .int .i64 0, .slice none 0 0] : Array Value).size from rfl, made_row _ _ (by simp), ← partQ_zero] at hown)
  have hB1 : Below w.heap.size w w1 := (Below.refl _ _).grown hgrow (Nat.le_refl _) (by simp)
  have HO1 := Lib.hid hown
  clear hgrow hown
  go_loopw [4] (fun i wr => ∃ (k : Nat) (hs : List AmH), hs.length = k ∧ k ≤ ps.length ∧ i = .int .i64 k ∧ wr.ownsRow w.heap.size 40 4 (.slice (some ⟨w.heap.size, 0, none⟩) ps.length ps.length) ps.length (partQ [.int .i64 0, .int .i64 0, .int .i64 0, .slice none 0 0] hs (ps.length - k)) ∧ AllQ w.heap.size wr hs ps ∧ OrdQ (some ⟨w.heap.size, 0, none⟩) hs ∧ Below w.heap.size w wr) (fun i _ => ps.length - (intOf i).toNat)
  case atStart => exact ⟨0, [], rfl, Nat.zero_le _, rfl, HO1.out, fun i hi => by simp at hi, ⟨fun i j hij hj => by simp at hj, fun i hi => by simp at hi⟩, hB1⟩
  case round =>
    clear hB1
    obtain ⟨k, hs, hk0, hk, rfl, hown, hal, hor, hB⟩ := hrel
    by_cases hlt : k < ps.length
    · obtain ⟨a, B, d, rfl, ⟨hc0, hc1, hc2, hc3⟩, hle, hcw⟩ := (ha.below hB).at_ hlt
      have i1 : (k : Int) < (ps.length : Int) := by omega
      have HR := Lib.hid (show RdS wr.heap.size wr B d ps[k].ws from ⟨hle, CellsB.of_cells hcw, hf.2.1 _ (List.getElem_mem hlt)⟩)
      have HO := Lib.hid hown
      have HL := Lib.hid hal
      have HOR := Lib.hid hor
      have HBB := Lib.hid hB
      have HK0 := Lib.hid hk0
      have hzz := hB.size
      have hsm : w.heap.size < wr.heap.size := (hown.lt w.heap.size rfl).2
      have hsub : ps.length - k = (ps.length - (k + 1)) + 1 := by omega
      have HSUB := Lib.hid hsub
      clear hown hB hle hcw hal hor hk0 hsub
      go_wp2_with fail
      refine (toA_abs HR.out).mono ?_
      rintro e w2 ⟨B2, d2, rfl, ow, hb⟩
      have hown := own_keep HO.out hb
      have hB2 := after HBB.out hb
      have HA2 := Lib.hid (HL.out.below hb)
      have HBF := Lib.hid (show HeadsQ ⟨ps[k].k, ps[k].p, ps[k].n, B2, ps[k].ws.length, d2⟩ ps[k] ∧ OwS (w.heap.size + 1) w2.heap.size w2 B2 d2 ps[k].ws from ⟨⟨rfl, rfl, rfl, rfl⟩, own_mono ow.1 (by omega), ow.2⟩)
      have HOO := Lib.hid (OrdQ.snoc (x := ⟨ps[k].k, ps[k].p, ps[k].n, B2, ps[k].ws.length, d2⟩) (m := wr.heap.size) HOR.out (fun i hi => (HL.out i hi (by have := HK0.out; omega)).2.2.1) (fun a ha => by have h9 := Option.some.inj ha; rw [← h9]; exact hsm) (fun b hb' => by have h8 : B2 = some b := hb'; subst h8; exact (ow.1.lt b.block rfl).1))
      obtain ⟨u0, g0⟩ := own_cell hown (j := k * 4) (by omega)
      have z0 := hown.frozenAt (k * 4)
      obtain ⟨u1, g1⟩ := own_cell hown (j := k * 4 + 1) (by omega)
      have z1 := hown.frozenAt (k * 4 + 1)
      obtain ⟨u2, g2⟩ := own_cell hown (j := k * 4 + 2) (by omega)
      have z2 := hown.frozenAt (k * 4 + 2)
      obtain ⟨u3, g3⟩ := own_cell hown (j := k * 4 + 3) (by omega)
      have z3 := hown.frozenAt (k * 4 + 3)
      have hst : World.ownsRow _ _ _ _ _ _ (setL (partQ [.int .i64 0, .int .i64 0, .int .i64 0, .slice none 0 0] hs (ps.length - k)) (k * 4) (AmHK.enc ⟨ps[k].k, ps[k].p, ps[k].n, B2, ps[k].ws.length, d2⟩)) := ((((hown.stored (k * 4) (.int .i64 ps[k].k)).1.stored (k * 4 + 1) (.int .i64 ps[k].p)).1.stored (k * 4 + 2) (.int .i64 ps[k].n)).1.stored (k * 4 + 3) (.slice B2 ps[k].ws.length d2)).1
      rw [HSUB.out, show setL (partQ [.int .i64 0, .int .i64 0, .int .i64 0, .slice none 0 0] hs (ps.length - (k + 1) + 1)) (k * 4) = setL (partQ [.int .i64 0, .int .i64 0, .int .i64 0, .slice none 0 0] hs (ps.length - (k + 1) + 1)) (hs.length * 4) by rw [HK0.out], partQ_set (by rfl)] at hst
      have HS := Lib.hid hst
      have HB := Lib.hid ((((hB2.setCell (p := ⟨w.heap.size, k * 4, none⟩) (Nat.le_refl _) (.int .i64 ps[k].k)).setCell (p := ⟨w.heap.size, k * 4 + 1, none⟩) (Nat.le_refl _) (.int .i64 ps[k].p)).setCell (p := ⟨w.heap.size, k * 4 + 2, none⟩) (Nat.le_refl _) (.int .i64 ps[k].n)).setCell (p := ⟨w.heap.size, k * 4 + 3, none⟩) (Nat.le_refl _) (.slice B2 ps[k].ws.length d2))
      have HLL := Lib.hid ((((HA2.out.snoc (x := ⟨ps[k].k, ps[k].p, ps[k].n, B2, ps[k].ws.length, d2⟩) (by have := HK0.out; omega) (by have := HK0.out; subst this; exact HBF.out)).set (o := k * 4) (.int .i64 ps[k].k)).set (o := k * 4 + 1) (.int .i64 ps[k].p)).set (o := k * 4 + 2) (.int .i64 ps[k].n) |>.set (o := k * 4 + 3) (.slice B2 ps[k].ws.length d2))
      clear hst hB2 hown hb ow
      go_wp2
      go_roundw
      case rel => exact ⟨k + 1, _, by simp; exact HK0.out, hlt, by go_num, HS.out, HLL.out, HOO.out, HB.out⟩
      case measure => simp [intOf]; omega
    · obtain rfl : k = ps.length := by omega
      rw [Nat.sub_self, partQ_all] at hown
      have HS := Lib.hid hown
      have HL := Lib.hid hal
      have HK0 := Lib.hid hk0
      clear hown hal hk0
      go_wp2
      go_ret
      exact ⟨_, _, rfl, ⟨hs, HK0.out, HS.out, Under.own HS.out, hf, fun i hi hi' => ⟨(HL.out i hi hi').1, own_mono (HL.out i hi hi').2.1 (Nat.le_succ _), (HL.out i hi hi').2.2⟩, hor⟩, hB⟩
set_option maxHeartbeats 2000000 in
theorem eqAmendmentS_same (A B : Option Addr) (c d : Nat) (ps : List Amd) (w : World) (ha : DLQ w A c ps) (hb : DLQ w B d ps) (hf : FitQ ps) :
    Calls Try.prog 15 #[.slice A ps.length c, .slice B ps.length d] w fun e w' => e = .returned (.bool true) ∧ Below w.heap.size w w' := by
  have hn := hf.1
  have hne : ((ps.length : Int) != (ps.length : Int)) = false := by simp
  go_enter Try.func15, Try.ntmps15
  go_wp2
  go_loopw [5] (fun i wr => ∃ k : Nat, k ≤ ps.length ∧ i = .int .i64 k ∧ Below w.heap.size w wr) (fun i _ => ps.length - (intOf i).toNat)
  case atStart => exact ⟨0, Nat.zero_le _, rfl, Below.refl _ _⟩
  case round =>
    obtain ⟨k, hk, rfl, hB⟩ := hrel
    by_cases hlt : k < ps.length
    · obtain ⟨a, A1, d1, rfl, ⟨hc0, hc1, hc2, hc3⟩, hle, hcw⟩ := (ha.below hB).at_ hlt
      obtain ⟨b, A2, d2, rfl, ⟨hd0, hd1, hd2, hd3⟩, hle2, hcw2⟩ := (hb.below hB).at_ hlt
      have i1 : (k : Int) < (ps.length : Int) := by omega
      have hz := hB.size
      have HX := fun W (hW : Below wr.heap.size wr W) => eqA_abs (a := ps[k]) (w := W) (c := d1) (c' := d2) ⟨hle, CellsB.of_cells (hcw.below hW), hf.2.1 _ (List.getElem_mem hlt)⟩ ⟨hle2, CellsB.of_cells (hcw2.below hW), hf.2.1 _ (List.getElem_mem hlt)⟩
      have HC := Lib.hid HX
      clear ha hb HX hle hle2 hcw hcw2
      go_wp2
      go_region_held3 (fun w' => Below wr.heap.size wr w' ∧ w'.cell? (a.add (k * 4)) = some (.int .i64 ps[k].k) ∧ w'.cell? ⟨(a.add (k * 4)).block, (a.add (k * 4)).off + 1, none⟩ = some (.int .i64 ps[k].p) ∧ w'.cell? ⟨(a.add (k * 4)).block, (a.add (k * 4)).off + 2, none⟩ = some (.int .i64 ps[k].n) ∧ w'.cell? ⟨(a.add (k * 4)).block, (a.add (k * 4)).off + 3, none⟩ = some (.slice A1 ps[k].ws.length d1) ∧ w'.cell? (b.add (k * 4)) = some (.int .i64 ps[k].k) ∧ w'.cell? ⟨(b.add (k * 4)).block, (b.add (k * 4)).off + 1, none⟩ = some (.int .i64 ps[k].p) ∧ w'.cell? ⟨(b.add (k * 4)).block, (b.add (k * 4)).off + 2, none⟩ = some (.int .i64 ps[k].n) ∧ w'.cell? ⟨(b.add (k * 4)).block, (b.add (k * 4)).off + 3, none⟩ = some (.slice A2 ps[k].ws.length d2))
        ((first | exact ⟨(Below.refl _ _).drew, hc0, hc1, hc2, hc3, hd0, hd1, hd2, hd3⟩ | (refine ⟨hb, (hb.cell (World.block_lt_of_cell? _ _ hc0)).trans hc0, (hb.cell (World.block_lt_of_cell? _ _ hc1)).trans hc1, (hb.cell (World.block_lt_of_cell? _ _ hc2)).trans hc2, (hb.cell (World.block_lt_of_cell? _ _ hc3)).trans hc3, (hb.cell (World.block_lt_of_cell? _ _ hd0)).trans hd0, (hb.cell (World.block_lt_of_cell? _ _ hd1)).trans hd1, (hb.cell (World.block_lt_of_cell? _ _ hd2)).trans hd2, (hb.cell (World.block_lt_of_cell? _ _ hd3)).trans hd3⟩)))
        (first
          | (go_at_call 72; refine (HC.out _ (Below.refl _ _).drew).mono ?_; rintro e w2 ⟨rfl, hb0⟩; have hb := (below_drewN (Below.refl wr.heap.size wr) 1).trans hb0; clear hb0))
      have hB2 := Lib.hid (hB.trans (hb.mono hz))
      clear hb
      go_wp2
      go_roundw
      case rel => exact ⟨k + 1, hlt, by go_num, hB2.out⟩
      case measure => simp [intOf]; omega
    · obtain rfl : k = ps.length := by omega
      go_wp2
      go_ret
      exact ⟨rfl, hB⟩
/-- What is left when the lists are counted, and -1 where it does not reach. -/
def szQs : List Amd → Int → Int
  | [], l => l
  | p :: ps, l => if szF p.ws l < 0 then -1 else szQs ps (szF p.ws l)
def szQ (ps : List Amd) (left : Int) : Int := if left - (ps.length : Int) < 0 then -1 else szQs ps (left - (ps.length : Int))
theorem szF_leQ (ss : List ByteArray) (l : Int) : ¬ szF ss l < 0 → (ss.length : Int) ≤ l ∧ (ss.length : Int) + szF ss l ≤ l := by
  unfold szF
  split <;> omega
theorem szQs_fit : ∀ (ps : List Amd) (l : Int), ¬ szQs ps l < 0 → l ≤ 1048576 → (∀ p ∈ ps, p.ws.length ≤ 1048576) ∧ (cntV ps : Int) + szQs ps l ≤ l := by
  intro ps
  induction ps with
  | nil => intro l h hl; exact ⟨fun p hp => by simp at hp, by simp [szQs, cntV]⟩
  | cons p ps ih =>
    intro l h hl
    simp only [szQs] at h ⊢
    by_cases hs : szF p.ws l < 0
    · rw [if_pos hs] at h; omega
    · rw [if_neg hs] at h ⊢
      have h1 := szF_leQ _ _ hs
      obtain ⟨h2, h3⟩ := ih _ h (by omega)
      refine ⟨fun q hq => ?_, by simp only [cntV]; omega⟩
      rcases List.mem_cons.1 hq with rfl | hq
      · omega
      · exact h2 q hq
theorem szQ_fit {ps : List Amd} {l : Int} (h : ¬ szQ ps l < 0) (hl : l ≤ 1048576) (h0 : FitQ0 ps) : FitQ ps := by
  unfold szQ at h
  by_cases hs : l - (ps.length : Int) < 0
  · rw [if_pos hs] at h; omega
  · rw [if_neg hs] at h
    obtain ⟨h1, h2⟩ := szQs_fit ps _ h (by omega)
    exact ⟨by omega, fun p hp => ⟨h1 p hp, (h0.2 p hp).2⟩, by omega⟩
set_option maxHeartbeats 1000000 in
theorem szAmendmentS_any (A : Option Addr) (c : Nat) (ps : List Amd) (left : Int) (w : World) (ha : DLQ w A c ps) (hf : FitQ0 ps) (h0 : 0 ≤ left) (h1 : left ≤ 1048576) :
    Calls Try.prog 9 #[.slice A ps.length c, .int .i64 left] w fun e w' => e = .returned (.int .i64 (szQ ps left)) ∧ Below w.heap.size w w' := by
  have hn := hf.1
  unfold maxLen at hn
  by_cases hl : left - (ps.length : Int) < 0
  · have HR := Lib.hid (show szQ ps left = -1 by unfold szQ; rw [if_pos hl])
    go_enter Try.func9, Try.ntmps9
    go_wp2
    go_ret
    exact ⟨ret_int HR.out.symm, Below.refl _ _⟩
  · have HR := Lib.hid (show szQ ps left = szQs ps (left - (ps.length : Int)) by unfold szQ; rw [if_neg hl])
    rw [HR.out]
    go_enter Try.func9, Try.ntmps9
    go_wp2
    go_loopw [1, 5] (fun l i wr => ∃ (k : Nat) (S : Int), k ≤ ps.length ∧ i = .int .i64 k ∧ l = .int .i64 S ∧ 0 ≤ S ∧ S ≤ left ∧ szQs ps (left - (ps.length : Int)) = szQs (ps.drop k) S ∧ Below w.heap.size w wr) (fun _ i _ => ps.length - (intOf i).toNat)
    case atStart => exact ⟨0, _, Nat.zero_le _, rfl, rfl, by omega, by omega, by simp, Below.refl _ _⟩
    case round =>
      obtain ⟨k, S, hk, rfl, rfl, hS0, hS1, hE, hB⟩ := hrel
      by_cases hlt : k < ps.length
      · obtain ⟨a, A1, d1, rfl, ⟨hc0, hc1, hc2, hc3⟩, hle, hcw⟩ := (ha.below hB).at_ hlt
        have i1 : (k : Int) < (ps.length : Int) := by omega
        have hS2 : S ≤ 1048576 := by omega
        have HE0 := Lib.hid (show szQs ps (left - (ps.length : Int)) = if szF ps[k].ws S < 0 then -1 else szQs (ps.drop (k + 1)) (szF ps[k].ws S) by rw [hE, List.drop_eq_getElem_cons hlt]; simp only [szQs])
        have HL := Lib.hid (szF_leQ ps[k].ws S)
        have hfk := hf.2 _ (List.getElem_mem hlt)
        have HB := Lib.hid hB
        clear hE hB
        by_cases hneg : szF ps[k].ws S < 0
        · have HE := Lib.hid (HE0.out.trans (if_pos hneg))
          clear HE0
          go_wp2_with (go_at_call 64; refine (szA_abs (A := A1) (c := d1) (a := ps[k]) S hcw hfk hS0 hS2).mono ?_; rintro e w1 ⟨rfl, hb⟩; have HB1 := Lib.hid (after HB.out hb); clear hb)
          go_ret
          exact ⟨ret_int HE.out.symm, HB1.out⟩
        · have HE := Lib.hid (HE0.out.trans (if_neg hneg))
          clear HE0
          go_wp2_with (go_at_call 64; refine (szA_abs (A := A1) (c := d1) (a := ps[k]) S hcw hfk hS0 hS2).mono ?_; rintro e w1 ⟨rfl, hb⟩; have HB1 := Lib.hid (after HB.out hb); clear hb)
          go_roundw
          case rel => exact ⟨k + 1, szF ps[k].ws S, hlt, by go_num, rfl, by omega, by have := HL.out hneg; omega, HE.out, HB1.out⟩
          case measure => simp [intOf]; omega
      · obtain rfl : k = ps.length := by omega
        have HE := Lib.hid (show szQs ps (left - (ps.length : Int)) = S by rw [hE]; simp [szQs])
        clear hE
        go_wp2
        go_ret
        exact ⟨ret_int HE.out.symm, hB⟩
end Go.Proofs.Ytgchbimjgdoifaa
