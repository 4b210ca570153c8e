/- The amendments that undo a list of amendments: the plain list, and a list of amendments of the call's own that grows. Conditions: none. -/
import Derived.Test.YtnnphhhjkhoglaaGreatDoorRb4
import Derived.Test.YtnnphhhjkhoglaaGreatDoorInv3
namespace Go.Proofs.YtnnphhhjkhoglaaGreatDoor
open Go.RowKit
set_option linter.unusedVariables false
set_option linter.unusedSimpArgs false
/-- The inverses of all, each at its text. -/
def invsL : List ByteArray → List Amd → List Amd
  | _, [] => []
  | ss, a :: qs => invA ss a :: invsL (amdL ss a) qs
def fullB (ss : List ByteArray) (ps : List Amd) : Bool := decide ((rebT ss ps).length = ps.length + 1)
def undoB (ss : List ByteArray) (ps : List Amd) : Bool := rebB ss ps && fullB ss ps
def undoL (ss : List ByteArray) (ps : List Amd) : List Amd := if undoB ss ps then (invsL ss ps).reverse else []
theorem invsL_len (ss : List ByteArray) (ps : List Amd) : (invsL ss ps).length = ps.length := by
  induction ps generalizing ss with
  | nil => rfl
  | cons a ps ih => simp [invsL, ih]
theorem full_cons {ss : List ByteArray} {a : Amd} {ps : List Amd} (h : (rebT ss (a :: ps)).length = ps.length + 1 + 1) : fitsB ss a = true ∧ (rebT (amdL ss a) ps).length = ps.length + 1 := by
  rw [rebT] at h
  split at h
  · rename_i hf; exact ⟨hf, by simpa using h⟩
  · simp at h
theorem rebT_full {ss : List ByteArray} {ps : List Amd} (h : (rebT ss ps).length = ps.length + 1) {k : Nat} (hk : k < ps.length) : fitsB ((rebT ss ps)[k]'(by omega)) ps[k] = true ∧ (invsL ss ps)[k]'(by rw [invsL_len]; exact hk) = invA ((rebT ss ps)[k]'(by omega)) ps[k] := by
  induction ps generalizing ss k with
  | nil => simp at hk
  | cons a ps ih =>
    obtain ⟨h1, h2⟩ := full_cons h
    have e : rebT ss (a :: ps) = ss :: rebT (amdL ss a) ps := by rw [rebT, if_pos h1]
    cases k with
    | zero => simp only [e, List.getElem_cons_zero, invsL]; exact ⟨h1, trivial⟩
    | succ k =>
      have := ih h2 (k := k) (by simpa using hk)
      simpa only [e, List.getElem_cons_succ, invsL] using this
theorem invs_good {ss : List ByteArray} {ps : List Amd} (hg : GoodT ss) (hv : ∀ p ∈ ps, vldA p = true ∧ Fit p.ws) (h : (rebT ss ps).length = ps.length + 1) : ∀ q ∈ invsL ss ps, Fit q.ws ∧ q.ws.length ≤ 5 := by
  induction ps generalizing ss with
  | nil => intro q hq; simp [invsL] at hq
  | cons a ps ih =>
    obtain ⟨h1, h2⟩ := full_cons h
    have ha := hv a (by simp)
    intro q hq
    rcases List.mem_cons.1 hq with rfl | hq
    · refine ⟨Fit.cut hg.fit _ _, ?_⟩
      have := (vldA_range ha.1).2.2.2.1
      show (cutW ss a.p a.n).length ≤ 5
      unfold cutW
      rw [List.length_take]
      omega
    · exact ih (hg.step ha.1 h1 ha.2) (fun p hp => hv p (by simp [hp])) h2 q hq
theorem cntV_small {qs : List Amd} (h : ∀ q ∈ qs, q.ws.length ≤ 5) : cntV qs ≤ 5 * qs.length := by
  induction qs with
  | nil => simp [cntV]
  | cons q qs ih =>
    have h1 := h q (by simp)
    have h2 := ih (fun x hx => h x (by simp [hx]))
    simp only [cntV, List.length_cons]; omega
theorem FitQ.small {qs : List Amd} (h : ∀ q ∈ qs, Fit q.ws ∧ q.ws.length ≤ 5) (hl : qs.length ≤ 8) : FitQ qs :=
  ⟨by omega, fun q hq => (h q hq).1, by have := cntV_small (fun q hq => (h q hq).2); omega⟩
theorem undoB_parts {ss : List ByteArray} {ps : List Amd} (h : undoB ss ps = true) : rebB ss ps = true ∧ (rebT ss ps).length = ps.length + 1 := by
  unfold undoB fullB at h
  rw [Bool.and_eq_true, decide_eq_true_eq] at h
  exact h
theorem undo_fit {ss : List ByteArray} {ps : List Amd} (hfs : Fit ss) (hf : FitQ ps) : FitQ (undoL ss ps) := by
  unfold undoL
  split
  · rename_i h
    obtain ⟨h1, h2⟩ := undoB_parts h
    obtain ⟨h3, h4, h5, h6⟩ := rebB_parts h1
    refine FitQ.small (fun q hq => invs_good ⟨h3, hfs⟩ (fun p hp => ⟨h6 p hp, hf.2.1 p hp⟩) h2 q (by simpa using hq)) (by simp [invsL_len]; omega)
  · exact ⟨by simp, fun q hq => by simp at hq, by simp [cntV]⟩
/-- A list of amendments of the call's own that grows. -/
def OwV (lo : Nat) (w : World) (O : Option Addr) (c : Nat) (qs : List Amd) (hs : List AmH) : Prop := hs.length = qs.length ∧ w.ownsRow lo 35 4 (.slice O qs.length c) qs.length (AmHK.row hs) ∧ (∀ i (h1 : i < hs.length) (h2 : i < qs.length), HeadsQ hs[i] qs[i] ∧ w.ownsRow lo 9 1 (.slice hs[i].B qs[i].ws.length hs[i].d) qs[i].ws.length (strs qs[i].ws)) ∧ ∀ i j (hij : i < j) (hj : j < hs.length) a b, hs[i].B = some a → hs[j].B = some b → a.block ≠ b.block
section
variable {lo : Nat} {w w' : World} {O O' : Option Addr} {c c' : Nat} {qs : List Amd} {hs : List AmH}
theorem OwV.keep (h : OwV lo w O c qs hs) (hb : Below w.heap.size w w') : OwV lo w' O c qs hs :=
  ⟨h.1, own_keep h.2.1 hb, fun i h1 h2 => ⟨(h.2.2.1 i h1 h2).1, own_keep (h.2.2.1 i h1 h2).2 hb⟩, h.2.2.2⟩
theorem OwV.nil (h : w.ownsRow lo 35 4 (.slice O 0 c) 0 []) : OwV lo w O c [] [] := ⟨rfl, h, fun i h1 => by simp at h1, fun i j _ hj => by simp at hj⟩
theorem OwV.under (h : OwV lo w O c qs hs) {i : Nat} (hi : i < hs.length) : Under w.heap.size hs[i].B := Under.own (h.2.2.1 i hi (by rw [← h.1]; exact hi)).2
theorem OwV.own (h : OwV lo w O c qs hs) (hf : FitQ qs) : OwQ lo w.heap.size w O c qs := by
  obtain ⟨h1, h2, h3, h4⟩ := h
  refine ⟨hs, h1, h2, Under.own h2, hf, fun i hi hi' => ⟨(h3 i hi hi').1, (h3 i hi hi').2, Under.own (h3 i hi hi').2, hf.2.1 _ (List.getElem_mem hi')⟩, h4, fun i hi a b ha hb he => ?_⟩
  subst ha
  have h5 := (h3 i hi (by omega)).2
  rw [hb] at h5
  have := own_ne h2 h5 (by decide) (g := a.block) rfl
  exact this (by rw [he]; rfl)
theorem amh_one {xs : List AmH} : ∀ u ∈ AmHK.row xs, u.oneCell' = true := fun u hu => by
  obtain ⟨x, _, hx⟩ := List.mem_flatMap.1 hu
  have hx' : u ∈ [Value.int .i64 x.k, .int .i64 x.p, .int .i64 x.n, .slice x.B x.l x.d] := hx
  simp at hx'
  rcases hx' with rfl | rfl | rfl | rfl <;> rfl
/-- One more at the end. -/
theorem OwV.snoc {q : Amd} {B : Option Addr} {d m : Nat} (h : OwV lo w O c qs hs) (hb : w.ownsRow lo 9 1 (.slice B q.ws.length d) q.ws.length (strs q.ws)) (hm : ∀ i (hi : i < hs.length), Under m hs[i].B) (hn : ∀ b, B = some b → m ≤ b.block) (hg : w.grownBy w' (Value.slice O qs.length c).ownBlock)
    (ho : w'.ownsRow lo 35 4 (.slice O' (qs.length + 1) c') (qs.length + 1) (AmHK.row hs ++ [.int .i64 q.k, .int .i64 q.p, .int .i64 q.n, .slice B q.ws.length d])) : OwV lo w' O' c' (qs ++ [q]) (hs ++ [⟨q.k, q.p, q.n, B, q.ws.length, d⟩]) := by
  obtain ⟨h1, h2, h3, h4⟩ := h
  refine ⟨by simp [h1], ?_, fun i hi hi' => ?_, fun i j hij hj a b ha hb' => ?_⟩
  · rw [List.length_append, AmHK.row_append]; exact ho
  · rcases Nat.lt_or_ge i qs.length with h5 | h5
    · have h5' : i < hs.length := by rw [h1]; exact h5
      rw [List.getElem_append_left h5', List.getElem_append_left h5]
      obtain ⟨h6, h7⟩ := h3 i h5' h5
      exact ⟨h6, h7.kept hg (own_two h2 h7 (by decide))⟩
    · have h6 : i = qs.length := by simp at hi'; omega
      subst h6
      rw [List.getElem_append_right (by rw [h1]; exact Nat.le_refl _), List.getElem_append_right (Nat.le_refl _)]
      simp only [h1, Nat.sub_self, List.getElem_cons_zero]
      exact ⟨⟨rfl, rfl, rfl, rfl⟩, hb.kept hg (own_two h2 hb (by decide))⟩
  · have hil : i < hs.length := by simp at hj; omega
    rw [List.getElem_append_left hil] at ha
    rcases Nat.lt_or_ge j hs.length with h5 | h5
    · rw [List.getElem_append_left h5] at hb'
      exact h4 i j hij h5 a b ha hb'
    · have h6 : j = hs.length := by simp at hj; omega
      subst h6
      have hb2 : B = some b := by simpa using hb'
      exact Nat.ne_of_lt (Nat.lt_of_lt_of_le (hm i hil a ha) (hn b hb2))
/-- One more at the front: the row is a new one. -/
theorem OwV.cons {q : Amd} {B : Option Addr} {d m : Nat} (h : OwV lo w O c qs hs) (hb : w.ownsRow lo 9 1 (.slice B q.ws.length d) q.ws.length (strs q.ws)) (hm : ∀ i (hi : i < hs.length), Under m hs[i].B) (hn : ∀ b, B = some b → m ≤ b.block) {g cc : Nat} {vs : List Value} (hlit : w.ownsRow lo 35 4 (.slice (some ⟨g, 0, none⟩) 1 cc) 1 vs) (hg : w.grownBy w' (Value.slice (some ⟨g, 0, none⟩) 1 cc).ownBlock)
    (ho : w'.ownsRow lo 35 4 (.slice O' (1 + qs.length) c') (1 + qs.length) ([.int .i64 q.k, .int .i64 q.p, .int .i64 q.n, .slice B q.ws.length d] ++ AmHK.row hs)) : OwV lo w' O' c' (q :: qs) (⟨q.k, q.p, q.n, B, q.ws.length, d⟩ :: hs) := by
  obtain ⟨h1, h2, h3, h4⟩ := h
  refine ⟨by simp [h1], ?_, fun i hi hi' => ?_, fun i j hij hj a b ha hb' => ?_⟩
  · rw [List.length_cons, Nat.add_comm]; exact ho
  · cases i with
    | zero => exact ⟨⟨rfl, rfl, rfl, rfl⟩, hb.kept hg (own_two hlit hb (by decide))⟩
    | succ i =>
      obtain ⟨h6, h7⟩ := h3 i (by simpa using hi) (by simpa using hi')
      exact ⟨h6, h7.kept hg (own_two hlit h7 (by decide))⟩
  · cases j with
    | zero => omega
    | succ j =>
      have hj' : j < hs.length := by simpa using hj
      rw [List.getElem_cons_succ] at hb'
      cases i with
      | zero =>
        have ha2 : B = some a := ha
        exact Nat.ne_of_gt (Nat.lt_of_lt_of_le (hm j hj' b hb') (hn a ha2))
      | succ i =>
        rw [List.getElem_cons_succ] at ha
        exact h4 i j (by omega) hj' a b ha hb'
end
theorem elAm : ElT Tryz.prog 25 35 4 48 := ElT.mk' Tryz.underlying25 infoAmdQ rfl (by omega) (by omega)
def ToQB (w : World) (qs : List Amd) (ok : Bool) (e : Ending) (w' : World) : Prop := ∃ (A : Option Addr) (c : Nat), e = .returned (.tuple #[.slice A qs.length c, .bool ok]) ∧ OwQ w.heap.size w'.heap.size w' A c qs ∧ Below w.heap.size w w'
end Go.Proofs.YtnnphhhjkhoglaaGreatDoor
