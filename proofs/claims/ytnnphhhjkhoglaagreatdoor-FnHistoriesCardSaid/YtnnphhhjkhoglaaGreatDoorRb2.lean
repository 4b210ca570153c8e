/- The texts that a list of amendments leads through, in the program. Conditions: the ranges named. -/
import Derived.Test.YtnnphhhjkhoglaaGreatDoorRb1
import Derived.Test.YtnnphhhjkhoglaaGreatDoorAgr
import Derived.Deep.DrawnRows
namespace Go.Proofs.YtnnphhhjkhoglaaGreatDoor
open Go.RowKit
set_option linter.unusedVariables false
set_option linter.unusedSimpArgs false
/-- The texts before each amendment and at the end, up to the first one that does not fit. -/
def rebT : List ByteArray → List Amd → List (List ByteArray)
  | ss, [] => [ss]
  | ss, a :: qs => if fitsB ss a then ss :: rebT (amdL ss a) qs else [ss]
/-- A text that amendments lead to. -/
structure GoodT (ss : List ByteArray) : Prop where
  word : wordsB ss 0 20 = true
  fit : Fit ss
theorem GoodT.len {ss : List ByteArray} (h : GoodT ss) : ss.length ≤ 20 := fitsB_small h.word
theorem GoodT.step {ss : List ByteArray} {a : Amd} (h : GoodT ss) (hv : vldA a = true) (hf : fitsB ss a = true) (ha : Fit a.ws) : GoodT (amdL ss a) := by
  have h1 := fitsB_len hf hv
  have h2 := h.word
  have h3 := (vldA_range hv).2.2.2.2.2.2
  rw [wordsB_low, Bool.and_eq_true, List.all_eq_true] at h2
  rw [List.all_eq_true] at h3
  refine ⟨?_, by omega, fun s hs => ?_⟩
  · rw [wordsB_low, Bool.and_eq_true, decide_eq_true_eq, List.all_eq_true]
    refine ⟨by omega, fun s hs => ?_⟩
    rcases amdL_mem hs with h4 | h4
    · exact h2.2 s h4
    · exact h3 s h4
  · rcases amdL_mem hs with h4 | h4
    · exact h.fit.2 s h4
    · exact ha.2 s h4
theorem rebT_len (ss : List ByteArray) (qs : List Amd) : 1 ≤ (rebT ss qs).length ∧ (rebT ss qs).length ≤ qs.length + 1 := by
  induction qs generalizing ss with
  | nil => simp [rebT]
  | cons a qs ih =>
    rw [rebT]
    split
    · have := ih (amdL ss a); simp; omega
    · simp
/-- The header of a text in a list of texts. -/
structure TxH where
  B : Option Addr
  l : Nat
  d : Nat
def TxHK : Kd TxH := ⟨1, fun x => [.slice x.B x.l x.d], fun _ => rfl, fun _ => True⟩
theorem txh_one {xs : List TxH} : ∀ u ∈ TxHK.row xs, u.oneCell' = true := fun u hu => by
  obtain ⟨x, _, hx⟩ := List.mem_flatMap.1 hu
  have hx' : u ∈ [Value.slice x.B x.l x.d] := hx
  simp at hx'
  subst hx'
  rfl
theorem txh_at {w : World} {A : Option Addr} {xs : List TxH} (h : Cells w A (TxHK.row xs)) {i : Nat} (hi : i < xs.length) : ∃ ad, A = some ad ∧ w.cell? (ad.add i) = some (.slice xs[i].B xs[i].l xs[i].d) := by
  obtain ⟨ad, e, hc⟩ := Rd.at_ h hi (by decide)
  exact ⟨ad, e, by have := hc 0 _ rfl; simpa [TxHK] using this⟩
/-- A list of texts of the call's own. -/
def OwT (lo : Nat) (w : World) (O : Option Addr) (c : Nat) (ts : List (List ByteArray)) (hs : List TxH) : Prop := hs.length = ts.length ∧ w.ownsRow lo 24 1 (.slice O ts.length c) ts.length (TxHK.row hs) ∧ ∀ i (h1 : i < hs.length) (h2 : i < ts.length), hs[i].l = ts[i].length ∧ ts[i].length ≤ hs[i].d ∧ w.ownsRow lo 9 1 (.slice hs[i].B ts[i].length hs[i].d) ts[i].length (strs ts[i])
theorem OwT.keep {lo : Nat} {w w' : World} {O : Option Addr} {c : Nat} {ts : List (List ByteArray)} {hs : List TxH} (h : OwT lo w O c ts hs) (hb : Below w.heap.size w w') : OwT lo w' O c ts hs :=
  ⟨h.1, own_keep h.2.1 hb, fun i h1 h2 => ⟨(h.2.2 i h1 h2).1, (h.2.2 i h1 h2).2.1, own_keep (h.2.2 i h1 h2).2.2 hb⟩⟩
theorem OwT.at_ {lo : Nat} {w : World} {O : Option Addr} {c : Nat} {ts : List (List ByteArray)} {hs : List TxH} (h : OwT lo w O c ts hs) {i : Nat} (hi : i < ts.length) : ∃ (g : Nat) (B : Option Addr) (d : Nat), O = some ⟨g, 0, none⟩ ∧ g < w.heap.size ∧ w.cell? ⟨g, i, none⟩ = some (.slice B ts[i].length d) ∧ ts[i].length ≤ d ∧ w.ownsRow lo 9 1 (.slice B ts[i].length d) ts[i].length (strs ts[i]) := by
  obtain ⟨h1, h2, h3⟩ := h
  obtain ⟨g, cap, hv, _, hgl⟩ := h2.form (by omega)
  obtain ⟨rfl, _, _⟩ : O = some ⟨g, 0, none⟩ ∧ ts.length = ts.length ∧ c = cap := by simpa using hv
  obtain ⟨ad, e, hc⟩ := txh_at (Cells.of_own h2) (show i < hs.length by omega)
  obtain rfl := Option.some.inj e
  rw [add_head] at hc
  obtain ⟨h4, h5, h6⟩ := h3 i (by omega) hi
  rw [h4] at hc
  exact ⟨g, _, _, rfl, hgl, hc, h5, h6⟩
theorem OwT.snoc {lo : Nat} {w w' : World} {O O' : Option Addr} {c c' : Nat} {ts : List (List ByteArray)} {hs : List TxH} {t : List ByteArray} {B : Option Addr} {d : Nat} (h : OwT lo w O c ts hs) (ho : w.ownsRow lo 9 1 (.slice B t.length d) t.length (strs t)) (hg : w.grownBy w' (Value.slice O ts.length c).ownBlock)
    (hn : w'.ownsRow lo 24 1 (.slice O' (ts.length + 1) c') (ts.length + 1) (TxHK.row hs ++ [.slice B t.length d])) : OwT lo w' O' c' (ts ++ [t]) (hs ++ [⟨B, t.length, d⟩]) := by
  refine ⟨by simp [h.1], ?_, fun i h1 h2 => ?_⟩
  · rw [List.length_append, TxHK.row_append]
    exact hn
  · rcases Nat.lt_or_ge i ts.length with h3 | h3
    · have h3' : i < hs.length := by rw [h.1]; exact h3
      rw [List.getElem_append_left h3', List.getElem_append_left h3]
      obtain ⟨h4, h5, h6⟩ := h.2.2 i h3' h3
      exact ⟨h4, h5, h6.kept hg (own_two h.2.1 h6 (by decide))⟩
    · have h4 : i = ts.length := by simp at h2; omega
      subst h4
      rw [List.getElem_append_right (by rw [h.1]; exact Nat.le_refl _), List.getElem_append_right (Nat.le_refl _)]
      simp only [h.1, Nat.sub_self, List.getElem_cons_zero]
      exact ⟨trivial, own_cap ho, ho.kept hg (own_two h.2.1 ho (by decide))⟩
theorem infoTx : (Tryz.prog.info? 24).map (fun i => (i.zero, i.size, i.bytes)) = some (some (.slice none 0 0), 1, 24) := by kernel_rfl
theorem elTx : ElT Tryz.prog 49 24 1 24 := ElT.mk' Tryz.underlying49 infoTx rfl (by omega) (by omega)
theorem chain_step {ss cur : List ByteArray} {ps : List Amd} {pre : List (List ByteArray)} {k : Nat} (h : k < ps.length) (hR : rebT ss ps = pre ++ rebT cur (ps.drop k)) (hf : fitsB cur ps[k] = true) : rebT ss ps = (pre ++ [cur]) ++ rebT (amdL cur ps[k]) (ps.drop (k + 1)) := by
  rw [hR, List.drop_eq_getElem_cons h, rebT, if_pos hf]; simp
theorem chain_stop {ss cur : List ByteArray} {ps : List Amd} {pre : List (List ByteArray)} {k : Nat} (h : k < ps.length) (hR : rebT ss ps = pre ++ rebT cur (ps.drop k)) (hf : fitsB cur ps[k] = false) : rebT ss ps = pre ++ [cur] := by
  rw [hR, List.drop_eq_getElem_cons h, rebT, if_neg (by rw [hf]; simp)]
theorem chain_end {ss cur : List ByteArray} {ps : List Amd} {pre : List (List ByteArray)} (hR : rebT ss ps = pre ++ rebT cur (ps.drop ps.length)) : rebT ss ps = pre ++ [cur] := by
  rw [hR, List.drop_length, rebT]
theorem own_one {w : World} {base : Nat} {E : TypeId} {v : Value} (hb : base ≤ w.heap.size) (h1 : v.oneCell' = true) : (w.alloc (.cells #[v] E)).ownsRow base E 1 (.slice (some ⟨w.heap.size, 0, none⟩) 1 1) 1 [v] :=
  World.ownsRow_lit w #[v] 1 hb (by unfold maxLen; omega) (by rfl)
end Go.Proofs.YtnnphhhjkhoglaaGreatDoor
