/- The line of an amendment, as data. No program's step is here. Conditions: none. -/
import Derived.Test.YtnnphhhjkhoglaaDoorAmd2
import Derived.Test.YtnnphhhjkhoglaaDoorNm1
import Derived.Lib.Join
namespace Go.Proofs.YtnnphhhjkhoglaaDoor
set_option linter.unusedVariables false
def colB : ByteArray := ⟨#[58]⟩
def spB : ByteArray := ⟨#[32]⟩
def atB : ByteArray := ⟨#[32, 97, 116, 32]⟩
def joinB (ws : List ByteArray) : ByteArray := ⟨(Go.Lib.join (ws.map (·.data.toList)) [32]).toArray⟩
/-- The words of a line, each behind a space, a colon ahead of the first one. -/
def wlF (ws : List ByteArray) : Nat → ByteArray
  | 0 => ByteArray.empty
  | k + 1 => wlF ws k ++ (if k = 0 then colB else ByteArray.empty) ++ spB ++ ws.getD k ByteArray.empty
theorem bytes_ext {a b : ByteArray} (h : a.data.toList = b.data.toList) : a = b := ByteArray.ext (Array.ext' h)
theorem wlF_list (ws : List ByteArray) : ∀ k, k ≤ ws.length → (wlF ws k).data.toList = if k = 0 then [] else 58 :: ((ws.take k).map (fun w => 32 :: w.data.toList)).flatten
  | 0, _ => by simp [wlF]
  | k + 1, h => by
    have ih := wlF_list ws k (by omega)
    have e1 : (ws.take (k + 1)) = ws.take k ++ [ws.getD k ByteArray.empty] := by
      rw [List.take_add_one, List.getD_eq_getElem?_getD, List.getElem?_eq_getElem (show k < ws.length by omega)]; rfl
    have e2 : ∀ X : List UInt8, (if k + 1 = 0 then [] else X) = X := fun X => if_neg (by omega)
    rw [e2, e1, List.map_append, List.flatten_append, wlF]
    simp only [ByteArray.data_append, Array.toList_append]
    rw [ih]
    by_cases hk : k = 0
    · subst hk
      simp only [if_pos, List.take_zero, List.map_nil, List.flatten_nil, List.nil_append, List.map_cons, List.flatten_cons, List.append_nil]
      rfl
    · rw [if_neg hk, if_neg hk]
      simp only [List.map_cons, List.map_nil, List.flatten_cons, List.flatten_nil, List.append_nil, List.cons_append]
      show _ :: (_ ++ [] ++ [32] ++ _) = _
      simp
theorem wl_join {ws : List ByteArray} (h : 0 < ws.length) : wlF ws ws.length = (⟨#[58, 32]⟩ : ByteArray) ++ joinB ws := by
  apply bytes_ext
  rw [wlF_list ws ws.length (Nat.le_refl _), if_neg (by omega), List.take_length]
  cases ws with
  | nil => simp at h
  | cons x r =>
    simp only [ByteArray.data_append, Array.toList_append, joinB, List.map_cons]
    rw [Go.Lib.join_cons]
    simp [Go.Lib.joinTail]
    rfl
theorem join_size {ws : List ByteArray} (hw : ws.length ≤ 5) (h : ∀ w ∈ ws, w.size ≤ 10) : (joinB ws).size ≤ 60 := by
  have h1 : ∀ (ws : List ByteArray), (∀ w ∈ ws, w.size ≤ 10) → (Go.Lib.joinTail [32] (ws.map (·.data.toList))).length ≤ 11 * ws.length := by
    intro ws
    induction ws with
    | nil => intro _; simp [Go.Lib.joinTail]
    | cons x r ih =>
      intro hw
      have h2 := ih fun w hw2 => hw w (List.mem_cons_of_mem _ hw2)
      have h3 := hw x List.mem_cons_self
      have h4 : x.data.toList.length = x.size := Array.length_toList
      simp only [Go.Lib.joinTail, List.map_cons, List.flatten_cons, List.length_append] at h2 ⊢
      simp only [List.length_cons, List.length_nil] at h2 ⊢
      omega
  cases ws with
  | nil => exact Nat.zero_le _
  | cons x r =>
    have h2 := h1 r fun w hw2 => h w (List.mem_cons_of_mem _ hw2)
    have h3 := h x List.mem_cons_self
    have h4 : x.data.toList.length = x.size := Array.length_toList
    have h5 : (joinB (x :: r)).size = (x.data.toList ++ Go.Lib.joinTail [32] (r.map (·.data.toList))).length := by
      unfold joinB ByteArray.size
      rw [List.map_cons, Go.Lib.join_cons]
      simp
    rw [h5, List.length_append]
    simp only [List.length_cons] at hw
    omega
/-- What a line begins with. -/
def headS (k : Int) (n : Nat) : ByteArray := if k = 1 then ⟨#[105, 110, 115, 101, 114, 116]⟩ else if k = 2 then (⟨#[115, 116, 114, 105, 107, 101, 32]⟩ : ByteArray) ++ dec n else (⟨#[114, 101, 112, 108, 97, 99, 101, 32]⟩ : ByteArray) ++ dec n
def preS (a : Amd) : ByteArray := headS a.k a.n.toNat ++ atB ++ dec a.p.toNat
def aline (a : Amd) : ByteArray := preS a ++ wlF a.ws a.ws.length
def alS (a : Amd) : ByteArray := if vldA a = true then aline a else ByteArray.empty
theorem words_of {ss : List ByteArray} {lo hi : Int} (h : wordsB ss lo hi = true) : lo ≤ ss.length ∧ (ss.length : Int) ≤ hi ∧ ∀ w ∈ ss, w.size ≤ 10 := by
  unfold wordsB at h
  rw [Bool.and_eq_true, List.all_eq_true] at h
  have h1 := inB_iff.1 h.1
  refine ⟨h1.1, h1.2, fun w hw => ?_⟩
  have h2 := h.2 w hw
  unfold wordB at h2
  rw [Bool.and_eq_true] at h2
  have := inB_iff.1 h2.2
  omega
theorem vldA_parts {a : Amd} (h : vldA a = true) : 0 ≤ a.p ∧ a.p ≤ 20 ∧ ((a.k = 1 ∧ a.n = 0 ∧ 1 ≤ a.ws.length) ∨ (a.k = 2 ∧ 1 ≤ a.n ∧ a.n ≤ 5 ∧ a.ws.length = 0) ∨ (a.k = 3 ∧ 1 ≤ a.n ∧ a.n ≤ 5 ∧ 1 ≤ a.ws.length)) ∧ a.ws.length ≤ 5 ∧ ∀ w ∈ a.ws, w.size ≤ 10 := by
  unfold vldA at h
  rw [Bool.and_eq_true] at h
  have hp := inB_iff.1 h.1
  have h := h.2
  by_cases k1 : a.k = 1
  · rw [if_pos k1, Bool.and_eq_true] at h
    obtain ⟨w1, w2, w3⟩ := words_of h.2
    exact ⟨hp.1, hp.2, .inl ⟨k1, by simpa using h.1, by omega⟩, by omega, w3⟩
  · rw [if_neg k1] at h
    by_cases k2 : a.k = 2
    · rw [if_pos k2, Bool.and_eq_true] at h
      have hn := inB_iff.1 h.1
      have hl : a.ws.length = 0 := by have := h.2; simp at this; simp [this]
      exact ⟨hp.1, hp.2, .inr (.inl ⟨k2, hn.1, hn.2, hl⟩), by omega, fun w hw => by rw [List.eq_nil_of_length_eq_zero hl] at hw; cases hw⟩
    · rw [if_neg k2] at h
      by_cases k3 : a.k = 3
      · rw [if_pos k3, Bool.and_eq_true] at h
        have hn := inB_iff.1 h.1
        obtain ⟨w1, w2, w3⟩ := words_of h.2
        exact ⟨hp.1, hp.2, .inr (.inr ⟨k3, hn.1, hn.2, by omega⟩), by omega, w3⟩
      · rw [if_neg k3] at h; cases h
end Go.Proofs.YtnnphhhjkhoglaaDoor
