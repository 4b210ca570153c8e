/- Documents read from their texts, in two ways: the same. No program is named here. Conditions: the ranges named. -/
import Derived.Test.YtajfbiihlfccnaaDoorDs4
import Derived.Test.YtajfbiihlfccnaaDoorPt2
namespace Go.Proofs.YtajfbiihlfccnaaDoor
open Go.Lib
set_option linter.unusedVariables false
/-! ### How deep a section lies -/
theorem upF_dep {xs : List Sec} (h : ∀ k, k < xs.length → 1 ≤ dAt xs k ∧ dAt xs k ≤ pdAt xs k + 1) {i : Nat} (hi : i < xs.length) : ∀ k, k ≤ i → (∀ j, k ≤ j → j ≤ i → dAt xs i ≤ dAt xs j) → (upF xs (dAt xs i) k < 0 → dAt xs i = 1) ∧ ∀ u : Nat, upF xs (dAt xs i) k = (u : Int) → dAt xs u = dAt xs i - 1
  | 0, hk, hj => by
    have h0 := hj 0 (Nat.le_refl _) (Nat.zero_le _)
    have h1 := h 0 (by omega)
    have h2 := h i hi
    rw [pdAt] at h1
    refine ⟨fun _ => by omega, fun u hu => ?_⟩
    rw [upF] at hu
    omega
  | k + 1, hk, hj => by
    rw [upF]
    have h1 := h (k + 1) (by omega)
    rw [pdAt] at h1
    have h2 := hj (k + 1) (Nat.le_refl _) hk
    by_cases c : dAt xs k < dAt xs i
    · rw [if_pos c]
      refine ⟨fun hc => by omega, fun u hu => ?_⟩
      obtain rfl : k = u := by omega
      omega
    · rw [if_neg c]
      exact upF_dep h hi k (by omega) (fun j h3 h4 => by
        rcases Nat.lt_or_ge k j with h5 | h5
        · exact hj j h5 h4
        · obtain rfl : k = j := by omega
          omega)
theorem doc_dep {xs : List Sec} (hd : docB xs = true) {k : Nat} (hk : k < xs.length) : 1 ≤ dAt xs k ∧ dAt xs k ≤ pdAt xs k + 1 ∧ dAt xs k ≤ 4 ∧ wordB (tAt xs k) = true := by
  unfold docB at hd
  rw [Bool.and_eq_true] at hd
  have h1 := allN_yes.1 hd.1 k hk
  unfold okSec at h1
  rw [Bool.and_eq_true] at h1
  have h2 := inB_iff.1 h1.1
  unfold mdAt at h2
  refine ⟨h2.1, ?_, ?_, h1.2⟩ <;> (split at h2 <;> omega)
theorem up_dep {xs : List Sec} (hd : docB xs = true) {i : Nat} (hi : i < xs.length) : (upN xs i < 0 → dAt xs i = 1) ∧ ∀ u : Nat, upN xs i = (u : Int) → dAt xs u = dAt xs i - 1 :=
  upF_dep (fun k hk => ⟨(doc_dep hd hk).1, (doc_dep hd hk).2.1⟩) hi i (Nat.le_refl _) (fun j h1 h2 => by
    obtain rfl : i = j := by omega
    omega)
/-! ### Cut texts -/
theorem spF_app {c : UInt8} : ∀ {a cur r : List UInt8}, spF c cur (a ++ c :: r) = spF c cur a ++ spF c [] r
  | [], cur, r => by rw [List.nil_append, spF]; simp [spF]
  | b :: t, cur, r => by
    rw [List.cons_append, spF, spF]
    split
    · rw [spF_app]; rfl
    · rw [spF_app]
theorem spl_lines {c : UInt8} : ∀ {ls : List (List UInt8)}, (∀ l ∈ ls, c ∉ l) → spl c ((ls.map (· ++ [c])).flatten) = ls ++ [[]]
  | [], _ => rfl
  | l :: ls, h => by
    have h1 := spl_lines (c := c) (ls := ls) (fun x hx => h x (List.mem_cons_of_mem _ hx))
    unfold spl at h1 ⊢
    rw [List.map_cons, List.flatten_cons, List.append_assoc, List.singleton_append, spF_hit (h l (List.mem_cons_self ..)), h1]
    rfl
/-- What stands behind the first space. -/
def tlW : List UInt8 → List UInt8
  | [] => []
  | b :: t => if b = 32 then t else tlW t
theorem tlW_hit : ∀ {a t : List UInt8}, (32 : UInt8) ∉ a → tlW (a ++ 32 :: t) = t
  | [], t, _ => by rw [List.nil_append, tlW, if_pos rfl]
  | b :: a, t, h => by
    have h1 : b ≠ 32 := fun e => h (by rw [e]; simp)
    rw [List.cons_append, tlW, if_neg h1]
    exact tlW_hit (fun h2 => h (List.mem_cons_of_mem _ h2))
/-! ### Numbers of sections -/
theorem dec_list (n : Nat) : (dec n).data.toList = decDigits n := by unfold dec; simp
theorem num_facts {xs : List Sec} (hd : docB xs = true) : ∀ i, i < xs.length → ((spl 46 (numS xs i).data.toList).length : Int) = dAt xs i ∧ (∀ b ∈ (numS xs i).data.toList, b = 46 ∨ (48 ≤ b.toNat ∧ b.toNat ≤ 57)) ∧ ((numS xs i).data.toList.length : Int) ≤ 3 * dAt xs i - 1 := by
  intro i
  induction i using Nat.strongRecOn with
  | _ i ih =>
    intro hi
    have h12 := (doc_yes hd).1
    have h1 := cntF_le (xs := xs) (i := i) (i + 1)
    have h2 : (decDigits (cntF xs i (i + 1))).length ≤ 2 := dec_len (k := 1) (by omega)
    have h46 : (46 : UInt8) ∉ decDigits (cntF xs i (i + 1)) := fun h => by
      have := dec_mem h
      simp at this
    have hs : spl 46 (decDigits (cntF xs i (i + 1))) = [decDigits (cntF xs i (i + 1))] := by unfold spl; rw [spF_no h46]; rfl
    obtain ⟨up1, up2⟩ := up_dep hd hi
    by_cases hu : upN xs i < 0
    · rw [numS_top hu, dec_list, hs, up1 hu]
      refine ⟨rfl, fun b hb => .inr (dec_mem hb), by omega⟩
    · obtain ⟨u, hu2⟩ : ∃ u : Nat, upN xs i = (u : Int) := ⟨(upN xs i).toNat, by omega⟩
      have h3 := upN_lt xs i
      obtain ⟨g1, g2, g3⟩ := ih u (by omega) (by omega)
      have h5 := up2 u hu2
      have e : (numS xs i).data.toList = (numS xs u).data.toList ++ 46 :: decDigits (cntF xs i (i + 1)) := by
        rw [numS_sub hu2, ByteArray.data_append, ByteArray.data_append, Array.toList_append, Array.toList_append, dec_list, List.append_assoc]
        rfl
      rw [e]
      refine ⟨?_, fun b hb => ?_, ?_⟩
      · unfold spl at g1 hs ⊢
        rw [spF_app, hs, List.length_append, List.length_singleton]
        omega
      · rcases List.mem_append.1 hb with h | h
        · exact g2 b h
        · rcases List.mem_cons.1 h with h | h
          · exact .inl h
          · exact .inr (dec_mem h)
      · rw [List.length_append, List.length_cons]
        omega
def lineL (xs : List Sec) (k : Nat) : List UInt8 := (numS xs k).data.toList ++ 32 :: (tAt xs k).data.toList
theorem word_mem {s : ByteArray} (h : wordB s = true) {b : UInt8} (hb : b ∈ s.data.toList) : 97 ≤ b.toNat := by
  unfold wordB lettersB at h
  rw [Bool.and_eq_true, List.all_eq_true] at h
  have := h.1 b hb
  unfold letterB at this
  simp only [Bool.and_eq_true, decide_eq_true_eq] at this
  exact this.1
theorem not_num {xs : List Sec} (hd : docB xs = true) {i : Nat} (hi : i < xs.length) {b : UInt8} (h : b.toNat < 46) : b ∉ (numS xs i).data.toList := fun hb => by
  rcases (num_facts hd i hi).2.1 b hb with h1 | h1
  · rw [h1] at h; simp at h
  · omega
theorem not_word {s : ByteArray} (hw : wordB s = true) {b : UInt8} (h : b.toNat < 97) : b ∉ s.data.toList := fun hb => by
  have := word_mem hw hb
  omega
theorem txF_list (xs : List Sec) : ∀ k, (txF xs k).data.toList = (((List.range k).map (lineL xs)).map (· ++ [10])).flatten
  | 0 => rfl
  | k + 1 => by
    rw [txF, List.range_succ, List.map_append, List.map_append, List.flatten_append, ← txF_list xs k, ByteArray.data_append, Array.toList_append]
    congr 1
    rw [ByteArray.data_append, Array.toList_append, ByteArray.data_append, Array.toList_append, ByteArray.data_append, Array.toList_append]
    unfold lineL
    simp [spB, nlB]
def secI (l : List UInt8) : Sec := ⟨((spl 46 ((spl 32 l).getD 0 [])).length : Int), bar (tlW l)⟩
def secW (l : List UInt8) : Sec := ⟨((spl 46 ((spl 32 l).getD 0 [])).length : Int), bar ((spl 32 l).getD 1 [])⟩
theorem bar_self (s : ByteArray) : bar s.data.toList = s := by unfold bar; simp
theorem sec_line {xs : List Sec} (hd : docB xs = true) {k : Nat} (hk : k < xs.length) : spl 32 (lineL xs k) = [(numS xs k).data.toList, (tAt xs k).data.toList] ∧ secI (lineL xs k) = xs[k] ∧ secW (lineL xs k) = xs[k] := by
  have h1 := not_num hd hk (b := 32) (by decide)
  have h2 := not_word (doc_dep hd hk).2.2.2 (b := 32) (by decide)
  have h3 : spl 32 (lineL xs k) = [(numS xs k).data.toList, (tAt xs k).data.toList] := by
    unfold spl lineL
    rw [spF_hit h1, spF_no h2]
    rfl
  have h4 := (num_facts hd k hk).1
  have h5 : (⟨dAt xs k, tAt xs k⟩ : Sec) = xs[k] := by rw [← dAt_at hk, ← tAt_at hk]
  refine ⟨h3, ?_, ?_⟩
  · unfold secI
    rw [h3, ← h5]
    show Sec.mk ((spl 46 (numS xs k).data.toList).length : Int) (bar (tlW (lineL xs k))) = _
    rw [h4]
    unfold lineL
    rw [tlW_hit h1, bar_self]
  · unfold secW
    rw [h3, ← h5]
    show Sec.mk ((spl 46 (numS xs k).data.toList).length : Int) (bar (tAt xs k).data.toList) = _
    rw [h4, bar_self]
theorem tx_lines {xs : List Sec} (hd : docB xs = true) : spl 10 (txF xs xs.length).data.toList = (List.range xs.length).map (lineL xs) ++ [[]] := by
  rw [txF_list]
  refine spl_lines fun l hl => ?_
  obtain ⟨k, hk, rfl⟩ := List.mem_map.1 hl
  have hk := List.mem_range.1 hk
  unfold lineL
  intro h
  rcases List.mem_append.1 h with h | h
  · exact not_num hd hk (b := 10) (by decide) h
  · rcases List.mem_cons.1 h with h | h
    · simp at h
    · exact not_word (doc_dep hd hk).2.2.2 (b := 10) (by decide) h
theorem line_len {xs : List Sec} (hd : docB xs = true) {k : Nat} (hk : k < xs.length) : (lineL xs k).length ≤ 22 := by
  have h1 := (num_facts hd k hk).2.2
  obtain ⟨h2, h3, h4, h5⟩ := doc_dep hd hk
  have h6 := word_size h5
  have h7 : (tAt xs k).data.toList.length = (tAt xs k).size := Array.length_toList
  unfold lineL
  rw [List.length_append, List.length_cons]
  omega
theorem lines_len {xs : List Sec} (hd : docB xs = true) : ∀ k, k ≤ xs.length → (txF xs k).data.toList.length ≤ 23 * k
  | 0, _ => by simp [txF]
  | k + 1, h => by
    have h1 := lines_len hd k (by omega)
    have h2 := line_len hd (k := k) (by omega)
    rw [txF_list] at h1 ⊢
    rw [List.range_succ, List.map_append, List.map_append, List.flatten_append, List.length_append]
    simp only [List.map_cons, List.map_nil, List.flatten_cons, List.flatten_nil, List.append_nil, List.length_append, List.length_singleton]
    omega
theorem map_lines {xs : List Sec} {f : List UInt8 → Sec} (h : ∀ k (hk : k < xs.length), f (lineL xs k) = xs[k]) : ((List.range xs.length).map (lineL xs)).map f = xs := by
  refine List.ext_getElem (by simp) fun i h1 h2 => ?_
  simp only [List.getElem_map, List.getElem_range]
  exact h i h2
/-! ### Both ways of reading -/
def finD (l : List UInt8) (out : List Sec) : Option (List Sec) := if docB out = true ∧ (txF out out.length).data.toList = l then some out else none
def dpI (l : List UInt8) : Option (List Sec) := if 13 < (spl 10 l).length then none else finD l ((spl 10 l).dropLast.map secI)
def twoW (x : List UInt8) : Bool := (spl 32 x).length == 2
def dpS (l : List UInt8) : Option (List Sec) := if 300 < l.length ∨ (spl 10 l).getLast? ≠ some [] then none else if (spl 10 l).dropLast.all twoW = true then finD l ((spl 10 l).dropLast.map secW) else none
theorem dp_yes {xs : List Sec} (hd : docB xs = true) : dpI (txF xs xs.length).data.toList = some xs ∧ dpS (txF xs xs.length).data.toList = some xs := by
  have h12 := (doc_yes hd).1
  have hl := lines_len hd xs.length (Nat.le_refl _)
  have hf : finD (txF xs xs.length).data.toList xs = some xs := by unfold finD; rw [if_pos ⟨hd, rfl⟩]
  refine ⟨?_, ?_⟩
  · unfold dpI
    rw [tx_lines hd, if_neg (by simp; omega), List.dropLast_concat, map_lines (fun k hk => (sec_line hd hk).2.1)]
    exact hf
  · unfold dpS
    rw [tx_lines hd, if_neg (by rw [List.getLast?_concat]; intro h; rcases h with h | h; · omega
                                · exact h rfl), List.dropLast_concat, if_pos, map_lines (fun k hk => (sec_line hd hk).2.2)]
    · exact hf
    · rw [List.all_eq_true]
      intro x hx
      obtain ⟨k, hk, rfl⟩ := List.mem_map.1 hx
      unfold twoW
      rw [(sec_line hd (List.mem_range.1 hk)).1]
      rfl
theorem finD_no {l : List UInt8} (h : ¬ ∃ xs : List Sec, docB xs = true ∧ (txF xs xs.length).data.toList = l) (out : List Sec) : finD l out = none := by
  unfold finD
  rw [if_neg]
  exact fun hc => h ⟨out, hc⟩
/-- Both ways of reading agree. -/
theorem dp_same (l : List UInt8) : dpI l = dpS l := by
  by_cases h : ∃ xs : List Sec, docB xs = true ∧ (txF xs xs.length).data.toList = l
  · obtain ⟨xs, hd, rfl⟩ := h
    rw [(dp_yes hd).1, (dp_yes hd).2]
  · unfold dpI dpS
    rw [finD_no h, finD_no h]
    simp
theorem dp_text {l : List UInt8} {xs : List Sec} (h : dpI l = some xs) : docB xs = true ∧ (txF xs xs.length).data.toList = l := by
  by_cases c : ∃ xs : List Sec, docB xs = true ∧ (txF xs xs.length).data.toList = l
  · obtain ⟨ys, hd, rfl⟩ := c
    rw [(dp_yes hd).1] at h
    injection h with h
    subst h
    exact ⟨hd, rfl⟩
  · unfold dpI at h
    rw [finD_no c] at h
    simp at h
end Go.Proofs.YtajfbiihlfccnaaDoor
