/- Texts cut at the first separator, joined words, dots counted. No program is named here. Conditions: none. -/
import Derived.Lib.CutLaws
import Derived.Lib.CountLaws
import Derived.Lib.Join
import Derived.Test.YtnnphhhjkhoglaaDoorPt0
namespace Go.Proofs.YtnnphhhjkhoglaaDoor
open Go.Lib
set_option linter.unusedVariables false
theorem index2 (r : List UInt8) : ∀ {h : List UInt8}, (58 : UInt8) ∉ h → index (h ++ 58 :: 32 :: r) [58, 32] = (h.length : Int)
  | [], _ => by rw [List.nil_append]; unfold index; simp [List.isPrefixOf]
  | b :: t, hn => by
    have h1 : ¬ b = 58 := fun e => hn (by rw [e]; simp)
    have ih := index2 r (h := t) (fun h2 => hn (List.mem_cons_of_mem _ h2))
    have h3 : List.isPrefixOf [58, 32] (b :: (t ++ 58 :: 32 :: r)) = false := by simp [List.isPrefixOf]; intro e; exact absurd e.symm h1
    have h4 : ((t.length : Int) == -1) = false := by rw [beq_eq_false_iff_ne]; omega
    rw [List.cons_append]
    unfold index
    rw [h3, ih, h4]
    simp
theorem index0 (c : UInt8) (sub : List UInt8) : ∀ {h : List UInt8}, c ∉ h → index h (c :: sub) = -1
  | [], _ => rfl
  | b :: t, hn => by
    have h1 : ¬ b = c := fun e => hn (by rw [e]; simp)
    have ih := index0 c sub (h := t) (fun h2 => hn (List.mem_cons_of_mem _ h2))
    have h3 : List.isPrefixOf (c :: sub) (b :: t) = false := by simp [List.isPrefixOf]; intro e; exact absurd e.symm h1
    unfold index
    rw [h3, ih]
    rfl
theorem index1 (c : UInt8) (r : List UInt8) : ∀ {h : List UInt8}, c ∉ h → index (h ++ c :: r) [c] = (h.length : Int)
  | [], _ => by rw [List.nil_append]; unfold index; simp [List.isPrefixOf]
  | b :: t, hn => by
    have h1 : ¬ b = c := fun e => hn (by rw [e]; simp)
    have ih := index1 c r (h := t) (fun h2 => hn (List.mem_cons_of_mem _ h2))
    have h3 : List.isPrefixOf [c] (b :: (t ++ c :: r)) = false := by simp [List.isPrefixOf]; intro e; exact absurd e.symm h1
    have h4 : ((t.length : Int) == -1) = false := by rw [beq_eq_false_iff_ne]; omega
    rw [List.cons_append]
    unfold index
    rw [h3, ih, h4]
    simp
theorem cut2 {h r : List UInt8} (hn : (58 : UInt8) ∉ h) : cut (h ++ 58 :: 32 :: r) [58, 32] = (h, r, true) := by
  unfold cut
  rw [index2 r hn, if_pos (by omega), show ((h.length : Nat) : Int).toNat = h.length by omega]
  simp
theorem cut0 {c : UInt8} {sub h : List UInt8} (hn : c ∉ h) : cut h (c :: sub) = (h, [], false) := by
  unfold cut
  rw [index0 c sub hn, if_neg (by omega)]
theorem cut1 {c : UInt8} {h r : List UInt8} (hn : c ∉ h) : cut (h ++ c :: r) [c] = (h, r, true) := by
  unfold cut
  rw [index1 c r hn, if_pos (by omega), show ((h.length : Nat) : Int).toNat = h.length by omega]
  simp
theorem first_of {c : UInt8} {l : List UInt8} (h : c ∈ l) : ∃ a r, l = a ++ c :: r ∧ c ∉ a := by
  obtain ⟨a, r, e, hn⟩ := List.eq_append_cons_of_mem h
  exact ⟨a, r, e, hn⟩
theorem join_no {x : List UInt8} {r : List (List UInt8)} (h : (32 : UInt8) ∉ x) (hr : ∀ y ∈ r, (32 : UInt8) ∉ y) : spl 32 (x ++ joinTail [32] r) = x :: r := by
  induction r generalizing x with
  | nil =>
    unfold spl joinTail
    rw [List.map_nil, List.flatten_nil, List.append_nil, spF_no h]
    rfl
  | cons y r ih =>
    have h1 := ih (hr y List.mem_cons_self) (fun z hz => hr z (List.mem_cons_of_mem _ hz))
    have e : x ++ joinTail [32] (y :: r) = x ++ 32 :: (y ++ joinTail [32] r) := by
      unfold joinTail
      rw [List.map_cons, List.flatten_cons]
      simp
    unfold spl at h1 ⊢
    rw [e, spF_hit h, h1]
    rfl
theorem spl_count (c : UInt8) : ∀ (n : Nat) (l : List UInt8), l.length ≤ n → (spl c l).length = count l [c] + 1 := by
  intro n
  induction n with
  | zero =>
    intro l hl
    obtain rfl : l = [] := List.eq_nil_of_length_eq_zero (by omega)
    rfl
  | succ n ih =>
    intro l hl
    by_cases hm : c ∈ l
    · obtain ⟨a, r, rfl, hn⟩ := first_of hm
      rw [List.length_append, List.length_cons] at hl
      have h1 := ih r (by omega)
      have h2 := count_hit (s := a ++ c :: r) (sub := [c]) (by simp) (index1 c r hn)
      rw [h2]
      unfold spl at h1 ⊢
      rw [spF_hit hn, List.length_cons, h1]
      simp
      omega
    · rw [count_miss (index0 c [] hm)]
      unfold spl
      rw [spF_no hm]
      rfl
end Go.Proofs.YtnnphhhjkhoglaaDoor
