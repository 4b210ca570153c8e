/- The plain law of FnVotes: what the functions on votes compute answers as the law says. No program's step is here. Conditions: none. -/
import Derived.Test.YtjjjahfmgooobaaVt5
import Derived.Test.YtjjjahfmgooobaaVt2
namespace Go.Proofs.Ytjjjahfmgooobaa
open Go.RowKit Vt
set_option linter.unusedVariables false
def adopted2 (k y n a : Int) : Value := .tuple #[.bool (inB k 1 3 && vldT y n a && adB k y n), .bool (inB k 1 3 && vldT y n a)]
theorem adopted2_eq (k y n a : Int) : adoptedR k y n a = adopted2 k y n a := by
  unfold adoptedR adopted2
  rcases Bool.eq_false_or_eq_true (inB k 1 3 && vldT y n a) with h | h <;> rw [h] <;> rfl
theorem scan_some {p : Int → Bool} : ∀ {n : Nat} {k j : Int}, scan p k n = some j → k ≤ j ∧ p j = true ∧ ∀ i, k ≤ i → i < j → p i = false
  | 0, k, j, h => by simp [scan] at h
  | n + 1, k, j, h => by
    rw [scan] at h
    split at h
    · rename_i hp
      obtain rfl := Option.some.inj h
      exact ⟨Int.le_refl _, hp, fun i h1 h2 => by omega⟩
    · rename_i hp
      obtain ⟨h1, h2, h3⟩ := scan_some h
      refine ⟨by omega, h2, fun i h4 h5 => ?_⟩
      by_cases e : i = k
      · subst e; simpa using hp
      · exact h3 i (by omega) h5
theorem scanDown_some {p : Int → Bool} : ∀ {n : Nat} {k x : Int}, p x = true → x ≤ k → k - n < x → ∃ m, scanDown p k n = some m ∧ x ≤ m
  | 0, k, x, _, h1, h2 => by simp at h2; omega
  | n + 1, k, x, hp, h1, h2 => by
    rw [scanDown]
    split
    · exact ⟨k, rfl, h1⟩
    · rename_i hk
      have hne : x ≠ k := fun e => by subst e; exact hk hp
      exact scanDown_some hp (by omega) (by simp at h2; omega)
theorem needed_some {k no y : Int} (h : needed k no = some y) (hy : y ≤ 1000) : inB k 1 3 = true ∧ vldT y no 0 = true ∧ adB k y no = true ∧ (inB k 1 3 && vldT (y - 1) no 0 && adB k (y - 1) no) = false ∧ ∃ m, mostNo k y = some m ∧ no ≤ m := by
  unfold needed at h
  split at h
  · rename_i hc
    rw [Bool.and_eq_true] at hc
    obtain ⟨h1, h2, h3⟩ := scan_some h
    have hn := inB_iff.1 hc.2
    refine ⟨hc.1, vldT_iff.2 ⟨h1, hy, hn.1, hn.2, by omega, by omega⟩, h2, ?_, ?_⟩
    · by_cases h0 : y = 0
      · have : vldT (y - 1) no 0 = false := by
          rcases Bool.eq_false_or_eq_true (vldT (y - 1) no 0) with h4 | h4
          · have := vldT_iff.1 h4; omega
          · exact h4
        rw [this]; simp
      · rw [h3 (y - 1) (by omega) (by omega)]; simp
    · unfold mostNo
      rw [if_pos (by rw [hc.1, Bool.true_and]; exact inB_iff.2 ⟨h1, hy⟩)]
      refine scanDown_some h2 ?_ (by omega)
      rcases Int.lt_or_le y no with h4 | h4
      · have h5 := adB_above (k := k) h4
        rw [h5] at h2; cases h2
      · exact h4
  · cases h
theorem strict_law {k y n a : Int} (hk : inB k 1 3 = true) (hv : vldT y n a = true) : adB k y n = decide (k ≤ strict y n) := by
  have h1 := inB_iff.1 hk
  have h2 := vldT_iff.1 hv
  have hk3 : k = 1 ∨ k = 2 ∨ k = 3 := by omega
  rw [Bool.eq_iff_iff, decide_eq_true_eq]
  unfold strict
  rcases hk3 with rfl | rfl | rfl <;> simp only [adB] <;> simp <;> constructor <;> intro h <;> (repeat (first | split at h | split)) <;> first | omega | (simp_all; try omega)
theorem chair_law {k y n a : Int} (hm : (chairS k y n a && chairB k y n) = true) (ha : adB k y n = true) (hk : k = 1) : y = n + 1 := by
  subst hk
  unfold chairB at hm
  simp only [Bool.and_eq_true, Bool.not_eq_true'] at hm
  obtain ⟨_, h1, h2⟩ := hm
  simp [adB] at ha h1 h2
  omega
end Go.Proofs.Ytjjjahfmgooobaa
