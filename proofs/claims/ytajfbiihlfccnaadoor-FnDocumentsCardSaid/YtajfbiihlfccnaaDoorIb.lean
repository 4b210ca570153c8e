/- Rows of a call's own, written many cells at once; copy of elements of several cells. No program is named here. Conditions: the ranges named. -/
import Derived.Test.YtajfbiihlfccnaaDoorApc
import Derived.Laws.IdiomCopy
import Derived.Lib.Overlaps
namespace Go.Proofs.YtajfbiihlfccnaaDoor
open Go.RowKit
set_option linter.unusedVariables false
theorem run_copy_k {P : Program} (w : World) (dT sT ty elem : TypeId) (k b o dLen dCap : Nat) (a : Addr) (sLen sCap : Nat) (cs : List Value)
    (hu : P.underlying dT = some (.slice elem)) (hs : (P.info? elem).map (·.size) = some k) (hn : cs.length = Nat.min sLen dLen * k)
    (hsrc : ∀ j v, cs[j]? = some v → w.cell? (a.add j) = some v) (hc : ∀ j, j < cs.length → (w.cell? ⟨b, o + j, none⟩).isSome = true) (hf : ∀ j, j < cs.length → w.frozen? ⟨b, o + j, none⟩ = false) (h1 : ∀ v ∈ cs, v.oneCell' = true) :
    (Builtin.copy_ #[dT, sT] ty #[.slice (some ⟨b, o, none⟩) dLen dCap, .slice (some a) sLen sCap]).run P w = .ok (goInt (Nat.min sLen dLen)) (w.setCells b o cs) := by
  have hl := run_loadCells_list (P := P) w a cs hsrc
  have hst := run_storeCells_cells (P := P) b o cs 0 w (by simpa using hc) (by simpa using hf) h1
  cases hq : P.info? elem with
  | none => simp [hq] at hs
  | some i =>
    have hi : i.size = k := by simpa [hq] using hs
    obtain ⟨m, hm⟩ : ∃ m, m = Nat.min sLen dLen := ⟨_, rfl⟩
    rw [← hm] at hn ⊢
    simp [Builtin.copy_, run_underlying hu, Builtin.lenOf, Builtin.firstCells, sizeOf, typeInfo, hq, hi, ← hm, ← hn, hl, hst]
section
variable {w : World} {base e size n cap g : Nat} {xs : List Value}
/-- All cells of an own row, the spare ones too. -/
theorem own_full (h : w.ownsRow base e size (.slice (some ⟨g, 0, none⟩) n cap) n xs) : ∃ ys : List Value, ys.length = (cap - n) * size ∧ n ≤ cap ∧ cap ≤ maxLen ∧ w.shape? g = some (e, cap * size) ∧ w.ownsRow base e size (.slice (some ⟨g, 0, none⟩) cap cap) cap (xs ++ ys) := by
  obtain ⟨hl, h | ⟨g', cap', cur, hv, hb, hg, hn, hc, hs, ht⟩⟩ := h
  · simp at h
  · simp only [Value.slice.injEq, Option.some.injEq, Addr.mk.injEq, and_true, true_and] at hv
    obtain ⟨rfl, rfl⟩ := hv
    have hle : n * size ≤ cap * size := Nat.mul_le_mul_right _ hn
    have hsub : (cap - n) * size = cap * size - n * size := by rw [Nat.sub_mul]
    refine ⟨cur.toList.drop (n * size), by simp [hs, hsub], hn, hc, by simp [World.shape?, hg, hs], ?_⟩
    have hj : xs ++ cur.toList.drop (n * size) = cur.toList := by rw [← ht, List.take_append_drop]
    rw [hj]
    exact ⟨by simp [hs], .inr ⟨g, cap, cur, rfl, hb, hg, Nat.le_refl _, hc, hs, List.take_of_length_le (by simp [hs])⟩⟩
/-- Many cells stored. -/
theorem own_setCells (vs : List Value) : ∀ {w : World} {xs : List Value} (o : Nat), w.ownsRow base e size (.slice (some ⟨g, 0, none⟩) n cap) n xs → (w.setCells g o vs).ownsRow base e size (.slice (some ⟨g, 0, none⟩) n cap) n (setL xs o vs) ∧ w.grownBy (w.setCells g o vs) (some g) := by
  induction vs with
  | nil => intro w xs o h; exact ⟨h, World.grownBy.refl w _⟩
  | cons v vs ih =>
    intro w xs o h
    have h1 := h.stored o v
    have h2 := ih (o + 1) h1.1
    exact ⟨h2.1, grownBy_trans h1.2 h2.2⟩
theorem own_less {m : Nat} (h : w.ownsRow base e size (.slice (some ⟨g, 0, none⟩) n cap) n xs) (hm : m ≤ n) : w.ownsRow base e size (.slice (some ⟨g, 0, none⟩) m cap) m (xs.take (m * size)) := by
  obtain ⟨hl, h | ⟨g', cap', cur, hv, hb, hg, hn, hc, hs, ht⟩⟩ := h
  · simp at h
  · simp only [Value.slice.injEq, Option.some.injEq, Addr.mk.injEq, and_true, true_and] at hv
    obtain ⟨rfl, rfl⟩ := hv
    have hmm : m * size ≤ n * size := Nat.mul_le_mul_right _ hm
    exact ⟨by rw [List.length_take, hl]; omega, .inr ⟨g, cap, cur, rfl, hb, hg, by omega, hc, hs, by rw [← ht, List.take_take]; congr 1; omega⟩⟩
end
theorem split_at {α : Type} (l : List α) (n : Nat) (h : n ≤ l.length) : ∃ a b, l = a ++ b ∧ a.length = n ∧ b.length = l.length - n := ⟨l.take n, l.drop n, (List.take_append_drop n l).symm, by simp; omega, by simp⟩
/-- What stands behind a place moves up by one element, which takes another's cells: the two copies of an insertion in place. -/
theorem shift_cells (P R Y X : List Value) (hY : X.length ≤ Y.length) : ((setL (setL (P ++ R ++ Y) (P.length + X.length) R) P.length X).take (P.length + X.length + R.length)) = P ++ X ++ R := by
  obtain ⟨L1, L2, hL, h1, h2⟩ := split_at (R ++ Y) X.length (by simp; omega)
  obtain ⟨M1, M2, hM, h3, h4⟩ := split_at L2 R.length (by rw [h2]; simp; omega)
  have e1 : P ++ R ++ Y = (P ++ L1) ++ (M1 ++ M2) := by rw [List.append_assoc, hL, hM, List.append_assoc]
  rw [e1, show P.length + X.length = (P ++ L1).length by simp [h1], setL_append (P ++ L1) M1 R h3 M2, List.append_assoc P L1, setL_append P L1 X h1 (R ++ M2)]
  rw [show (P ++ L1).length + R.length = (P ++ X ++ R).length by simp [h1]; omega, ← List.append_assoc, ← List.append_assoc]
  exact List.take_left' rfl
/-- An element and what stood behind it go into a row of zeros. -/
theorem fill_cells (P R Z X : List Value) (hZ : X.length + R.length ≤ Z.length) : ((setL (setL (P ++ Z) P.length X) (P.length + X.length) R).take (P.length + X.length + R.length)) = P ++ X ++ R := by
  obtain ⟨L1, L2, hL, h1, h2⟩ := split_at Z X.length (by omega)
  obtain ⟨M1, M2, hM, h3, h4⟩ := split_at L2 R.length (by rw [h2]; omega)
  rw [hL, setL_append P L1 X h1 L2, hM, ← List.append_assoc, show P.length + X.length = (P ++ X).length by simp, setL_append (P ++ X) M1 R h3 M2]
  rw [show (P ++ X).length + R.length = (P ++ X ++ R).length by simp; omega, ← List.append_assoc]
  exact List.take_left' rfl
end Go.Proofs.YtajfbiihlfccnaaDoor
