/- Shares of a floor, one of them set; what the program returns that yields the floor or speaks: plain Lean. No program is named here. Conditions: none. -/
import Derived.Test.YtbpikbcnpmplfaaFlG
namespace Go.Proofs.Ytbpikbcnpmplfaa
open Go.RowKit
set_option linter.unusedVariables false
/-- How many shares at the head belong to smaller members. -/
def cntS (m : Int) : List Shr → Nat
  | [] => 0
  | y :: l => if y.m < m then cntS m l + 1 else 0
theorem cntS_le (m : Int) : ∀ l : List Shr, cntS m l ≤ l.length
  | [] => Nat.le_refl _
  | y :: l => by
    rw [cntS]
    split
    · have := cntS_le m l; simp; omega
    · exact Nat.zero_le _
theorem cntS_yes {m : Int} {l : List Shr} {k : Nat} (h : k < l.length) (hl : l[k].m < m) : k + cntS m (l.drop k) = (k + 1) + cntS m (l.drop (k + 1)) := by
  rw [List.drop_eq_getElem_cons h, cntS, if_pos hl]; omega
theorem cntS_no {m : Int} {l : List Shr} {k : Nat} (h : k < l.length) (hl : ¬ l[k].m < m) : k + cntS m (l.drop k) = k := by
  rw [List.drop_eq_getElem_cons h, cntS, if_neg hl]; omega
theorem cntS_end {m : Int} {l : List Shr} : l.length + cntS m (l.drop l.length) = l.length := by simp [cntS]
def noShr : Shr := ⟨0, 0, 0⟩
/-- Whether the member has a share at its place. -/
def hitS (x : Shr) (l : List Shr) : Bool := decide (cntS x.m l < l.length) && (l.getD (cntS x.m l) noShr).m == x.m
/-- The shares with one of them set. -/
def putS (x : Shr) (l : List Shr) : List Shr := l.take (cntS x.m l) ++ x :: l.drop (if hitS x l then cntS x.m l + 1 else cntS x.m l)
theorem putS_hit {x : Shr} {l : List Shr} {k : Nat} (hk : cntS x.m l = k) (h : k < l.length) (he : l[k].m = x.m) : putS x l = l.take k ++ x :: l.drop (k + 1) ∧ (putS x l).length = l.length := by
  have h1 : hitS x l = true := by unfold hitS; rw [hk, getD_lt h, decide_eq_true h, he]; simp
  have h2 : putS x l = l.take k ++ x :: l.drop (k + 1) := by unfold putS; rw [h1, hk]; rfl
  exact ⟨h2, by rw [h2]; simp; omega⟩
theorem putS_new {x : Shr} {l : List Shr} {k : Nat} (hk : cntS x.m l = k) (hl : k ≤ l.length) (he : ∀ h : k < l.length, l[k].m ≠ x.m) : putS x l = l.take k ++ x :: l.drop k ∧ (putS x l).length = l.length + 1 := by
  have h1 : hitS x l = false := by
    unfold hitS
    rw [hk]
    by_cases h : k < l.length
    · rw [getD_lt h]; simp [he h]
    · simp [h]
  have h2 : putS x l = l.take k ++ x :: l.drop k := by unfold putS; rw [h1, hk]; rfl
  exact ⟨h2, by rw [h2]; simp; omega⟩
theorem putS_len (x : Shr) (l : List Shr) : (putS x l).length ≤ l.length + 1 := by
  have h := cntS_le x.m l
  unfold putS
  split <;> simp <;> omega
theorem set_at {l : List Shr} {k : Nat} (h : k < l.length) (x : Shr) : l.set k x = l.take k ++ x :: l.drop (k + 1) := by
  rw [List.set_eq_take_append_cons_drop, if_pos h]
/-- The floor behind a turn that is finished. -/
def yieF (f : Flr) : Flr := ⟨f.t, f.s, 0, f.wt, putS ⟨(shOf f.sp f.sh).m, (shOf f.sp f.sh).t + 1, (shOf f.sp f.sh).s⟩ f.sh⟩
def yfB (f : Flr) : Bool := vldF f && !(f.sp == 0)
def yfF (f : Flr) : Flr := if yfB f then yieF f else ⟨0, 0, 0, [], []⟩
/-- How long one speaks. -/
def spkN (f : Flr) (k : Int) : Int := if k < f.s - (shOf f.sp f.sh).s then k else f.s - (shOf f.sp f.sh).s
def spkG (f : Flr) (k : Int) : Flr := ⟨f.t, f.s, f.sp, f.wt, putS ⟨(shOf f.sp f.sh).m, (shOf f.sp f.sh).t, (shOf f.sp f.sh).s + spkN f k⟩ f.sh⟩
def sfB (f : Flr) (k : Int) : Bool := vldF f && !(f.sp == 0) && inB k 1 3600
def sfF (f : Flr) (k : Int) : Flr := if sfB f k then (if (shOf f.sp f.sh).s + spkN f k = f.s then yieF (spkG f k) else spkG f k) else ⟨0, 0, 0, [], []⟩
def sfN (f : Flr) (k : Int) : Int := if sfB f k then spkN f k else 0
theorem putS_mem {x y : Shr} {l : List Shr} (h : y ∈ putS x l) : y = x ∨ y ∈ l := by
  unfold putS at h
  rcases List.mem_append.1 h with h | h
  · exact .inr (List.mem_of_mem_take h)
  · rcases List.mem_cons.1 h with h | h
    · exact .inl h
    · exact .inr (List.mem_of_mem_drop h)
/-- A floor that is valid has at most 99 shares. -/
theorem shsB_len {f : Flr} (h : shsB f = true) : f.sh.length ≤ 99 := by
  have key : ∀ i (hi : i < f.sh.length), (i : Int) + 1 ≤ f.sh[i].m ∧ f.sh[i].m ≤ 99 := by
    intro i
    induction i with
    | zero =>
      intro hi
      have h1 := allN_yes.1 h 0 hi
      rw [okSh_eq hi] at h1
      simp only [Bool.and_eq_true, memB, inB, decide_eq_true_eq] at h1
      simp; omega
    | succ i ih =>
      intro hi
      have h0 := ih (by omega)
      have h1 := allN_yes.1 h (i + 1) hi
      rw [okSh_eq hi] at h1
      simp only [Bool.and_eq_true, memB, inB, decide_eq_true_eq, Bool.or_eq_true, beq_iff_eq, Nat.add_sub_cancel] at h1
      have h2 : f.sh[i].m < f.sh[i + 1].m := by
        rcases h1.2 with h2 | h2
        · omega
        · exact h2
      omega
  rcases Nat.lt_or_ge 99 f.sh.length with h1 | h1
  · have := key 99 h1; omega
  · exact h1
theorem spk_len (f : Flr) (k : Int) : (spkG f k).sh.length ≤ f.sh.length + 1 := putS_len _ _
theorem spk_t {f : Flr} (h : vldF f = true) (k : Int) : 0 ≤ (shOf f.sp (spkG f k).sh).t ∧ (shOf f.sp (spkG f k).sh).t ≤ 3 := by
  have hb := shOf_bd h f.sp
  rcases shOf_mem f.sp (spkG f k).sh with e | ⟨e, _⟩
  · rw [e]; simp
  · rcases putS_mem e with e | e
    · rw [e]; simp; omega
    · have h1 := shsB_at (vldF_parts h).2.2.2.2.1 e
      omega
theorem spk_n {f : Flr} (h : vldF f = true) {k : Int} (hk : 1 ≤ k) : 0 ≤ spkN f k ∧ spkN f k ≤ 3600 := by
  have hb := shOf_bd h f.sp
  unfold spkN
  split <;> omega
end Go.Proofs.Ytbpikbcnpmplfaa
