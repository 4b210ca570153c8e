/- The plain law of FnAmendments: the inverse leads back, and the single change leads from the one text to the other. No program's step is here. Conditions: none. -/
import Derived.Test.YtnnphhhjkhoglaaGreatDoorSg
import Derived.Test.YtnnphhhjkhoglaaGreatDoorOb3
import Derived.Test.YtnnphhhjkhoglaaGreatDoorInv3
namespace Go.Proofs.YtnnphhhjkhoglaaGreatDoor
open Go.RowKit
set_option linter.unusedVariables false
theorem words_step {ss : List ByteArray} {a : Amd} (h : canB ss a = true) : wordsB (amdL ss a) 0 20 = true := by
  unfold canB at h
  rw [Bool.and_eq_true, Bool.and_eq_true] at h
  obtain ⟨⟨h2, hv⟩, hf⟩ := h
  have h1 := fitsB_len hf hv
  have h3 := (vldA_range hv).2.2.2.2.2.2
  rw [wordsB_low, Bool.and_eq_true, List.all_eq_true] at h2
  rw [List.all_eq_true] at h3
  rw [wordsB_low, Bool.and_eq_true, decide_eq_true_eq, List.all_eq_true]
  refine ⟨by omega, fun s hs => ?_⟩
  rcases amdL_mem hs with h4 | h4
  · exact h2.2 s h4
  · exact h3 s h4
theorem canB_pts {ss : List ByteArray} {a : Amd} (h : canB ss a = true) : wordsB ss 0 20 = true ∧ vldA a = true ∧ a.p + a.n ≤ ss.length ∧ (ss.length : Int) - a.n + a.ws.length ≤ 20 ∧ cutW ss a.p a.n ≠ a.ws := by
  unfold canB at h
  rw [Bool.and_eq_true, Bool.and_eq_true] at h
  obtain ⟨⟨h1, h2⟩, h3⟩ := h
  unfold fitsB at h3
  rw [Bool.and_eq_true, Bool.and_eq_true, decide_eq_true_eq, decide_eq_true_eq] at h3
  exact ⟨h1, h2, h3.1.1, h3.1.2, by simpa using h3.2⟩
theorem canB_mk {ss : List ByteArray} {a : Amd} (h1 : wordsB ss 0 20 = true) (h2 : vldA a = true) (h3 : a.p + a.n ≤ ss.length) (h4 : (ss.length : Int) - a.n + a.ws.length ≤ 20) (h5 : cutW ss a.p a.n ≠ a.ws) : canB ss a = true := by
  unfold canB fitsB
  rw [h1, h2, decide_eq_true h3, decide_eq_true h4, decide_eq_false h5]; rfl
theorem all_words {ss : List ByteArray} (h : wordsB ss 0 20 = true) : ss.length ≤ 20 ∧ ∀ s ∈ ss, wordB s = true := by
  rw [wordsB_low, Bool.and_eq_true, decide_eq_true_eq, List.all_eq_true] at h
  exact ⟨by omega, h.2⟩
theorem wordsB_mk {ss : List ByteArray} {lo hi : Int} (h1 : lo ≤ (ss.length : Int)) (h2 : (ss.length : Int) ≤ hi) (h3 : ∀ s ∈ ss, wordB s = true) : wordsB ss lo hi = true := by
  unfold wordsB
  rw [inB_iff.2 ⟨h1, h2⟩, List.all_eq_true.2 h3]; rfl
/-- The inverse leads back. -/
theorem inv_law {ss : List ByteArray} {a : Amd} (h : canB ss a = true) : canB (amdL ss a) (invA ss a) = true ∧ amdL (amdL ss a) (invA ss a) = ss := by
  have hw := words_step h
  obtain ⟨h1, hv, h3, h4, h5⟩ := canB_pts h
  obtain ⟨hp0, hp1, hn0, hn1, hw5, hk, hws⟩ := vldA_range hv
  obtain ⟨k, p, n, ws⟩ := a
  simp only at *
  obtain ⟨p, rfl⟩ := Int.eq_ofNat_of_zero_le hp0
  obtain ⟨n, rfl⟩ := Int.eq_ofNat_of_zero_le hn0
  have q1 : ((p : Int) + n).toNat = p + n := by omega
  have hlp : (ss.take p).length = p := by simp; omega
  have hcl : (cutW ss p n).length = n := cutW_len (by omega)
  have hA : amdL ss ⟨k, p, n, ws⟩ = ss.take p ++ (ws ++ ss.drop (p + n)) := by simp [amdL, q1]
  have hcut : cutW (amdL ss ⟨k, p, n, ws⟩) p ws.length = ws := by
    rw [hA]
    unfold cutW
    rw [Int.toNat_natCast, Int.toNat_natCast, List.drop_append_of_le_length (by omega), List.drop_of_length_le (by omega), List.nil_append, List.take_append_of_le_length (by omega), List.take_of_length_le (by omega)]
  have hal : (amdL ss ⟨k, p, n, ws⟩).length = p + (ws.length + (ss.length - (p + n))) := by rw [hA]; simp; omega
  have hcw : ∀ s ∈ cutW ss p n, wordB s = true := fun s hs => (all_words h1).2 s (by unfold cutW at hs; exact List.mem_of_mem_drop (List.mem_of_mem_take hs))
  refine ⟨canB_mk hw ?_ ?_ ?_ ?_, ?_⟩
  · show vldA ⟨kindI (ws.length : Int) (cutW ss p n), p, ws.length, cutW ss p n⟩ = true
    have hin := inB_iff.2 ⟨hp0, hp1⟩
    rcases hk with ⟨_, hk2, hk3⟩ | ⟨_, hk2, hk3⟩ | ⟨_, hk2, hk3⟩
    · have hK : kindI (ws.length : Int) (cutW ss p n) = 2 := by unfold kindI; rw [hcl, if_neg (by omega), if_pos (by omega)]
      rw [hK]
      show (inB p 0 20 && (inB (ws.length : Int) 1 5 && ((cutW ss p n).length : Int) == 0)) = true
      rw [hin, hcl, inB_iff.2 ⟨by omega, by omega⟩]
      simp; omega
    · have hK : kindI (ws.length : Int) (cutW ss p n) = 1 := by unfold kindI; rw [if_pos (by omega)]
      rw [hK]
      show (inB p 0 20 && ((ws.length : Int) == 0 && wordsB (cutW ss p n) 1 5)) = true
      rw [hin, wordsB_mk (by rw [hcl]; omega) (by rw [hcl]; omega) hcw]
      simp
      exact List.eq_nil_of_length_eq_zero (by omega)
    · have hK : kindI (ws.length : Int) (cutW ss p n) = 3 := by unfold kindI; rw [hcl, if_neg (by omega), if_neg (by omega)]
      rw [hK]
      show (inB p 0 20 && (inB (ws.length : Int) 1 5 && wordsB (cutW ss p n) 1 5)) = true
      rw [hin, inB_iff.2 ⟨by omega, by omega⟩, wordsB_mk (by rw [hcl]; omega) (by rw [hcl]; omega) hcw]
      rfl
  · show (p : Int) + (ws.length : Int) ≤ _
    rw [hal]; omega
  · show ((amdL ss ⟨k, p, n, ws⟩).length : Int) - (ws.length : Int) + ((cutW ss p n).length : Int) ≤ 20
    have := (all_words h1).1
    rw [hal, hcl]; omega
  · show cutW (amdL ss ⟨k, p, n, ws⟩) p ws.length ≠ cutW ss p n
    rw [hcut]
    exact fun e => h5 e.symm
  · show (amdL ss ⟨k, p, n, ws⟩).take (p : Int).toNat ++ (cutW ss p n ++ (amdL ss ⟨k, p, n, ws⟩).drop ((p : Int) + (ws.length : Int)).toNat) = ss
    have q2 : ((p : Int) + (ws.length : Int)).toNat = p + ws.length := by omega
    rw [q2, Int.toNat_natCast, hA, List.take_append_of_le_length (by omega), List.take_of_length_le (by omega), ← List.append_assoc (ss.take p) ws, List.drop_append_of_le_length (by simp; omega), List.drop_of_length_le (by simp; omega), List.nil_append]
    unfold cutW
    rw [Int.toNat_natCast, Int.toNat_natCast]
    have e1 : (ss.drop p).take n ++ ss.drop (p + n) = ss.drop p := by
      rw [← List.drop_drop, List.take_append_drop]
    rw [e1, List.take_append_drop]
theorem runUp_spec (p : Nat → Bool) : ∀ (f k : Nat), k ≤ runUp p f k ∧ runUp p f k ≤ k + f ∧ (∀ i, k ≤ i → i < runUp p f k → p i = true) ∧ (runUp p f k < k + f → p (runUp p f k) = false)
  | 0, k => ⟨Nat.le_refl _, Nat.le_refl _, fun i h1 h2 => by simp [runUp] at h2; omega, fun h => by simp [runUp] at h⟩
  | f + 1, k => by
    rw [runUp]
    split
    · rename_i hp
      obtain ⟨h1, h2, h3, h4⟩ := runUp_spec p f (k + 1)
      refine ⟨by omega, by omega, fun i hi1 hi2 => ?_, fun h => h4 (by omega)⟩
      rcases Nat.eq_or_lt_of_le hi1 with e | e
      · subst e; exact hp
      · exact h3 i e hi2
    · rename_i hp
      exact ⟨Nat.le_refl _, by omega, fun i h1 h2 => by omega, fun _ => by simpa using hp⟩
theorem at_spec (ss ts : List ByteArray) : atOf ss ts ≤ ss.length ∧ atOf ss ts ≤ ts.length ∧ (∀ i, i < atOf ss ts → p1 ss ts i = true) ∧ p1 ss ts (atOf ss ts) = false := by
  obtain ⟨_, h2, h3, h4⟩ := runUp_spec (p1 ss ts) (ss.length + 1) 0
  have h5 : ∀ i, i < atOf ss ts → i < ss.length ∧ i < ts.length := fun i hi => by
    have := h3 i (Nat.zero_le _) hi
    unfold p1 at this
    rw [Bool.and_eq_true, Bool.and_eq_true, decide_eq_true_eq, decide_eq_true_eq] at this
    exact this.1
  have h6 : atOf ss ts ≤ ss.length := by
    rcases Nat.eq_zero_or_pos (atOf ss ts) with e | e
    · omega
    · have := h5 (atOf ss ts - 1) (by omega); omega
  have h7 : atOf ss ts ≤ ts.length := by
    rcases Nat.eq_zero_or_pos (atOf ss ts) with e | e
    · omega
    · have := h5 (atOf ss ts - 1) (by omega); omega
  exact ⟨h6, h7, fun i hi => h3 i (Nat.zero_le _) hi, h4 (by show atOf ss ts < _; omega)⟩
theorem en_spec (ss ts : List ByteArray) : atOf ss ts + enOf ss ts ≤ ss.length ∧ atOf ss ts + enOf ss ts ≤ ts.length ∧ (∀ e, e < enOf ss ts → p2 ss ts (atOf ss ts) e = true) ∧ p2 ss ts (atOf ss ts) (enOf ss ts) = false := by
  obtain ⟨_, h2, h3, h4⟩ := runUp_spec (p2 ss ts (atOf ss ts)) (ss.length + 1) 0
  have ha := at_spec ss ts
  have h5 : ∀ i, i < enOf ss ts → atOf ss ts + i < ss.length ∧ atOf ss ts + i < ts.length := fun i hi => by
    have := h3 i (Nat.zero_le _) hi
    unfold p2 at this
    rw [Bool.and_eq_true, Bool.and_eq_true, decide_eq_true_eq, decide_eq_true_eq] at this
    exact this.1
  have h6 : atOf ss ts + enOf ss ts ≤ ss.length ∧ atOf ss ts + enOf ss ts ≤ ts.length := by
    rcases Nat.eq_zero_or_pos (enOf ss ts) with e | e
    · omega
    · have := h5 (enOf ss ts - 1) (by omega); omega
  exact ⟨h6.1, h6.2, fun i hi => h3 i (Nat.zero_le _) hi, h4 (by show enOf ss ts < _; omega)⟩
theorem at_take (ss ts : List ByteArray) : ss.take (atOf ss ts) = ts.take (atOf ss ts) := by
  obtain ⟨h1, h2, h3, _⟩ := at_spec ss ts
  apply List.ext_getElem
  · simp; omega
  · intro i hi hi'
    have h4 : i < atOf ss ts := by simp at hi; omega
    have := h3 i h4
    rw [p1_in (by omega) (by omega), decide_eq_true_eq] at this
    simpa using this
theorem en_drop (ss ts : List ByteArray) : ss.drop (ss.length - enOf ss ts) = ts.drop (ts.length - enOf ss ts) := by
  obtain ⟨h1, h2, h3, _⟩ := en_spec ss ts
  apply List.ext_getElem
  · simp; omega
  · intro i hi hi'
    have h4 : i < enOf ss ts := by simp at hi; omega
    have := h3 (enOf ss ts - 1 - i) (by omega)
    rw [p2_in (by omega) (by omega), decide_eq_true_eq] at this
    rw [List.getElem_drop, List.getElem_drop]
    have e1 : ss.length - 1 - (enOf ss ts - 1 - i) = ss.length - enOf ss ts + i := by omega
    have e2 : ts.length - 1 - (enOf ss ts - 1 - i) = ts.length - enOf ss ts + i := by omega
    simpa only [e1, e2] using this
/-- The single change leads from the one text to the other. -/
theorem sg_law {ss ts : List ByteArray} (h : sgOk ss ts = true) : canB ss (sgA ss ts) = true ∧ amdL ss (sgA ss ts) = ts := by
  unfold sgOk at h
  rw [Bool.and_eq_true, Bool.and_eq_true, Bool.and_eq_true] at h
  obtain ⟨⟨⟨hs, ht⟩, hne⟩, hv⟩ := h
  have hne : ss ≠ ts := by simpa using hne
  obtain ⟨h1, h2, _, _⟩ := en_spec ss ts
  have ht20 := (all_words ht).1
  have q0 : ((ss.length : Int) - (enOf ss ts : Int) - (atOf ss ts : Int)).toNat = ss.length - enOf ss ts - atOf ss ts := by omega
  have q1 : ((atOf ss ts : Int) + ((ss.length : Int) - (enOf ss ts : Int) - (atOf ss ts : Int))).toNat = ss.length - enOf ss ts := by omega
  have hml : (midW ss ts).length = ts.length - enOf ss ts - atOf ss ts := by unfold midW; simp; omega
  have hcut : cutW ss (sgA ss ts).p (sgA ss ts).n = (ss.drop (atOf ss ts)).take (ss.length - enOf ss ts - atOf ss ts) := by
    show cutW ss (atOf ss ts : Int) ((ss.length : Int) - (enOf ss ts : Int) - (atOf ss ts : Int)) = _
    unfold cutW
    rw [q0, Int.toNat_natCast]
  have split : ∀ (l : List ByteArray) (a e : Nat), a + e ≤ l.length → l.take a ++ ((l.drop a).take (l.length - e - a) ++ l.drop (l.length - e)) = l := fun l a e hl => by
    have e1 : (l.drop a).take (l.length - e - a) ++ l.drop (l.length - e) = l.drop a := by
      have : l.drop (l.length - e) = (l.drop a).drop (l.length - e - a) := by rw [List.drop_drop]; congr 1; omega
      rw [this, List.take_append_drop]
    rw [e1, List.take_append_drop]
  have hap : amdL ss (sgA ss ts) = ts := by
    show ss.take (atOf ss ts : Int).toNat ++ (midW ss ts ++ ss.drop ((atOf ss ts : Int) + ((ss.length : Int) - (enOf ss ts : Int) - (atOf ss ts : Int))).toNat) = ts
    rw [q1, Int.toNat_natCast, at_take, en_drop]
    unfold midW
    exact split ts _ _ h2
  refine ⟨canB_mk hs hv ?_ ?_ ?_, hap⟩
  · show (atOf ss ts : Int) + ((ss.length : Int) - (enOf ss ts : Int) - (atOf ss ts : Int)) ≤ _
    omega
  · show (ss.length : Int) - ((ss.length : Int) - (enOf ss ts : Int) - (atOf ss ts : Int)) + ((midW ss ts).length : Int) ≤ 20
    rw [hml]; omega
  · intro he
    apply hne
    rw [hcut] at he
    have h9 := split ss (atOf ss ts) (enOf ss ts) h1
    rw [he] at h9
    rw [← h9, at_take, en_drop]
    exact split ts _ _ h2
/-- The single change takes away no more words than the amendment. -/
theorem sg_count {ss : List ByteArray} {a : Amd} (h : canB ss a = true) : (sgA ss (amdL ss a)).n ≤ a.n := by
  obtain ⟨h1, hv, h3, h4, h5⟩ := canB_pts h
  obtain ⟨hp0, hp1, hn0, hn1, hw5, hk, hws⟩ := vldA_range hv
  obtain ⟨k, p, n, ws⟩ := a
  simp only at *
  obtain ⟨p, rfl⟩ := Int.eq_ofNat_of_zero_le hp0
  obtain ⟨n, rfl⟩ := Int.eq_ofNat_of_zero_le hn0
  have q1 : ((p : Int) + n).toNat = p + n := by omega
  have hlp : (ss.take p).length = p := by simp; omega
  have hA : amdL ss ⟨k, p, n, ws⟩ = ss.take p ++ (ws ++ ss.drop (p + n)) := by simp [amdL, q1]
  show (ss.length : Int) - (enOf ss (amdL ss ⟨k, p, n, ws⟩) : Int) - (atOf ss (amdL ss ⟨k, p, n, ws⟩) : Int) ≤ n
  have hal : (amdL ss ⟨k, p, n, ws⟩).length = p + (ws.length + (ss.length - (p + n))) := by rw [hA]; simp; omega
  obtain ⟨a1, a2, a3, a4⟩ := at_spec ss (amdL ss ⟨k, p, n, ws⟩)
  obtain ⟨b1, b2, b3, b4⟩ := en_spec ss (amdL ss ⟨k, p, n, ws⟩)
  have hat : p ≤ atOf ss (amdL ss ⟨k, p, n, ws⟩) := by
    rcases Nat.lt_or_ge (atOf ss (amdL ss ⟨k, p, n, ws⟩)) p with hc | hc
    · exfalso
      generalize atOf ss (amdL ss ⟨k, p, n, ws⟩) = i at *
      rw [p1_in (by omega) (by omega)] at a4
      have := of_decide_eq_false a4
      apply this
      simp only [hA]
      rw [List.getElem_append_left (by omega), List.getElem_take]
    · exact hc
  generalize hi : atOf ss (amdL ss ⟨k, p, n, ws⟩) = i at *
  generalize he : enOf ss (amdL ss ⟨k, p, n, ws⟩) = e at *
  rcases Nat.lt_or_ge (i + e) ss.length with c1 | c1
  · rcases Nat.lt_or_ge (i + e) (p + (ws.length + (ss.length - (p + n)))) with c2 | c2
    · rcases Nat.lt_or_ge e (ss.length - (p + n)) with c3 | c3
      · exfalso
        rw [p2_in c1 (by omega)] at b4
        have := of_decide_eq_false b4
        apply this
        simp only [hal]
        simp only [hA]
        rw [List.getElem_append_right (by omega), List.getElem_append_right (by omega), List.getElem_drop]
        congr 1
        omega
      · omega
    · omega
  · omega
theorem appL_yes {ss : List ByteArray} {a : Amd} (h : canB ss a = true) : appL ss a = amdL ss a := by unfold appL; rw [h]; rfl
theorem invR_yes {ss : List ByteArray} {a : Amd} (h : canB ss a = true) : invR ss a = invA ss a := by unfold invR; rw [h]; rfl
theorem fa_one {ss : List ByteArray} {a : Amd} (h : canB ss a = true) : canB (appL ss a) (invR ss a) = true ∧ appL (appL ss a) (invR ss a) = ss ∧ wordsB (appL ss a) 0 20 = true ∧ (sgOk ss (appL ss a) = true → ¬ a.n < (sgR ss (appL ss a)).n) := by
  obtain ⟨h1, h2⟩ := inv_law h
  rw [appL_yes h, invR_yes h]
  refine ⟨h1, by rw [appL_yes h1, h2], words_step h, fun h3 => ?_⟩
  rw [sgR_yes h3]
  have := sg_count h
  omega
theorem fa_two {ss ts : List ByteArray} (h : sgOk ss ts = true) : canB ss (sgR ss ts) = true ∧ appL ss (sgR ss ts) = ts := by
  obtain ⟨h1, h2⟩ := sg_law h
  rw [sgR_yes h]
  exact ⟨h1, by rw [appL_yes h1, h2]⟩
theorem Fit.sg_ {ss ts : List ByteArray} (h : Fit ts) : Fit (sgR ss ts).ws := by
  unfold sgR
  split
  · refine ⟨?_, fun s hs => h.2 s (List.mem_of_mem_drop (List.mem_of_mem_take hs))⟩
    show (midW ss ts).length ≤ _
    unfold midW
    rw [List.length_take, List.length_drop]
    have := h.1
    omega
  · exact ⟨by simp [noA], fun s hs => by simp [noA] at hs⟩
end Go.Proofs.YtnnphhhjkhoglaaGreatDoor
