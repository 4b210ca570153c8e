/- The statement FnProposalsSaid of the given rows: for every input the law returns true and leaves what it was handed as it was. Conditions: none. -/
import Derived.Test.YtgchbimjgdoifaaMPr2
import Derived.Test.YtgchbimjgdoifaaHv1
import Derived.Test.YtgchbimjgdoifaaDk8
import Derived.Test.YtgchbimjgdoifaaByt
import Derived.Test.YtgchbimjgdoifaaFp3
import Derived.Test.YtgchbimjgdoifaaSec
import Derived.Deep.DrawnRows
import Derived.Test.YtgchbimjgdoifaaRows
import Derived.ProofKit
import Derived.OpenShut
import Derived.ShutString
import Derived.Carry
import Derived.Lib.SmallJoins
namespace Go.Proofs.Ytgchbimjgdoifaa
open Go.RowKit
set_option linter.unusedVariables false
theorem conB_symm (a b : Amd) : conB a b = conB b a := by
  have e1 : (if a.p < b.p then b.p else a.p) = (if b.p < a.p then a.p else b.p) := by split <;> split <;> omega
  have e2 : (if b.p + b.n < a.p + a.n then b.p + b.n else a.p + a.n) = (if a.p + a.n < b.p + b.n then a.p + a.n else b.p + b.n) := by split <;> split <;> omega
  have e3 : (a.p == b.p) = (b.p == a.p) := by rw [Bool.eq_iff_iff]; simp; exact ⟨fun h => h.symm, fun h => h.symm⟩
  unfold conB
  rw [e1, e2, e3]
  generalize decide ((if b.p < a.p then a.p else b.p) < (if a.p + a.n < b.p + b.n then a.p + a.n else b.p + b.n)) = D
  generalize (b.p == a.p) = E
  cases D <;> cases E <;> cases insB a <;> cases insB b <;> cases aroundB b a.p <;> cases aroundB a b.p <;> rfl
theorem none_snoc (L : List Prp) (p : Prp) : noneB (L ++ [p]) (L ++ [p]).length = (noneB L L.length && L.all fun x => !conB p.a x.a) := by
  have hg : ∀ i, i < L.length → (L ++ [p]).getD i noP = L.getD i noP := fun i hi => by
    rw [List.getD_eq_getElem?_getD, List.getD_eq_getElem?_getD, List.getElem?_append_left hi]
  have hp : (L ++ [p]).getD L.length noP = p := by
    rw [List.getD_eq_getElem?_getD, List.getElem?_append_right (Nat.le_refl _)]; simp
  rw [List.length_append, List.length_singleton, noneB, allN]
  have e1 : allN (fun i => rowB (L ++ [p]) i i) L.length = noneB L L.length := by
    rw [Bool.eq_iff_iff, noneB, allN_yes, allN_yes]
    constructor
    · intro h k hk
      have := h k hk
      unfold rowB at this ⊢
      rw [allN_yes] at this ⊢
      intro j hj
      have := this j hj
      rwa [hg k hk, hg j (by omega)] at this
    · intro h k hk
      have := h k hk
      unfold rowB at this ⊢
      rw [allN_yes] at this ⊢
      intro j hj
      have := this j hj
      rwa [hg k hk, hg j (by omega)]
  have e2 : rowB (L ++ [p]) L.length L.length = L.all fun x => !conB p.a x.a := by
    rw [Bool.eq_iff_iff, rowB, allN_yes, List.all_eq_true]
    constructor
    · intro h x hx
      obtain ⟨i, hi, rfl⟩ := List.getElem_of_mem hx
      have := h i hi
      rwa [hp, hg i hi, getP hi] at this
    · intro h k hk
      rw [hp, hg k hk, getP hk]
      exact h _ (List.getElem_mem hk)
  rw [e1, e2]
theorem bit_test (s k : Nat) : bitB s k = Nat.testBit s k := by
  unfold bitB
  rw [Nat.testBit_eq_decide_div_mod_eq]
  rfl
theorem mem_pick {ps : List Prp} {s : Nat} {q : Prp} {k : Nat} : q ∈ pickL ps s k ↔ ∃ j, j < k ∧ bitB s j = true ∧ q = ps.getD j noP := by
  induction k with
  | zero => simp [pickL]
  | succ k ih =>
    rw [pickL, List.mem_append, ih]
    constructor
    · rintro (⟨j, h1, h2, h3⟩ | h)
      · exact ⟨j, by omega, h2, h3⟩
      · split at h
        · rename_i hb
          exact ⟨k, Nat.lt_succ_self _, hb, by simpa using h⟩
        · simp at h
    · rintro ⟨j, h1, h2, h3⟩
      rcases Nat.lt_or_ge j k with h4 | h4
      · exact .inl ⟨j, h4, h2, h3⟩
      · obtain rfl : j = k := by omega
        exact .inr (by rw [if_pos h2]; simp [h3])
/-- No two members of a set conflict. -/
def FreeS (ps : List Prp) (s k : Nat) : Prop := ∀ i j, j < i → i < k → bitB s i = true → bitB s j = true → conB (ps.getD i noP).a (ps.getD j noP).a = false
theorem none_pick (ps : List Prp) (s k : Nat) : noneB (pickL ps s k) (pickL ps s k).length = true ↔ FreeS ps s k := by
  induction k with
  | zero => exact ⟨fun _ i j _ h => by omega, fun _ => rfl⟩
  | succ k ih =>
    rw [pickL]
    split
    · rename_i hb
      rw [none_snoc, Bool.and_eq_true, ih, List.all_eq_true]
      constructor
      · rintro ⟨h1, h2⟩ i j hj hi hbi hbj
        rcases Nat.lt_or_ge i k with h3 | h3
        · exact h1 i j hj h3 hbi hbj
        · obtain rfl : i = k := by omega
          have := h2 _ (mem_pick.2 ⟨j, hj, hbj, rfl⟩)
          simpa using this
      · intro h
        refine ⟨fun i j hj hi => h i j hj (by omega), fun x hx => ?_⟩
        obtain ⟨j, h1, h2, rfl⟩ := mem_pick.1 hx
        rw [h k j h1 (Nat.lt_succ_self _) hb h2]; rfl
    · rename_i hb
      rw [List.append_nil, ih]
      constructor
      · intro h i j hj hi hbi hbj
        rcases Nat.lt_or_ge i k with h3 | h3
        · exact h i j hj h3 hbi hbj
        · obtain rfl : i = k := by omega
          exact absurd hbi hb
      · exact fun h i j hj hi => h i j hj (by omega)
theorem beats_yes {ids best : List Int} {w most : Int} (h : most < w) : beats ids best w most = true := by
  have e : cmpI most w = -1 := by unfold cmpI; rw [if_pos h]
  unfold beats orI
  rw [e]
  simp
theorem beats_le {ids best : List Int} {w most : Int} (h : beats ids best w most = true) : most ≤ w := by
  rcases Int.lt_or_le w most with h1 | h1
  · have e : cmpI most w = 1 := by unfold cmpI; rw [if_neg (by omega), if_pos h1]
    unfold beats orI at h
    rw [e] at h
    simp at h
  · exact h1
theorem heavK_best (ps : List Prp) : ∀ k, (∃ s, (s = 0 ∨ s < k) ∧ heavK ps k = (idsL (pickL ps s ps.length), sumT (pickL ps s ps.length)) ∧ FreeS ps s ps.length) ∧ ∀ s, s < k → FreeS ps s ps.length → sumT (pickL ps s ps.length) ≤ (heavK ps k).2
  | 0 => by
    have h0 : ∀ n, pickL ps 0 n = [] := fun n => by
      induction n with
      | zero => rfl
      | succ n ih => rw [pickL, ih]; simp [bitB]
    refine ⟨⟨0, .inl rfl, by rw [h0]; rfl, fun i j _ _ h => by simp [bitB] at h⟩, fun s h => by omega⟩
  | k + 1 => by
    obtain ⟨⟨s, hs, he, hf⟩, hm⟩ := heavK_best ps k
    rw [heavK]
    unfold stepH
    split
    · rename_i hc
      rw [Bool.and_eq_true] at hc
      have h1 := (none_pick ps k ps.length).1 hc.1
      have h2 := beats_le hc.2
      refine ⟨⟨k, .inr (Nat.lt_succ_self _), rfl, h1⟩, fun s' hs' hf' => ?_⟩
      rcases Nat.lt_or_ge s' k with h3 | h3
      · exact Int.le_trans (hm s' h3 hf') h2
      · obtain rfl : s' = k := by omega
        exact Int.le_refl _
    · rename_i hc
      refine ⟨⟨s, by omega, he, hf⟩, fun s' hs' hf' => ?_⟩
      rcases Nat.lt_or_ge s' k with h3 | h3
      · exact hm s' h3 hf'
      · obtain rfl : s' = k := by omega
        rcases Int.lt_or_le (heavK ps s').2 (sumT (pickL ps s' ps.length)) with h4 | h4
        · exfalso
          apply hc
          rw [(none_pick ps s' ps.length).2 hf', beats_yes h4]; rfl
        · exact h4
/-- What the members among the first k weigh. -/
def wgt (ids : List Int) (ps : List Prp) : Nat → Int
  | 0 => 0
  | k + 1 => wgt ids ps k + (if hasI ids (ps.getD k noP).i then (ps.getD k noP).t else 0)
theorem Asc.inj {ps : List Prp} (h : Asc ps) {i j : Nat} (hi : i < ps.length) (hj : j < ps.length) (he : (ps.getD i noP).i = (ps.getD j noP).i) : i = j := by
  rcases Nat.lt_trichotomy i j with h1 | h1 | h1
  · have := h i j h1 hj; omega
  · exact h1
  · have := h j i h1 hi; omega
theorem ids_bit {ps : List Prp} {s i : Nat} (h : Asc ps) (hi : i < ps.length) : hasI (idsL (pickL ps s ps.length)) (ps.getD i noP).i = bitB s i := by
  rw [Bool.eq_iff_iff, hasI_iff]
  unfold idsL
  rw [List.mem_map]
  constructor
  · rintro ⟨q, hq, he⟩
    obtain ⟨j, h1, h2, rfl⟩ := mem_pick.1 hq
    rw [← h.inj h1 hi he]; exact h2
  · intro hb
    exact ⟨_, mem_pick.2 ⟨i, hi, hb, rfl⟩, rfl⟩
theorem sum_wgt {ps : List Prp} {s : Nat} (h : Asc ps) : ∀ k, k ≤ ps.length → wgt (idsL (pickL ps s ps.length)) ps k = sumT (pickL ps s k)
  | 0, _ => rfl
  | k + 1, hk => by
    rw [wgt, sum_wgt h k (by omega), ids_bit h (by omega), pickL]
    split
    · rename_i hb; rw [sumT_snoc]
    · rename_i hb; simp
theorem sum_more {ps : List Prp} {s s' i : Nat} (hi : bitB s i = false) (hi' : bitB s' i = true) (hs : ∀ j, j ≠ i → bitB s' j = bitB s j) : ∀ k, sumT (pickL ps s' k) = sumT (pickL ps s k) + (if i < k then (ps.getD i noP).t else 0)
  | 0 => by simp [pickL, sumT]
  | k + 1 => by
    have ih := sum_more (ps := ps) hi hi' hs k
    rw [pickL, pickL]
    by_cases hk : k = i
    · subst hk
      rw [hi, hi', if_pos rfl, sumT_snoc, ih, if_neg (Nat.lt_irrefl _), if_pos (Nat.lt_succ_self _)]
      simp
    · rw [hs k hk]
      have e : (if i < k + 1 then (ps.getD i noP).t else 0) = (if i < k then (ps.getD i noP).t else 0) := by
        by_cases h1 : i < k
        · rw [if_pos h1, if_pos (by omega)]
        · rw [if_neg h1, if_neg (by omega)]
      rw [e]
      split
      · rw [sumT_snoc, sumT_snoc, ih]; omega
      · simpa using ih
theorem lone_con {ps : List Prp} {i k n : Nat} (h : loneB ps i n = true) (hk : k < n) (hne : k ≠ i) : conB (ps.getD i noP).a (ps.getD k noP).a = false := by
  unfold loneB at h
  have := allN_yes.1 h k hk
  rw [Bool.or_eq_true, decide_eq_true_eq] at this
  rcases this with h1 | h1
  · omega
  · simpa using h1
/-- A free proposal belongs to the heaviest set. -/
theorem lone_in {ps : List Prp} {s i : Nat} (hw : ∀ p ∈ ps, 1 ≤ p.t) (hs : s < 2 ^ ps.length) (hf : FreeS ps s ps.length) (hm : ∀ s', s' < 2 ^ ps.length → FreeS ps s' ps.length → sumT (pickL ps s' ps.length) ≤ sumT (pickL ps s ps.length)) (hi : i < ps.length) (hl : loneB ps i ps.length = true) : bitB s i = true := by
  rcases Bool.eq_false_or_eq_true (bitB s i) with h0 | h0
  · exact h0
  · exfalso
    have hb : ∀ j, bitB (s ||| 2 ^ i) j = (bitB s j || decide (i = j)) := fun j => by
      rw [bit_test, bit_test, Nat.testBit_or, Nat.testBit_two_pow]
    have h1 : bitB (s ||| 2 ^ i) i = true := by rw [hb]; simp
    have h2 : ∀ j, j ≠ i → bitB (s ||| 2 ^ i) j = bitB s j := fun j hj => by rw [hb, decide_eq_false (by omega), Bool.or_false]
    have h3 : s ||| 2 ^ i < 2 ^ ps.length := Nat.or_lt_two_pow hs (Nat.pow_lt_pow_right (by omega) hi)
    have h4 : FreeS ps (s ||| 2 ^ i) ps.length := fun a b hba ha hsa hsb => by
      by_cases ea : a = i
      · subst ea
        exact lone_con hl (by omega) (by omega)
      · by_cases eb : b = i
        · subst eb
          rw [conB_symm]
          exact lone_con hl ha ea
        · rw [h2 a ea] at hsa
          rw [h2 b eb] at hsb
          exact hf a b hba ha hsa hsb
    have h5 := hm _ h3 h4
    have h6 := sum_more (ps := ps) h0 h1 h2 ps.length
    rw [if_pos hi] at h6
    have h7 := hw (ps.getD i noP) (by rw [getP hi]; exact List.getElem_mem hi)
    omega
theorem mem_frL {ps : List Prp} {x : Int} : ∀ {k}, x ∈ frL ps k ↔ ∃ j, j < k ∧ loneB ps j ps.length = true ∧ x = (ps.getD j noP).i
  | 0 => by simp [frL]
  | k + 1 => by
    rw [frL, List.mem_append, mem_frL (k := k)]
    constructor
    · rintro (⟨j, h1, h2, h3⟩ | h)
      · exact ⟨j, by omega, h2, h3⟩
      · split at h
        · rename_i hb
          exact ⟨k, Nat.lt_succ_self _, hb, by simpa using h⟩
        · simp at h
    · rintro ⟨j, h1, h2, h3⟩
      rcases Nat.lt_or_ge j k with h4 | h4
      · exact .inl ⟨j, h4, h2, h3⟩
      · obtain rfl : j = k := by omega
        exact .inr (by rw [if_pos h2]; simp [h3])
theorem memInn {ps : List Prp} {i : Nat} {x : Int × Int} : ∀ {m}, x ∈ inn ps i m → ∃ j, j < m ∧ conB (ps.getD i noP).a (ps.getD (i + 1 + j) noP).a = true ∧ x = ((ps.getD i noP).i, (ps.getD (i + 1 + j) noP).i)
  | 0, h => by simp [inn] at h
  | m + 1, h => by
    rw [inn, List.mem_append] at h
    rcases h with h | h
    · obtain ⟨j, h1, h2, h3⟩ := memInn h
      exact ⟨j, by omega, h2, h3⟩
    · split at h
      · rename_i hc
        exact ⟨m, Nat.lt_succ_self _, hc, by simpa using h⟩
      · simp at h
theorem memPrs {ps : List Prp} {x : Int × Int} : ∀ {k}, x ∈ prs ps k → ∃ i j, i < k ∧ i < j ∧ j < ps.length ∧ conB (ps.getD i noP).a (ps.getD j noP).a = true ∧ x = ((ps.getD i noP).i, (ps.getD j noP).i)
  | 0, h => by simp [prs] at h
  | k + 1, h => by
    rw [prs, List.mem_append] at h
    rcases h with h | h
    · obtain ⟨i, j, h1, h2⟩ := memPrs h
      exact ⟨i, j, by omega, h2⟩
    · obtain ⟨j, h1, h2, h3⟩ := memInn h
      exact ⟨k, k + 1 + j, Nat.lt_succ_self _, by omega, by omega, h2, h3⟩
/-- What the law asks of good proposals. -/
structure PrLaw (ps : List Prp) (ids fr : List Int) (m : Int) (pairs : List (Int × Int)) : Prop where
  sum : wgt ids ps ps.length = m
  free : ∀ i, i < ps.length → hasI fr (ps.getD i noP).i = true → hasI ids (ps.getD i noP).i = true
  all : pairs.length = 0 → ids.length = ps.length
  pair : ∀ x ∈ pairs, (hasI ids x.1 && hasI ids x.2) = false ∧ hasI fr x.1 = false ∧ hasI fr x.2 = false
theorem prLaw {ss : List ByteArray} {ps : List Prp} (h : propB ss ps = true) : PrLaw ps (heavR ss ps).1 (freeL ss ps) (heavR ss ps).2 (pairL ss ps) := by
  have hA := Asc.of h
  have hw := weight_of h
  have e1 : heavR ss ps = heavK ps (2 ^ ps.length) := by unfold heavR; rw [h]; rfl
  have e2 : freeL ss ps = frL ps ps.length := by unfold freeL; rw [h]; rfl
  have e3 : pairL ss ps = prs ps ps.length := by unfold pairL; rw [h]; rfl
  obtain ⟨⟨s, hs0, he, hf⟩, hm⟩ := heavK_best ps (2 ^ ps.length)
  have hs : s < 2 ^ ps.length := by
    rcases hs0 with rfl | h1
    · exact Nat.pow_pos (by omega)
    · exact h1
  rw [he] at hm
  rw [e1, e2, e3, he]
  have hlone : ∀ i, i < ps.length → loneB ps i ps.length = true → bitB s i = true := fun i hi hl => lone_in (fun p hp => (hw p hp).1) hs hf hm hi hl
  have hfr : ∀ i, i < ps.length → hasI (frL ps ps.length) (ps.getD i noP).i = true → loneB ps i ps.length = true := fun i hi hx => by
    obtain ⟨j, h1, h2, h3⟩ := mem_frL.1 (hasI_iff.1 hx)
    rw [hA.inj hi h1 h3]; exact h2
  refine ⟨sum_wgt hA _ (Nat.le_refl _), fun i hi hx => ?_, fun hl => ?_, fun x hx => ?_⟩
  · rw [ids_bit hA hi]; exact hlone i hi (hfr i hi hx)
  · have hn : noneB ps ps.length = true := by
      have := noneB_eq (ps := ps)
      rw [hl] at this
      simpa using this
    have hnc : ∀ i j, j < i → i < ps.length → conB (ps.getD i noP).a (ps.getD j noP).a = false := fun i j hj hi => by
      have := allN_yes.1 hn i hi
      unfold rowB at this
      simpa using allN_yes.1 this j hj
    have hall : ∀ i, i < ps.length → bitB s i = true := fun i hi => hlone i hi (by
      unfold loneB
      rw [allN_yes]
      intro k hk
      rw [Bool.or_eq_true, decide_eq_true_eq]
      rcases Nat.lt_trichotomy i k with h1 | h1 | h1
      · right; rw [conB_symm, hnc k i h1 hk]; rfl
      · left; omega
      · right; rw [hnc i k h1 hi]; rfl)
    have hpl : ∀ k, k ≤ ps.length → (pickL ps s k).length = k := fun k hk => by
      induction k with
      | zero => rfl
      | succ k ih => rw [pickL, if_pos (hall k (by omega)), List.length_append, ih (by omega)]; rfl
    show (idsL (pickL ps s ps.length)).length = _
    rw [idsL_len, hpl _ (Nat.le_refl _)]
  · obtain ⟨i, j, h1, h2, h3, h4, rfl⟩ := memPrs hx
    refine ⟨?_, ?_, ?_⟩
    · rw [ids_bit hA h1, ids_bit hA h3]
      rcases Bool.eq_false_or_eq_true (bitB s i) with hi | hi
      · rcases Bool.eq_false_or_eq_true (bitB s j) with hj | hj
        · have := hf j i h2 h3 hj hi
          rw [conB_symm, h4] at this
          cases this
        · rw [hj, Bool.and_false]
      · rw [hi, Bool.false_and]
    · rcases Bool.eq_false_or_eq_true (hasI (frL ps ps.length) (ps.getD i noP).i) with hx | hx
      · have := lone_con (hfr i h1 hx) h3 (by omega)
        rw [h4] at this; cases this
      · exact hx
    · rcases Bool.eq_false_or_eq_true (hasI (frL ps ps.length) (ps.getD j noP).i) with hx | hx
      · have := lone_con (hfr j h3 hx) (show i < ps.length by omega) (by omega)
        rw [conB_symm, h4] at this; cases this
      · exact hx
theorem wgt_range {ids : List Int} {ps : List Prp} (hw : ∀ p ∈ ps, 1 ≤ p.t ∧ p.t ≤ 100) : ∀ k, k ≤ ps.length → 0 ≤ wgt ids ps k ∧ wgt ids ps k ≤ 100 * (k : Int)
  | 0, _ => by simp [wgt]
  | k + 1, hk => by
    have h1 := wgt_range (ids := ids) hw k (by omega)
    have h2 := hw (ps.getD k noP) (by rw [getP (show k < ps.length by omega)]; exact List.getElem_mem _)
    rw [wgt]
    split <;> push_cast <;> omega
theorem wgt_yes {ids : List Int} {ps : List Prp} {k : Nat} (hk : k < ps.length) (h : hasI ids ps[k].i = true) : wgt ids ps (k + 1) = wgt ids ps k + ps[k].t := by
  rw [wgt, getP hk, if_pos h]
theorem wgt_no {ids : List Int} {ps : List Prp} {k : Nat} (hk : k < ps.length) (h : hasI ids ps[k].i = false) : wgt ids ps (k + 1) = wgt ids ps k := by
  rw [wgt, getP hk, if_neg (by rw [h]; simp)]; omega
theorem PrLaw.free' {ps : List Prp} {ids fr : List Int} {m : Int} {pairs : List (Int × Int)} (h : PrLaw ps ids fr m pairs) {i : Nat} (hi : i < ps.length) (hf : hasI fr ps[i].i = true) : hasI ids ps[i].i = true := by
  have := h.free i hi
  rw [getP hi] at this
  exact this hf
theorem few_of {ss : List ByteArray} {ps : List Prp} (h : propB ss ps = true) : ps.length ≤ 8 := by
  unfold propB at h
  rw [Bool.and_eq_true, Bool.and_eq_true, decide_eq_true_eq] at h
  omega
end Go.Proofs.Ytgchbimjgdoifaa
namespace Go.Proofs.Ytgchbimjgdoifaa.fnProposals
open Go.RowKit
set_option linter.unusedVariables false
set_option linter.unusedSimpArgs false
attribute [local go_sem ↓] Go.wp_at_zero Go.wp_at_succ
theorem sec_law {a f : Amd} (h : scOk a f = true) : canB a.ws f = true ∧ appL a.ws f = (scR a f).ws ∧ (scR a f).k = a.k ∧ (scR a f).p = a.p ∧ (scR a f).n = a.n := by
  have h1 : canB a.ws f = true := by unfold scOk at h; rw [Bool.and_eq_true, Bool.and_eq_true] at h; exact h.1.2
  refine ⟨h1, ?_, ?_, ?_, ?_⟩
  · rw [appL_yes h1, scR_yes h]
  all_goals rw [scR_yes h]
set_option maxRecDepth 100000 in
set_option maxHeartbeats 8000000 in
theorem walk (A : Option Addr) (c : Nat) (xs : List Int) (w : World) (hx : xs.length ≤ c ∧ Cells w A (ByteK.row xs) ∧ xs.length ≤ maxLen ∧ ∀ x ∈ xs, ByteK.fit x) :
    Calls Try.prog 7 #[.slice A xs.length c] w fun e w' => e = .returned (.bool true) ∧ Below w.heap.size w w' := by
  have HBY := Lib.hid (bytesC_of hx.2.1 hx.2.2.2)
  have HB := Lib.hid (Below.refl w.heap.size w)
  clear hx
  by_cases hbig : 65536 < xs.length
  · have hd : decide (65536 < xs.length) = true := decide_eq_true hbig
    go_enter Try.func7, Try.ntmps7
    go_wp2_with fail
    refine (vBig_any A _ c w).mono ?_
    rintro e w1 ⟨rfl, hb⟩
    rw [hd]
    go_wp2
    go_ret
    exact ⟨rfl, hb⟩
  have hd : decide (65536 < xs.length) = false := decide_eq_false hbig
  have hxl : xs.length ≤ 65536 := by omega
  clear hbig
  go_enter Try.func7, Try.ntmps7
  go_wp2_with fail
  refine (vBig_any A _ c w).mono ?_
  rintro e w1 ⟨rfl, hb⟩
  replace HBY := Lib.hid (HBY.out.grow hb)
  replace HB := Lib.hid (after HB.out hb)
  rw [hd]
  clear hd
  clear hb
  go_wp2_with fail
  refine (DrawHeaviestSet_any A _ c w1 HBY.out hxl).mono ?_
  rintro e w2 ⟨T, P, t, pd, ss, ps, rfl, hT, hD, hF, hb⟩
  replace HBY := Lib.hid (HBY.out.grow hb)
  replace HB := Lib.hid (after HB.out hb)
  have HT := Lib.hid (hT)
  have HD := Lib.hid (hD)
  clear hT hD
  clear hb
  have HFP := Lib.hid hF
  clear hF
  have HL := Lib.hid (fun h => prLaw (ss := ss) (ps := ps) h)
  have HW := Lib.hid (fun h => weight_of (ss := ss) (ps := ps) h)
  have HE := Lib.hid (fun h => few_of (ss := ss) (ps := ps) h)
  obtain ⟨ids, hids⟩ : ∃ x, Hid ((heavR ss ps).1 = x) := ⟨_, Lib.hid rfl⟩
  obtain ⟨wt, hwt⟩ : ∃ x, Hid ((heavR ss ps).2 = x) := ⟨_, Lib.hid rfl⟩
  obtain ⟨fr, hfr⟩ : ∃ x, Hid (freeL ss ps = x) := ⟨_, Lib.hid rfl⟩
  obtain ⟨pr, hpr⟩ : ∃ x, Hid (pairL ss ps = x) := ⟨_, Lib.hid rfl⟩
  obtain ⟨ok, hok⟩ : ∃ x, Hid (propB ss ps = x) := ⟨_, Lib.hid rfl⟩
  rw [hids.out, hwt.out, hfr.out, hpr.out, hok.out] at HL
  rw [hok.out] at HW HE
  go_wp2_with fail
  refine (HeaviestSet_any T P t pd ss ps w2 HT.out.cells HT.out.1 HT.out.2.2 HD.out HFP.out).mono ?_
  rintro e w3 ⟨I, ic, rfl, ho, hb⟩
  rw [hids.out] at ho ⊢
  rw [hwt.out, hok.out]
  replace HBY := Lib.hid (HBY.out.grow hb)
  replace HT := Lib.hid (HT.out.grow hb)
  replace HD := Lib.hid (HD.out.below hb)
  replace HB := Lib.hid (after HB.out hb)
  have HI := Lib.hid (Ow.rd ho)
  clear ho
  clear hb
  go_wp2_with fail
  refine (sHeaviestSet_any T P t pd ss ps w3 HT.out.cells HT.out.1 HT.out.2.2 HD.out HFP.out).mono ?_
  rintro e w4 ⟨J, jc, rfl, ho, hb⟩
  rw [hids.out] at ho ⊢
  rw [hwt.out, hok.out]
  replace HBY := Lib.hid (HBY.out.grow hb)
  replace HT := Lib.hid (HT.out.grow hb)
  replace HD := Lib.hid (HD.out.below hb)
  replace HI := Lib.hid (HI.out.grow hb)
  replace HB := Lib.hid (after HB.out hb)
  have HJ := Lib.hid (Ow.rd ho)
  clear ho
  clear hb
  go_wp2_with fail
  refine (vInts_same HI.out HJ.out).mono ?_
  rintro e w5 ⟨rfl, hb⟩
  replace HBY := Lib.hid (HBY.out.grow hb)
  replace HT := Lib.hid (HT.out.grow hb)
  replace HD := Lib.hid (HD.out.below hb)
  replace HI := Lib.hid (HI.out.grow hb)
  replace HJ := Lib.hid (HJ.out.grow hb)
  replace HB := Lib.hid (after HB.out hb)
  clear hb
  clear HJ
  go_wp2_with fail
  refine (FreeProposals_any T P t pd ss ps w5 HT.out.cells HT.out.1 HT.out.2.2 HD.out HFP.out).mono ?_
  rintro e w6 ⟨G, gc, rfl, ho, hb⟩
  rw [hfr.out] at ho ⊢
  rw [hok.out]
  replace HBY := Lib.hid (HBY.out.grow hb)
  replace HT := Lib.hid (HT.out.grow hb)
  replace HD := Lib.hid (HD.out.below hb)
  replace HI := Lib.hid (HI.out.grow hb)
  replace HB := Lib.hid (after HB.out hb)
  have HG := Lib.hid (Ow.rd ho)
  clear ho
  clear hb
  go_wp2_with fail
  refine (sFreeProposals_any T P t pd ss ps w6 HT.out.cells HT.out.1 HT.out.2.2 HD.out HFP.out).mono ?_
  rintro e w7 ⟨J, jc, rfl, ho, hb⟩
  rw [hfr.out] at ho ⊢
  rw [hok.out]
  replace HBY := Lib.hid (HBY.out.grow hb)
  replace HT := Lib.hid (HT.out.grow hb)
  replace HD := Lib.hid (HD.out.below hb)
  replace HI := Lib.hid (HI.out.grow hb)
  replace HG := Lib.hid (HG.out.grow hb)
  replace HB := Lib.hid (after HB.out hb)
  have HJ := Lib.hid (Ow.rd ho)
  clear ho
  clear hb
  go_wp2_with fail
  refine (vInts_same HG.out HJ.out).mono ?_
  rintro e w8 ⟨rfl, hb⟩
  replace HBY := Lib.hid (HBY.out.grow hb)
  replace HT := Lib.hid (HT.out.grow hb)
  replace HD := Lib.hid (HD.out.below hb)
  replace HI := Lib.hid (HI.out.grow hb)
  replace HG := Lib.hid (HG.out.grow hb)
  replace HJ := Lib.hid (HJ.out.grow hb)
  replace HB := Lib.hid (after HB.out hb)
  clear hb
  clear HJ
  rcases Bool.eq_false_or_eq_true ok with hk | hk
  · subst hk
    have hpl := HL.out (by simp)
    have hww := HW.out (by simp)
    have h8 := HE.out (by simp)
    have HPL := Lib.hid hpl
    have HWR := Lib.hid (fun k hk => wgt_range (ids := ids) hww k hk)
    clear hpl HL HW HE
    have HWT := Lib.hid (show ∀ (k : Nat) (hk : k < ps.length), 1 ≤ ps[k].t ∧ ps[k].t ≤ 100 from fun k hk => hww _ (List.getElem_mem hk))
    clear hww
    go_wp2_with fail
    refine (ConflictPairs_any T P t pd ss ps w8 HT.out.cells HT.out.1 HT.out.2.2 HD.out HFP.out).mono ?_
    rintro e w9 ⟨K, kc, rfl, ho, hb⟩
    rw [hpr.out] at ho ⊢
    rw [hok.out]
    replace HBY := Lib.hid (HBY.out.grow hb)
    replace HT := Lib.hid (HT.out.grow hb)
    replace HD := Lib.hid (HD.out.below hb)
    replace HI := Lib.hid (HI.out.grow hb)
    replace HG := Lib.hid (HG.out.grow hb)
    replace HB := Lib.hid (after HB.out hb)
    have HK := Lib.hid (Ow.rd ho)
    clear ho
    clear hb
    have hil := HI.out.2.2.1
    have hgl := HG.out.2.2.1
    have hkl := HK.out.2.2.1
    go_wp2_with fail
    go_loop [17, 18] (fun u i => ∃ k : Nat, k ≤ ps.length ∧ i = .int .i64 k ∧ u = .int .i64 (wgt ids ps k)) (fun _ i => ps.length - (intOf i).toNat)
    case atStart => exact ⟨0, Nat.zero_le _, rfl, rfl⟩
    case round =>
      obtain ⟨k, hk, rfl, rfl⟩ := hrel
      by_cases hlt : k < ps.length
      · obtain ⟨ad, B1, d1, hPe, ⟨c0, c1, c2, c3, c4, c5⟩, _, _⟩ := HD.out.at_ hlt
        have i1 : (k : Int) < (ps.length : Int) := by omega
        have HY := Lib.hid (wgt_yes (ids := ids) hlt)
        have HNO := Lib.hid (wgt_no (ids := ids) hlt)
        have HFF := Lib.hid (fun h => HPL.out.free' hlt h)
        have hw0 := HWR.out k (by omega)
        have hw1 := HWT.out k hlt
        obtain ⟨x, hx⟩ : ∃ x, Hid (ps[k].i = x) := ⟨_, Lib.hid rfl⟩
        obtain ⟨tt, ht⟩ : ∃ x, Hid (ps[k].t = x) := ⟨_, Lib.hid rfl⟩
        rw [hx.out] at c0 HY HNO HFF
        rw [ht.out] at c5 HY hw1
        subst hPe
        clear c1 c2 c3 c4
        obtain ⟨S, hS⟩ : ∃ x, Hid (wgt ids ps k = x) := ⟨_, Lib.hid rfl⟩
        rw [hS.out] at HY HNO hw0 ⊢
        rcases Bool.eq_false_or_eq_true (hasI ids x) with hi | hi
        · have HS2 := Lib.hid (HY.out hi)
          clear HY HNO
          rcases Bool.eq_false_or_eq_true (hasI fr x) with hf | hf
          · skip
            clear HFF
            go_wp2_with fail
            refine (vHas_any I ic ids x w9 HI.out.cells hil).mono ?_
            rintro e w' ⟨rfl, hw⟩
            rw [← hw, hi]
            clear hw
            go_wp2_with fail
            refine (vHas_any G gc fr x w9 HG.out.cells hgl).mono ?_
            rintro e w' ⟨rfl, hw⟩
            rw [← hw, hf]
            clear hw
            go_wp2_with fail
            refine (vHas_any I ic ids x w9 HI.out.cells hil).mono ?_
            rintro e w' ⟨rfl, hw⟩
            rw [← hw, hi]
            clear hw
            go_wp2
            go_round
            case rel => exact ⟨k + 1, hlt, by go_num, by rw [HS2.out] <;> go_num⟩
            case measure => simp [intOf]; omega
          · skip
            clear HFF
            go_wp2_with fail
            refine (vHas_any I ic ids x w9 HI.out.cells hil).mono ?_
            rintro e w' ⟨rfl, hw⟩
            rw [← hw, hi]
            clear hw
            go_wp2_with fail
            refine (vHas_any G gc fr x w9 HG.out.cells hgl).mono ?_
            rintro e w' ⟨rfl, hw⟩
            rw [← hw, hf]
            clear hw
            go_wp2
            go_round
            case rel => exact ⟨k + 1, hlt, by go_num, by rw [HS2.out] <;> go_num⟩
            case measure => simp [intOf]; omega
        · have HS2 := Lib.hid (HNO.out hi)
          clear HY HNO
          rcases Bool.eq_false_or_eq_true (hasI fr x) with hf | hf
          · skip
            have := HFF.out hf
            rw [hi] at this
            cases this
          · skip
            clear HFF
            go_wp2_with fail
            refine (vHas_any I ic ids x w9 HI.out.cells hil).mono ?_
            rintro e w' ⟨rfl, hw⟩
            rw [← hw, hi]
            clear hw
            go_wp2_with fail
            refine (vHas_any G gc fr x w9 HG.out.cells hgl).mono ?_
            rintro e w' ⟨rfl, hw⟩
            rw [← hw, hf]
            clear hw
            go_wp2
            go_round
            case rel => exact ⟨k + 1, hlt, by go_num, by rw [HS2.out]⟩
            case measure => simp [intOf]; omega
      · obtain rfl : k = ps.length := by omega
        rw [HPL.out.sum]
        have HAL := Lib.hid HPL.out.all
        have HPP := Lib.hid HPL.out.pair
        clear HPL HWR HWT
        by_cases hz : pr.length = 0
        · have e0 : ((pr.length : Int) == 0) = true := by simp [hz]
          have e1 : ((ids.length : Int) != (ps.length : Int)) = false := by simp [HAL.out hz]
          clear HAL hz
          go_wp2_with fail
          go_loop [19] (fun i => ∃ k : Nat, k ≤ pr.length ∧ i = .int .i64 k) (fun i => pr.length - (intOf i).toNat)
          case atStart => exact ⟨0, Nat.zero_le _, rfl⟩
          case round =>
            obtain ⟨k, hk, rfl⟩ := hrel
            by_cases hlt : k < pr.length
            · obtain ⟨ad, hKe, p0, p1⟩ := pair_at HK.out.cells hlt
              have i1 : (k : Int) < (pr.length : Int) := by omega
              obtain ⟨g1, g2, g3⟩ := HPP.out _ (List.getElem_mem hlt)
              obtain ⟨x, hx⟩ : ∃ x, Hid (pr[k].1 = x) := ⟨_, Lib.hid rfl⟩
              obtain ⟨y, hy⟩ : ∃ x, Hid (pr[k].2 = x) := ⟨_, Lib.hid rfl⟩
              rw [hx.out] at g1 g2 p0
              rw [hy.out] at g1 g3 p1
              subst hKe
              rcases Bool.eq_false_or_eq_true (hasI ids x) with hi | hi
              · skip
                rw [hi, Bool.true_and] at g1
                go_wp2_with fail
                refine (vHas_any I ic ids x w9 HI.out.cells hil).mono ?_
                rintro e w' ⟨rfl, hw⟩
                rw [← hw, hi]
                clear hw
                go_wp2_with fail
                refine (vHas_any I ic ids y w9 HI.out.cells hil).mono ?_
                rintro e w' ⟨rfl, hw⟩
                rw [← hw, g1]
                clear hw
                go_wp2_with fail
                refine (vHas_any G gc fr x w9 HG.out.cells hgl).mono ?_
                rintro e w' ⟨rfl, hw⟩
                rw [← hw, g2]
                clear hw
                go_wp2_with fail
                refine (vHas_any G gc fr y w9 HG.out.cells hgl).mono ?_
                rintro e w' ⟨rfl, hw⟩
                rw [← hw, g3]
                clear hw
                go_wp2
                go_round
                case rel => exact ⟨k + 1, hlt, by go_num⟩
                case measure => simp [intOf]; omega
              · skip
                go_wp2_with fail
                refine (vHas_any I ic ids x w9 HI.out.cells hil).mono ?_
                rintro e w' ⟨rfl, hw⟩
                rw [← hw, hi]
                clear hw
                go_wp2_with fail
                refine (vHas_any G gc fr x w9 HG.out.cells hgl).mono ?_
                rintro e w' ⟨rfl, hw⟩
                rw [← hw, g2]
                clear hw
                go_wp2_with fail
                refine (vHas_any G gc fr y w9 HG.out.cells hgl).mono ?_
                rintro e w' ⟨rfl, hw⟩
                rw [← hw, g3]
                clear hw
                go_wp2
                go_round
                case rel => exact ⟨k + 1, hlt, by go_num⟩
                case measure => simp [intOf]; omega
            · obtain rfl : k = pr.length := by omega
              clear HPP
              clear HT HD HI HG HK
              go_wp2_with fail
              refine (DrawSecondaryChange_any A _ c w9 HBY.out hxl).mono ?_
              rintro e w10 ⟨N, M, nd, md, a, f, rfl, hX, hY, hb⟩
              replace HBY := Lib.hid (HBY.out.grow hb)
              replace HB := Lib.hid (after HB.out hb)
              have HN := Lib.hid (hX)
              have HM := Lib.hid (hY)
              clear hX hY
              clear hb
              clear HBY
              have HZ := Lib.hid (sec_law (a := a) (f := f))
              obtain ⟨sg, hsg⟩ : ∃ x, Hid (scR a f = x) := ⟨_, Lib.hid rfl⟩
              obtain ⟨so, hso⟩ : ∃ x, Hid (scOk a f = x) := ⟨_, Lib.hid rfl⟩
              rw [hsg.out] at HZ
              rw [hso.out] at HZ
              have hb := below2 w10 (.cells #[.int .i64 a.k, .int .i64 a.p, .int .i64 a.n, .slice N a.ws.length nd] 40) (.cells #[.int .i64 f.k, .int .i64 f.p, .int .i64 f.n, .slice M f.ws.length md] 40)
              replace HN := Lib.hid (HN.out.grow hb)
              replace HM := Lib.hid (HM.out.grow hb)
              replace HB := Lib.hid (after HB.out hb)
              have HQ1 := Lib.hid (BoxX.step (BoxX.new w10 #[.int .i64 a.k, .int .i64 a.p, .int .i64 a.n, .slice N a.ws.length nd] 40) (below1 _ (.cells #[.int .i64 f.k, .int .i64 f.p, .int .i64 f.n, .slice M f.ws.length md] 40)))
              have HQ2 := Lib.hid (show BoxX ((w10.alloc (.cells #[.int .i64 a.k, .int .i64 a.p, .int .i64 a.n, .slice N a.ws.length nd] 40)).alloc (.cells #[.int .i64 f.k, .int .i64 f.p, .int .i64 f.n, .slice M f.ws.length md] 40)) (w10.heap.size + 1) [.int .i64 f.k, .int .i64 f.p, .int .i64 f.n, .slice M f.ws.length md] from ⟨BoxF.new' _ #[.int .i64 f.k, .int .i64 f.p, .int .i64 f.n, .slice M f.ws.length md] _ _ (by simp), by simp⟩)
              clear hb
              go_upto_region 30 with fail
              generalize (w10.alloc (.cells #[.int .i64 a.k, .int .i64 a.p, .int .i64 a.n, .slice N a.ws.length nd] 40)).alloc (.cells #[.int .i64 f.k, .int .i64 f.p, .int .i64 f.n, .slice M f.ws.length md] 40) = w11 at *
              generalize w10.heap.size + 1 = qQ2 at *
              generalize w10.heap.size = qQ1 at *
              have xQ10 := HQ1.out.1.1 0 _ rfl
              have xQ11 := HQ1.out.1.1 1 _ rfl
              have xQ12 := HQ1.out.1.1 2 _ rfl
              have xQ13 := HQ1.out.1.1 3 _ rfl
              have xQ20 := HQ2.out.1.1 0 _ rfl
              have xQ21 := HQ2.out.1.1 1 _ rfl
              have xQ22 := HQ2.out.1.1 2 _ rfl
              have xQ23 := HQ2.out.1.1 3 _ rfl
              go_wp2_with fail
              refine (SecondaryChange_abs HN.out HM.out).mono ?_
              rintro e w12 ⟨C, cd, rfl, ho, hb⟩
              rw [hsg.out] at ho ⊢
              rw [hso.out]
              replace HN := Lib.hid (HN.out.grow hb)
              replace HM := Lib.hid (HM.out.grow hb)
              replace HQ1 := Lib.hid (HQ1.out.step hb)
              replace HQ2 := Lib.hid (HQ2.out.step hb)
              replace HB := Lib.hid (after HB.out hb)
              have HC := Lib.hid (OwS.rdX ho)
              clear xQ10 xQ11 xQ12 xQ13 xQ20 xQ21 xQ22 xQ23 ho
              clear hb
              have hb := below1 w12 (.cells #[.int .i64 sg.k, .int .i64 sg.p, .int .i64 sg.n, .slice C sg.ws.length cd] 40)
              replace HN := Lib.hid (HN.out.grow hb)
              replace HM := Lib.hid (HM.out.grow hb)
              replace HQ1 := Lib.hid (HQ1.out.step hb)
              replace HQ2 := Lib.hid (HQ2.out.step hb)
              replace HC := Lib.hid (HC.out.grow hb)
              replace HB := Lib.hid (after HB.out hb)
              have HQ3 := Lib.hid (BoxX.new w12 #[.int .i64 sg.k, .int .i64 sg.p, .int .i64 sg.n, .slice C sg.ws.length cd] 40)
              clear hb
              go_upto_region 31 with fail
              generalize w12.alloc (.cells #[.int .i64 sg.k, .int .i64 sg.p, .int .i64 sg.n, .slice C sg.ws.length cd] 40) = w13 at *
              generalize w12.heap.size = qQ3 at *
              have xQ10 := HQ1.out.1.1 0 _ rfl
              have xQ11 := HQ1.out.1.1 1 _ rfl
              have xQ12 := HQ1.out.1.1 2 _ rfl
              have xQ13 := HQ1.out.1.1 3 _ rfl
              have xQ20 := HQ2.out.1.1 0 _ rfl
              have xQ21 := HQ2.out.1.1 1 _ rfl
              have xQ22 := HQ2.out.1.1 2 _ rfl
              have xQ23 := HQ2.out.1.1 3 _ rfl
              go_wp2_with fail
              refine (sSecondaryChange_abs HN.out HM.out).mono ?_
              rintro e w14 ⟨K, kd, rfl, ho, hb⟩
              rw [hsg.out] at ho ⊢
              rw [hso.out]
              replace HN := Lib.hid (HN.out.grow hb)
              replace HM := Lib.hid (HM.out.grow hb)
              replace HQ1 := Lib.hid (HQ1.out.step hb)
              replace HQ2 := Lib.hid (HQ2.out.step hb)
              replace HC := Lib.hid (HC.out.grow hb)
              replace HQ3 := Lib.hid (HQ3.out.step hb)
              replace HB := Lib.hid (after HB.out hb)
              have HK := Lib.hid (OwS.rdX ho)
              clear xQ10 xQ11 xQ12 xQ13 xQ20 xQ21 xQ22 xQ23 ho
              clear hb
              have hb := below1 w14 (.cells #[.int .i64 sg.k, .int .i64 sg.p, .int .i64 sg.n, .slice K sg.ws.length kd] 40)
              replace HN := Lib.hid (HN.out.grow hb)
              replace HM := Lib.hid (HM.out.grow hb)
              replace HQ1 := Lib.hid (HQ1.out.step hb)
              replace HQ2 := Lib.hid (HQ2.out.step hb)
              replace HC := Lib.hid (HC.out.grow hb)
              replace HQ3 := Lib.hid (HQ3.out.step hb)
              replace HK := Lib.hid (HK.out.grow hb)
              replace HB := Lib.hid (after HB.out hb)
              have HQ4 := Lib.hid (BoxX.new w14 #[.int .i64 sg.k, .int .i64 sg.p, .int .i64 sg.n, .slice K sg.ws.length kd] 40)
              clear hb
              go_upto_region 32 with fail
              generalize w14.alloc (.cells #[.int .i64 sg.k, .int .i64 sg.p, .int .i64 sg.n, .slice K sg.ws.length kd] 40) = w15 at *
              generalize w14.heap.size = qQ4 at *
              have xQ30 := HQ3.out.1.1 0 _ rfl
              have xQ31 := HQ3.out.1.1 1 _ rfl
              have xQ32 := HQ3.out.1.1 2 _ rfl
              have xQ33 := HQ3.out.1.1 3 _ rfl
              have xQ40 := HQ4.out.1.1 0 _ rfl
              have xQ41 := HQ4.out.1.1 1 _ rfl
              have xQ42 := HQ4.out.1.1 2 _ rfl
              have xQ43 := HQ4.out.1.1 3 _ rfl
              go_wp2_with fail
              refine (vAmendment_same HC.out HK.out).mono ?_
              rintro e w16 ⟨rfl, hb⟩
              replace HN := Lib.hid (HN.out.grow hb)
              replace HM := Lib.hid (HM.out.grow hb)
              replace HQ1 := Lib.hid (HQ1.out.step hb)
              replace HQ2 := Lib.hid (HQ2.out.step hb)
              replace HC := Lib.hid (HC.out.grow hb)
              replace HQ3 := Lib.hid (HQ3.out.step hb)
              replace HK := Lib.hid (HK.out.grow hb)
              replace HQ4 := Lib.hid (HQ4.out.step hb)
              replace HB := Lib.hid (after HB.out hb)
              clear xQ30 xQ31 xQ32 xQ33 xQ40 xQ41 xQ42 xQ43
              clear hb
              clear HQ4 HK
              rcases Bool.eq_false_or_eq_true so with hs | hs
              · subst hs
                obtain ⟨hz1, hz2, hz3, hz4, hz5⟩ := HZ.out (by simp)
                have HZ1 := Lib.hid hz1
                have HZ2 := Lib.hid hz2
                have e3 : (sg.k == a.k) = true := by simp [hz3]
                have e4 : (sg.p == a.p) = true := by simp [hz4]
                have e5 : (sg.n == a.n) = true := by simp [hz5]
                clear hz1 hz2 hz3 hz4 hz5 HZ
                have xQ10 := HQ1.out.1.1 0 _ rfl
                have xQ11 := HQ1.out.1.1 1 _ rfl
                have xQ12 := HQ1.out.1.1 2 _ rfl
                have xQ13 := HQ1.out.1.1 3 _ rfl
                have xQ20 := HQ2.out.1.1 0 _ rfl
                have xQ21 := HQ2.out.1.1 1 _ rfl
                have xQ22 := HQ2.out.1.1 2 _ rfl
                have xQ23 := HQ2.out.1.1 3 _ rfl
                go_wp2_with fail
                refine (ApplyAmendment_abs HN.out HM.out).mono ?_
                rintro e w17 ⟨X, xd, rfl, ho, hb⟩
                rw [HZ2.out] at ho ⊢
                rw [HZ1.out]
                replace HN := Lib.hid (HN.out.grow hb)
                replace HM := Lib.hid (HM.out.grow hb)
                replace HQ1 := Lib.hid (HQ1.out.step hb)
                replace HQ2 := Lib.hid (HQ2.out.step hb)
                replace HC := Lib.hid (HC.out.grow hb)
                replace HQ3 := Lib.hid (HQ3.out.step hb)
                replace HB := Lib.hid (after HB.out hb)
                have HX := Lib.hid (OwS.rdX ho)
                clear xQ10 xQ11 xQ12 xQ13 xQ20 xQ21 xQ22 xQ23 ho
                clear hb
                have xQ30 := HQ3.out.1.1 0 _ rfl
                have xQ31 := HQ3.out.1.1 1 _ rfl
                have xQ32 := HQ3.out.1.1 2 _ rfl
                have xQ33 := HQ3.out.1.1 3 _ rfl
                have xQ10 := HQ1.out.1.1 0 _ rfl
                have xQ11 := HQ1.out.1.1 1 _ rfl
                have xQ12 := HQ1.out.1.1 2 _ rfl
                have xQ13 := HQ1.out.1.1 3 _ rfl
                go_wp2_with fail
                refine (vTexts_same HX.out HC.out).mono ?_
                rintro e w18 ⟨rfl, hb⟩
                replace HN := Lib.hid (HN.out.grow hb)
                replace HM := Lib.hid (HM.out.grow hb)
                replace HQ1 := Lib.hid (HQ1.out.step hb)
                replace HQ2 := Lib.hid (HQ2.out.step hb)
                replace HC := Lib.hid (HC.out.grow hb)
                replace HQ3 := Lib.hid (HQ3.out.step hb)
                replace HX := Lib.hid (HX.out.grow hb)
                replace HB := Lib.hid (after HB.out hb)
                clear xQ30 xQ31 xQ32 xQ33 xQ10 xQ11 xQ12 xQ13
                clear hb
                have xQ30 := HQ3.out.1.1 0 _ rfl
                have xQ31 := HQ3.out.1.1 1 _ rfl
                have xQ32 := HQ3.out.1.1 2 _ rfl
                have xQ33 := HQ3.out.1.1 3 _ rfl
                have xQ10 := HQ1.out.1.1 0 _ rfl
                have xQ11 := HQ1.out.1.1 1 _ rfl
                have xQ12 := HQ1.out.1.1 2 _ rfl
                have xQ13 := HQ1.out.1.1 3 _ rfl
                go_wp2
                go_ret
                exact ⟨rfl, HB.out⟩
              · subst hs
                go_wp2
                go_ret
                exact ⟨rfl, HB.out⟩
        · have e0 : ((pr.length : Int) == 0) = false := by rw [beq_eq_false_iff_ne]; omega
          clear HAL hz
          go_wp2_with fail
          go_loop [19] (fun i => ∃ k : Nat, k ≤ pr.length ∧ i = .int .i64 k) (fun i => pr.length - (intOf i).toNat)
          case atStart => exact ⟨0, Nat.zero_le _, rfl⟩
          case round =>
            obtain ⟨k, hk, rfl⟩ := hrel
            by_cases hlt : k < pr.length
            · obtain ⟨ad, hKe, p0, p1⟩ := pair_at HK.out.cells hlt
              have i1 : (k : Int) < (pr.length : Int) := by omega
              obtain ⟨g1, g2, g3⟩ := HPP.out _ (List.getElem_mem hlt)
              obtain ⟨x, hx⟩ : ∃ x, Hid (pr[k].1 = x) := ⟨_, Lib.hid rfl⟩
              obtain ⟨y, hy⟩ : ∃ x, Hid (pr[k].2 = x) := ⟨_, Lib.hid rfl⟩
              rw [hx.out] at g1 g2 p0
              rw [hy.out] at g1 g3 p1
              subst hKe
              rcases Bool.eq_false_or_eq_true (hasI ids x) with hi | hi
              · skip
                rw [hi, Bool.true_and] at g1
                go_wp2_with fail
                refine (vHas_any I ic ids x w9 HI.out.cells hil).mono ?_
                rintro e w' ⟨rfl, hw⟩
                rw [← hw, hi]
                clear hw
                go_wp2_with fail
                refine (vHas_any I ic ids y w9 HI.out.cells hil).mono ?_
                rintro e w' ⟨rfl, hw⟩
                rw [← hw, g1]
                clear hw
                go_wp2_with fail
                refine (vHas_any G gc fr x w9 HG.out.cells hgl).mono ?_
                rintro e w' ⟨rfl, hw⟩
                rw [← hw, g2]
                clear hw
                go_wp2_with fail
                refine (vHas_any G gc fr y w9 HG.out.cells hgl).mono ?_
                rintro e w' ⟨rfl, hw⟩
                rw [← hw, g3]
                clear hw
                go_wp2
                go_round
                case rel => exact ⟨k + 1, hlt, by go_num⟩
                case measure => simp [intOf]; omega
              · skip
                go_wp2_with fail
                refine (vHas_any I ic ids x w9 HI.out.cells hil).mono ?_
                rintro e w' ⟨rfl, hw⟩
                rw [← hw, hi]
                clear hw
                go_wp2_with fail
                refine (vHas_any G gc fr x w9 HG.out.cells hgl).mono ?_
                rintro e w' ⟨rfl, hw⟩
                rw [← hw, g2]
                clear hw
                go_wp2_with fail
                refine (vHas_any G gc fr y w9 HG.out.cells hgl).mono ?_
                rintro e w' ⟨rfl, hw⟩
                rw [← hw, g3]
                clear hw
                go_wp2
                go_round
                case rel => exact ⟨k + 1, hlt, by go_num⟩
                case measure => simp [intOf]; omega
            · obtain rfl : k = pr.length := by omega
              clear HPP
              clear HT HD HI HG HK
              go_wp2_with fail
              refine (DrawSecondaryChange_any A _ c w9 HBY.out hxl).mono ?_
              rintro e w19 ⟨N, M, nd, md, a, f, rfl, hX, hY, hb⟩
              replace HBY := Lib.hid (HBY.out.grow hb)
              replace HB := Lib.hid (after HB.out hb)
              have HN := Lib.hid (hX)
              have HM := Lib.hid (hY)
              clear hX hY
              clear hb
              clear HBY
              have HZ := Lib.hid (sec_law (a := a) (f := f))
              obtain ⟨sg, hsg⟩ : ∃ x, Hid (scR a f = x) := ⟨_, Lib.hid rfl⟩
              obtain ⟨so, hso⟩ : ∃ x, Hid (scOk a f = x) := ⟨_, Lib.hid rfl⟩
              rw [hsg.out] at HZ
              rw [hso.out] at HZ
              have hb := below2 w19 (.cells #[.int .i64 a.k, .int .i64 a.p, .int .i64 a.n, .slice N a.ws.length nd] 40) (.cells #[.int .i64 f.k, .int .i64 f.p, .int .i64 f.n, .slice M f.ws.length md] 40)
              replace HN := Lib.hid (HN.out.grow hb)
              replace HM := Lib.hid (HM.out.grow hb)
              replace HB := Lib.hid (after HB.out hb)
              have HQ1 := Lib.hid (BoxX.step (BoxX.new w19 #[.int .i64 a.k, .int .i64 a.p, .int .i64 a.n, .slice N a.ws.length nd] 40) (below1 _ (.cells #[.int .i64 f.k, .int .i64 f.p, .int .i64 f.n, .slice M f.ws.length md] 40)))
              have HQ2 := Lib.hid (show BoxX ((w19.alloc (.cells #[.int .i64 a.k, .int .i64 a.p, .int .i64 a.n, .slice N a.ws.length nd] 40)).alloc (.cells #[.int .i64 f.k, .int .i64 f.p, .int .i64 f.n, .slice M f.ws.length md] 40)) (w19.heap.size + 1) [.int .i64 f.k, .int .i64 f.p, .int .i64 f.n, .slice M f.ws.length md] from ⟨BoxF.new' _ #[.int .i64 f.k, .int .i64 f.p, .int .i64 f.n, .slice M f.ws.length md] _ _ (by simp), by simp⟩)
              clear hb
              go_upto_region 30 with fail
              generalize (w19.alloc (.cells #[.int .i64 a.k, .int .i64 a.p, .int .i64 a.n, .slice N a.ws.length nd] 40)).alloc (.cells #[.int .i64 f.k, .int .i64 f.p, .int .i64 f.n, .slice M f.ws.length md] 40) = w20 at *
              generalize w19.heap.size + 1 = qQ2 at *
              generalize w19.heap.size = qQ1 at *
              have xQ10 := HQ1.out.1.1 0 _ rfl
              have xQ11 := HQ1.out.1.1 1 _ rfl
              have xQ12 := HQ1.out.1.1 2 _ rfl
              have xQ13 := HQ1.out.1.1 3 _ rfl
              have xQ20 := HQ2.out.1.1 0 _ rfl
              have xQ21 := HQ2.out.1.1 1 _ rfl
              have xQ22 := HQ2.out.1.1 2 _ rfl
              have xQ23 := HQ2.out.1.1 3 _ rfl
              go_wp2_with fail
              refine (SecondaryChange_abs HN.out HM.out).mono ?_
              rintro e w21 ⟨C, cd, rfl, ho, hb⟩
              rw [hsg.out] at ho ⊢
              rw [hso.out]
              replace HN := Lib.hid (HN.out.grow hb)
              replace HM := Lib.hid (HM.out.grow hb)
              replace HQ1 := Lib.hid (HQ1.out.step hb)
              replace HQ2 := Lib.hid (HQ2.out.step hb)
              replace HB := Lib.hid (after HB.out hb)
              have HC := Lib.hid (OwS.rdX ho)
              clear xQ10 xQ11 xQ12 xQ13 xQ20 xQ21 xQ22 xQ23 ho
              clear hb
              have hb := below1 w21 (.cells #[.int .i64 sg.k, .int .i64 sg.p, .int .i64 sg.n, .slice C sg.ws.length cd] 40)
              replace HN := Lib.hid (HN.out.grow hb)
              replace HM := Lib.hid (HM.out.grow hb)
              replace HQ1 := Lib.hid (HQ1.out.step hb)
              replace HQ2 := Lib.hid (HQ2.out.step hb)
              replace HC := Lib.hid (HC.out.grow hb)
              replace HB := Lib.hid (after HB.out hb)
              have HQ3 := Lib.hid (BoxX.new w21 #[.int .i64 sg.k, .int .i64 sg.p, .int .i64 sg.n, .slice C sg.ws.length cd] 40)
              clear hb
              go_upto_region 31 with fail
              generalize w21.alloc (.cells #[.int .i64 sg.k, .int .i64 sg.p, .int .i64 sg.n, .slice C sg.ws.length cd] 40) = w22 at *
              generalize w21.heap.size = qQ3 at *
              have xQ10 := HQ1.out.1.1 0 _ rfl
              have xQ11 := HQ1.out.1.1 1 _ rfl
              have xQ12 := HQ1.out.1.1 2 _ rfl
              have xQ13 := HQ1.out.1.1 3 _ rfl
              have xQ20 := HQ2.out.1.1 0 _ rfl
              have xQ21 := HQ2.out.1.1 1 _ rfl
              have xQ22 := HQ2.out.1.1 2 _ rfl
              have xQ23 := HQ2.out.1.1 3 _ rfl
              go_wp2_with fail
              refine (sSecondaryChange_abs HN.out HM.out).mono ?_
              rintro e w23 ⟨K, kd, rfl, ho, hb⟩
              rw [hsg.out] at ho ⊢
              rw [hso.out]
              replace HN := Lib.hid (HN.out.grow hb)
              replace HM := Lib.hid (HM.out.grow hb)
              replace HQ1 := Lib.hid (HQ1.out.step hb)
              replace HQ2 := Lib.hid (HQ2.out.step hb)
              replace HC := Lib.hid (HC.out.grow hb)
              replace HQ3 := Lib.hid (HQ3.out.step hb)
              replace HB := Lib.hid (after HB.out hb)
              have HK := Lib.hid (OwS.rdX ho)
              clear xQ10 xQ11 xQ12 xQ13 xQ20 xQ21 xQ22 xQ23 ho
              clear hb
              have hb := below1 w23 (.cells #[.int .i64 sg.k, .int .i64 sg.p, .int .i64 sg.n, .slice K sg.ws.length kd] 40)
              replace HN := Lib.hid (HN.out.grow hb)
              replace HM := Lib.hid (HM.out.grow hb)
              replace HQ1 := Lib.hid (HQ1.out.step hb)
              replace HQ2 := Lib.hid (HQ2.out.step hb)
              replace HC := Lib.hid (HC.out.grow hb)
              replace HQ3 := Lib.hid (HQ3.out.step hb)
              replace HK := Lib.hid (HK.out.grow hb)
              replace HB := Lib.hid (after HB.out hb)
              have HQ4 := Lib.hid (BoxX.new w23 #[.int .i64 sg.k, .int .i64 sg.p, .int .i64 sg.n, .slice K sg.ws.length kd] 40)
              clear hb
              go_upto_region 32 with fail
              generalize w23.alloc (.cells #[.int .i64 sg.k, .int .i64 sg.p, .int .i64 sg.n, .slice K sg.ws.length kd] 40) = w24 at *
              generalize w23.heap.size = qQ4 at *
              have xQ30 := HQ3.out.1.1 0 _ rfl
              have xQ31 := HQ3.out.1.1 1 _ rfl
              have xQ32 := HQ3.out.1.1 2 _ rfl
              have xQ33 := HQ3.out.1.1 3 _ rfl
              have xQ40 := HQ4.out.1.1 0 _ rfl
              have xQ41 := HQ4.out.1.1 1 _ rfl
              have xQ42 := HQ4.out.1.1 2 _ rfl
              have xQ43 := HQ4.out.1.1 3 _ rfl
              go_wp2_with fail
              refine (vAmendment_same HC.out HK.out).mono ?_
              rintro e w25 ⟨rfl, hb⟩
              replace HN := Lib.hid (HN.out.grow hb)
              replace HM := Lib.hid (HM.out.grow hb)
              replace HQ1 := Lib.hid (HQ1.out.step hb)
              replace HQ2 := Lib.hid (HQ2.out.step hb)
              replace HC := Lib.hid (HC.out.grow hb)
              replace HQ3 := Lib.hid (HQ3.out.step hb)
              replace HK := Lib.hid (HK.out.grow hb)
              replace HQ4 := Lib.hid (HQ4.out.step hb)
              replace HB := Lib.hid (after HB.out hb)
              clear xQ30 xQ31 xQ32 xQ33 xQ40 xQ41 xQ42 xQ43
              clear hb
              clear HQ4 HK
              rcases Bool.eq_false_or_eq_true so with hs | hs
              · subst hs
                obtain ⟨hz1, hz2, hz3, hz4, hz5⟩ := HZ.out (by simp)
                have HZ1 := Lib.hid hz1
                have HZ2 := Lib.hid hz2
                have e3 : (sg.k == a.k) = true := by simp [hz3]
                have e4 : (sg.p == a.p) = true := by simp [hz4]
                have e5 : (sg.n == a.n) = true := by simp [hz5]
                clear hz1 hz2 hz3 hz4 hz5 HZ
                have xQ10 := HQ1.out.1.1 0 _ rfl
                have xQ11 := HQ1.out.1.1 1 _ rfl
                have xQ12 := HQ1.out.1.1 2 _ rfl
                have xQ13 := HQ1.out.1.1 3 _ rfl
                have xQ20 := HQ2.out.1.1 0 _ rfl
                have xQ21 := HQ2.out.1.1 1 _ rfl
                have xQ22 := HQ2.out.1.1 2 _ rfl
                have xQ23 := HQ2.out.1.1 3 _ rfl
                go_wp2_with fail
                refine (ApplyAmendment_abs HN.out HM.out).mono ?_
                rintro e w26 ⟨X, xd, rfl, ho, hb⟩
                rw [HZ2.out] at ho ⊢
                rw [HZ1.out]
                replace HN := Lib.hid (HN.out.grow hb)
                replace HM := Lib.hid (HM.out.grow hb)
                replace HQ1 := Lib.hid (HQ1.out.step hb)
                replace HQ2 := Lib.hid (HQ2.out.step hb)
                replace HC := Lib.hid (HC.out.grow hb)
                replace HQ3 := Lib.hid (HQ3.out.step hb)
                replace HB := Lib.hid (after HB.out hb)
                have HX := Lib.hid (OwS.rdX ho)
                clear xQ10 xQ11 xQ12 xQ13 xQ20 xQ21 xQ22 xQ23 ho
                clear hb
                have xQ30 := HQ3.out.1.1 0 _ rfl
                have xQ31 := HQ3.out.1.1 1 _ rfl
                have xQ32 := HQ3.out.1.1 2 _ rfl
                have xQ33 := HQ3.out.1.1 3 _ rfl
                have xQ10 := HQ1.out.1.1 0 _ rfl
                have xQ11 := HQ1.out.1.1 1 _ rfl
                have xQ12 := HQ1.out.1.1 2 _ rfl
                have xQ13 := HQ1.out.1.1 3 _ rfl
                go_wp2_with fail
                refine (vTexts_same HX.out HC.out).mono ?_
                rintro e w27 ⟨rfl, hb⟩
                replace HN := Lib.hid (HN.out.grow hb)
                replace HM := Lib.hid (HM.out.grow hb)
                replace HQ1 := Lib.hid (HQ1.out.step hb)
                replace HQ2 := Lib.hid (HQ2.out.step hb)
                replace HC := Lib.hid (HC.out.grow hb)
                replace HQ3 := Lib.hid (HQ3.out.step hb)
                replace HX := Lib.hid (HX.out.grow hb)
                replace HB := Lib.hid (after HB.out hb)
                clear xQ30 xQ31 xQ32 xQ33 xQ10 xQ11 xQ12 xQ13
                clear hb
                have xQ30 := HQ3.out.1.1 0 _ rfl
                have xQ31 := HQ3.out.1.1 1 _ rfl
                have xQ32 := HQ3.out.1.1 2 _ rfl
                have xQ33 := HQ3.out.1.1 3 _ rfl
                have xQ10 := HQ1.out.1.1 0 _ rfl
                have xQ11 := HQ1.out.1.1 1 _ rfl
                have xQ12 := HQ1.out.1.1 2 _ rfl
                have xQ13 := HQ1.out.1.1 3 _ rfl
                go_wp2
                go_ret
                exact ⟨rfl, HB.out⟩
              · subst hs
                go_wp2
                go_ret
                exact ⟨rfl, HB.out⟩
  · subst hk
    clear HT HD HI HG
    clear HL HW HE
    go_wp2_with fail
    refine (DrawSecondaryChange_any A _ c w8 HBY.out hxl).mono ?_
    rintro e w28 ⟨N, M, nd, md, a, f, rfl, hX, hY, hb⟩
    replace HBY := Lib.hid (HBY.out.grow hb)
    replace HB := Lib.hid (after HB.out hb)
    have HN := Lib.hid (hX)
    have HM := Lib.hid (hY)
    clear hX hY
    clear hb
    clear HBY
    have HZ := Lib.hid (sec_law (a := a) (f := f))
    obtain ⟨sg, hsg⟩ : ∃ x, Hid (scR a f = x) := ⟨_, Lib.hid rfl⟩
    obtain ⟨so, hso⟩ : ∃ x, Hid (scOk a f = x) := ⟨_, Lib.hid rfl⟩
    rw [hsg.out] at HZ
    rw [hso.out] at HZ
    have hb := below2 w28 (.cells #[.int .i64 a.k, .int .i64 a.p, .int .i64 a.n, .slice N a.ws.length nd] 40) (.cells #[.int .i64 f.k, .int .i64 f.p, .int .i64 f.n, .slice M f.ws.length md] 40)
    replace HN := Lib.hid (HN.out.grow hb)
    replace HM := Lib.hid (HM.out.grow hb)
    replace HB := Lib.hid (after HB.out hb)
    have HQ1 := Lib.hid (BoxX.step (BoxX.new w28 #[.int .i64 a.k, .int .i64 a.p, .int .i64 a.n, .slice N a.ws.length nd] 40) (below1 _ (.cells #[.int .i64 f.k, .int .i64 f.p, .int .i64 f.n, .slice M f.ws.length md] 40)))
    have HQ2 := Lib.hid (show BoxX ((w28.alloc (.cells #[.int .i64 a.k, .int .i64 a.p, .int .i64 a.n, .slice N a.ws.length nd] 40)).alloc (.cells #[.int .i64 f.k, .int .i64 f.p, .int .i64 f.n, .slice M f.ws.length md] 40)) (w28.heap.size + 1) [.int .i64 f.k, .int .i64 f.p, .int .i64 f.n, .slice M f.ws.length md] from ⟨BoxF.new' _ #[.int .i64 f.k, .int .i64 f.p, .int .i64 f.n, .slice M f.ws.length md] _ _ (by simp), by simp⟩)
    clear hb
    go_upto_region 30 with fail
    generalize (w28.alloc (.cells #[.int .i64 a.k, .int .i64 a.p, .int .i64 a.n, .slice N a.ws.length nd] 40)).alloc (.cells #[.int .i64 f.k, .int .i64 f.p, .int .i64 f.n, .slice M f.ws.length md] 40) = w29 at *
    generalize w28.heap.size + 1 = qQ2 at *
    generalize w28.heap.size = qQ1 at *
    have xQ10 := HQ1.out.1.1 0 _ rfl
    have xQ11 := HQ1.out.1.1 1 _ rfl
    have xQ12 := HQ1.out.1.1 2 _ rfl
    have xQ13 := HQ1.out.1.1 3 _ rfl
    have xQ20 := HQ2.out.1.1 0 _ rfl
    have xQ21 := HQ2.out.1.1 1 _ rfl
    have xQ22 := HQ2.out.1.1 2 _ rfl
    have xQ23 := HQ2.out.1.1 3 _ rfl
    go_wp2_with fail
    refine (SecondaryChange_abs HN.out HM.out).mono ?_
    rintro e w30 ⟨C, cd, rfl, ho, hb⟩
    rw [hsg.out] at ho ⊢
    rw [hso.out]
    replace HN := Lib.hid (HN.out.grow hb)
    replace HM := Lib.hid (HM.out.grow hb)
    replace HQ1 := Lib.hid (HQ1.out.step hb)
    replace HQ2 := Lib.hid (HQ2.out.step hb)
    replace HB := Lib.hid (after HB.out hb)
    have HC := Lib.hid (OwS.rdX ho)
    clear xQ10 xQ11 xQ12 xQ13 xQ20 xQ21 xQ22 xQ23 ho
    clear hb
    have hb := below1 w30 (.cells #[.int .i64 sg.k, .int .i64 sg.p, .int .i64 sg.n, .slice C sg.ws.length cd] 40)
    replace HN := Lib.hid (HN.out.grow hb)
    replace HM := Lib.hid (HM.out.grow hb)
    replace HQ1 := Lib.hid (HQ1.out.step hb)
    replace HQ2 := Lib.hid (HQ2.out.step hb)
    replace HC := Lib.hid (HC.out.grow hb)
    replace HB := Lib.hid (after HB.out hb)
    have HQ3 := Lib.hid (BoxX.new w30 #[.int .i64 sg.k, .int .i64 sg.p, .int .i64 sg.n, .slice C sg.ws.length cd] 40)
    clear hb
    go_upto_region 31 with fail
    generalize w30.alloc (.cells #[.int .i64 sg.k, .int .i64 sg.p, .int .i64 sg.n, .slice C sg.ws.length cd] 40) = w31 at *
    generalize w30.heap.size = qQ3 at *
    have xQ10 := HQ1.out.1.1 0 _ rfl
    have xQ11 := HQ1.out.1.1 1 _ rfl
    have xQ12 := HQ1.out.1.1 2 _ rfl
    have xQ13 := HQ1.out.1.1 3 _ rfl
    have xQ20 := HQ2.out.1.1 0 _ rfl
    have xQ21 := HQ2.out.1.1 1 _ rfl
    have xQ22 := HQ2.out.1.1 2 _ rfl
    have xQ23 := HQ2.out.1.1 3 _ rfl
    go_wp2_with fail
    refine (sSecondaryChange_abs HN.out HM.out).mono ?_
    rintro e w32 ⟨K, kd, rfl, ho, hb⟩
    rw [hsg.out] at ho ⊢
    rw [hso.out]
    replace HN := Lib.hid (HN.out.grow hb)
    replace HM := Lib.hid (HM.out.grow hb)
    replace HQ1 := Lib.hid (HQ1.out.step hb)
    replace HQ2 := Lib.hid (HQ2.out.step hb)
    replace HC := Lib.hid (HC.out.grow hb)
    replace HQ3 := Lib.hid (HQ3.out.step hb)
    replace HB := Lib.hid (after HB.out hb)
    have HK := Lib.hid (OwS.rdX ho)
    clear xQ10 xQ11 xQ12 xQ13 xQ20 xQ21 xQ22 xQ23 ho
    clear hb
    have hb := below1 w32 (.cells #[.int .i64 sg.k, .int .i64 sg.p, .int .i64 sg.n, .slice K sg.ws.length kd] 40)
    replace HN := Lib.hid (HN.out.grow hb)
    replace HM := Lib.hid (HM.out.grow hb)
    replace HQ1 := Lib.hid (HQ1.out.step hb)
    replace HQ2 := Lib.hid (HQ2.out.step hb)
    replace HC := Lib.hid (HC.out.grow hb)
    replace HQ3 := Lib.hid (HQ3.out.step hb)
    replace HK := Lib.hid (HK.out.grow hb)
    replace HB := Lib.hid (after HB.out hb)
    have HQ4 := Lib.hid (BoxX.new w32 #[.int .i64 sg.k, .int .i64 sg.p, .int .i64 sg.n, .slice K sg.ws.length kd] 40)
    clear hb
    go_upto_region 32 with fail
    generalize w32.alloc (.cells #[.int .i64 sg.k, .int .i64 sg.p, .int .i64 sg.n, .slice K sg.ws.length kd] 40) = w33 at *
    generalize w32.heap.size = qQ4 at *
    have xQ30 := HQ3.out.1.1 0 _ rfl
    have xQ31 := HQ3.out.1.1 1 _ rfl
    have xQ32 := HQ3.out.1.1 2 _ rfl
    have xQ33 := HQ3.out.1.1 3 _ rfl
    have xQ40 := HQ4.out.1.1 0 _ rfl
    have xQ41 := HQ4.out.1.1 1 _ rfl
    have xQ42 := HQ4.out.1.1 2 _ rfl
    have xQ43 := HQ4.out.1.1 3 _ rfl
    go_wp2_with fail
    refine (vAmendment_same HC.out HK.out).mono ?_
    rintro e w34 ⟨rfl, hb⟩
    replace HN := Lib.hid (HN.out.grow hb)
    replace HM := Lib.hid (HM.out.grow hb)
    replace HQ1 := Lib.hid (HQ1.out.step hb)
    replace HQ2 := Lib.hid (HQ2.out.step hb)
    replace HC := Lib.hid (HC.out.grow hb)
    replace HQ3 := Lib.hid (HQ3.out.step hb)
    replace HK := Lib.hid (HK.out.grow hb)
    replace HQ4 := Lib.hid (HQ4.out.step hb)
    replace HB := Lib.hid (after HB.out hb)
    clear xQ30 xQ31 xQ32 xQ33 xQ40 xQ41 xQ42 xQ43
    clear hb
    clear HQ4 HK
    rcases Bool.eq_false_or_eq_true so with hs | hs
    · subst hs
      obtain ⟨hz1, hz2, hz3, hz4, hz5⟩ := HZ.out (by simp)
      have HZ1 := Lib.hid hz1
      have HZ2 := Lib.hid hz2
      have e3 : (sg.k == a.k) = true := by simp [hz3]
      have e4 : (sg.p == a.p) = true := by simp [hz4]
      have e5 : (sg.n == a.n) = true := by simp [hz5]
      clear hz1 hz2 hz3 hz4 hz5 HZ
      have xQ10 := HQ1.out.1.1 0 _ rfl
      have xQ11 := HQ1.out.1.1 1 _ rfl
      have xQ12 := HQ1.out.1.1 2 _ rfl
      have xQ13 := HQ1.out.1.1 3 _ rfl
      have xQ20 := HQ2.out.1.1 0 _ rfl
      have xQ21 := HQ2.out.1.1 1 _ rfl
      have xQ22 := HQ2.out.1.1 2 _ rfl
      have xQ23 := HQ2.out.1.1 3 _ rfl
      go_wp2_with fail
      refine (ApplyAmendment_abs HN.out HM.out).mono ?_
      rintro e w35 ⟨X, xd, rfl, ho, hb⟩
      rw [HZ2.out] at ho ⊢
      rw [HZ1.out]
      replace HN := Lib.hid (HN.out.grow hb)
      replace HM := Lib.hid (HM.out.grow hb)
      replace HQ1 := Lib.hid (HQ1.out.step hb)
      replace HQ2 := Lib.hid (HQ2.out.step hb)
      replace HC := Lib.hid (HC.out.grow hb)
      replace HQ3 := Lib.hid (HQ3.out.step hb)
      replace HB := Lib.hid (after HB.out hb)
      have HX := Lib.hid (OwS.rdX ho)
      clear xQ10 xQ11 xQ12 xQ13 xQ20 xQ21 xQ22 xQ23 ho
      clear hb
      have xQ30 := HQ3.out.1.1 0 _ rfl
      have xQ31 := HQ3.out.1.1 1 _ rfl
      have xQ32 := HQ3.out.1.1 2 _ rfl
      have xQ33 := HQ3.out.1.1 3 _ rfl
      have xQ10 := HQ1.out.1.1 0 _ rfl
      have xQ11 := HQ1.out.1.1 1 _ rfl
      have xQ12 := HQ1.out.1.1 2 _ rfl
      have xQ13 := HQ1.out.1.1 3 _ rfl
      go_wp2_with fail
      refine (vTexts_same HX.out HC.out).mono ?_
      rintro e w36 ⟨rfl, hb⟩
      replace HN := Lib.hid (HN.out.grow hb)
      replace HM := Lib.hid (HM.out.grow hb)
      replace HQ1 := Lib.hid (HQ1.out.step hb)
      replace HQ2 := Lib.hid (HQ2.out.step hb)
      replace HC := Lib.hid (HC.out.grow hb)
      replace HQ3 := Lib.hid (HQ3.out.step hb)
      replace HX := Lib.hid (HX.out.grow hb)
      replace HB := Lib.hid (after HB.out hb)
      clear xQ30 xQ31 xQ32 xQ33 xQ10 xQ11 xQ12 xQ13
      clear hb
      have xQ30 := HQ3.out.1.1 0 _ rfl
      have xQ31 := HQ3.out.1.1 1 _ rfl
      have xQ32 := HQ3.out.1.1 2 _ rfl
      have xQ33 := HQ3.out.1.1 3 _ rfl
      have xQ10 := HQ1.out.1.1 0 _ rfl
      have xQ11 := HQ1.out.1.1 1 _ rfl
      have xQ12 := HQ1.out.1.1 2 _ rfl
      have xQ13 := HQ1.out.1.1 3 _ rfl
      go_wp2
      go_ret
      exact ⟨rfl, HB.out⟩
    · subst hs
      go_wp2
      go_ret
      exact ⟨rfl, HB.out⟩
end Go.Proofs.Ytgchbimjgdoifaa.fnProposals
namespace Go.Proofs.Ytgchbimjgdoifaa.fnProposals
open Go.ChangeShapes Go.WideShapes Go.ChangeAt Go.RowKit Go.Joins
open Go.ChangeMaps (open_string shut_string)
set_option linter.unusedVariables false

theorem own : ownKnob Try.prog.godebug = none := by kernel_rfl
theorem laidOut : laidOutB Try.prog = true := by kernel_rfl
set_option maxRecDepth 100000 in
theorem lifted (os : Os) (started : os.Started) (H : Type) (enc : TypeId × Value → H) :
    ReturnsInHanded {} Try.checked os 7 .any (Rows.fnProposalsSpec.pre6 enc Try.prog Try.f7 Rows.fnProposalsRow.domain false) (Rows.fnProposalsSpec.post enc Try.prog Try.f7 false true false false) := by
  refine returnsInHanded_of_change (C := Try.checked) own started (by kernel_rfl) Try.func7
    (ChangeSpec.witness6 (enc := enc) (C := Try.checked) false ⟨#[], #[.slice none 0 0], []⟩ 8 (by kernel_rfl) (by kernel_rfl) (by kernel_rfl) (by kernel_rfl)) ?_
  intro W base args ds gs before hval0 hW hcnd hsz
  have hval : ∀ (j : Nat) t v, Try.f7.params[j]? = some t → args[j]? = some v → Value.okWide Try.prog W .any base t v := hval0
  have hW' := hW
  obtain ⟨p, q, hA0, hV, rfl, hfz, hnd⟩ := hW
  have hA : DataW.TrodAll enc Try.prog W 0 (fun _ => true) true Try.f7.params.toList args.toList ds p := hA0
  rw [Try.params7] at hA hval
  obtain ⟨v0, vs0, d0, ds0, p0, q0, hargs, rfl, rfl, h0, r0⟩ := trodAll_cons hA
  obtain ⟨rfl, rfl, rfl⟩ := trodAll_nil r0
  obtain rfl : args = #[v0] := by cases args; simp_all
  obtain ⟨rfl, rfl⟩ := trodVars_none hV
  have k0 := h0
  have lt0 : ∀ x ∈ p0, x.block < W.heap.size := by obtain ⟨m, hm⟩ := k0; exact DataW.trod_lt m _ _ _ hm
  obtain ⟨A00, c00, f0, rfl, x00⟩ := codeIn (hval 0 37 v0 rfl rfl) h0
  clear hA0 hval0
  refine (walk A00 c00 f0 W x00).mono fun e W' ⟨he, bel⟩ => ?_
  subst he
  exact ⟨_, rfl, _, _, _, [], _, [], hW', trodAll_mk1 (shut_bool Try.underlying4 _), (trodAll_cons_mk (Below.trod laidOut (by kernel_rfl) (of_decide_eq_true (by kernel_rfl)) k0 bel lt0) trodAll_mk0), rfl, bel.frame _, fun h => by cases h⟩
theorem over : Rows.fnProposalsRow.holds Try.pinned (OpenSpec.ofChange Rows.fnProposalsSpec) :=
  OpenClaim.holds_of_wide 7 Try.f7 rfl rfl rfl rfl rfl rfl rfl ⟨rfl, rfl, rfl, rfl, rfl⟩ rfl rfl rfl rfl rfl (by kernel_rfl) Try.func7 (by kernel_rfl)
    (of_decide_eq_true (by kernel_rfl)) (by unfold Func.isWrapper; first | (rw [if_pos (by decide +kernel)]; kernel_rfl) | (rw [if_neg (by decide +kernel)]; exact ⟨rfl, rfl⟩))
    (fun os started H enc _ => lifted os started H enc)
/-- The statement. -/
theorem proved : Rows.FnProposalsSaid := over
#print axioms proved
end Go.Proofs.Ytgchbimjgdoifaa.fnProposals
