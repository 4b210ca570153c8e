/- The statement FnConflictsSaid of the given rows: for every input the law returns true and leaves what it was handed as it was. Conditions: none. -/
import Derived.Test.YtgchbimjgdoifaaMCo2
import Derived.Test.YtgchbimjgdoifaaHv1
import Derived.Test.YtgchbimjgdoifaaDk8
import Derived.Test.YtgchbimjgdoifaaShf
import Derived.Test.YtgchbimjgdoifaaFp2
import Derived.Test.YtgchbimjgdoifaaByt
import Derived.Test.YtgchbimjgdoifaaTg3
import Derived.Test.YtgchbimjgdoifaaTg5
import Derived.Test.YtgchbimjgdoifaaDo2
import Derived.Deep.DrawnRows
import Derived.Test.YtgchbimjgdoifaaRows
import Derived.ProofKit
import Derived.OpenShut
import Derived.ShutString
import Derived.Carry
import Derived.Lib.SmallJoins
namespace Go.Proofs.Ytgchbimjgdoifaa
open Go.RowKit
set_option linter.unusedVariables false
theorem conB_symm (a b : Amd) : conB a b = conB b a := by
  have e1 : (if a.p < b.p then b.p else a.p) = (if b.p < a.p then a.p else b.p) := by split <;> split <;> omega
  have e2 : (if b.p + b.n < a.p + a.n then b.p + b.n else a.p + a.n) = (if a.p + a.n < b.p + b.n then a.p + a.n else b.p + b.n) := by split <;> split <;> omega
  have e3 : (a.p == b.p) = (b.p == a.p) := by rw [Bool.eq_iff_iff]; simp; exact ⟨fun h => h.symm, fun h => h.symm⟩
  unfold conB
  rw [e1, e2, e3]
  generalize decide ((if b.p < a.p then a.p else b.p) < (if a.p + a.n < b.p + b.n then a.p + a.n else b.p + b.n)) = D
  generalize (b.p == a.p) = E
  cases D <;> cases E <;> cases insB a <;> cases insB b <;> cases aroundB b a.p <;> cases aroundB a b.p <;> rfl
theorem none_snoc (L : List Prp) (p : Prp) : noneB (L ++ [p]) (L ++ [p]).length = (noneB L L.length && L.all fun x => !conB p.a x.a) := by
  have hg : ∀ i, i < L.length → (L ++ [p]).getD i noP = L.getD i noP := fun i hi => by
    rw [List.getD_eq_getElem?_getD, List.getD_eq_getElem?_getD, List.getElem?_append_left hi]
  have hp : (L ++ [p]).getD L.length noP = p := by
    rw [List.getD_eq_getElem?_getD, List.getElem?_append_right (Nat.le_refl _)]; simp
  rw [List.length_append, List.length_singleton, noneB, allN]
  have e1 : allN (fun i => rowB (L ++ [p]) i i) L.length = noneB L L.length := by
    rw [Bool.eq_iff_iff, noneB, allN_yes, allN_yes]
    constructor
    · intro h k hk
      have := h k hk
      unfold rowB at this ⊢
      rw [allN_yes] at this ⊢
      intro j hj
      have := this j hj
      rwa [hg k hk, hg j (by omega)] at this
    · intro h k hk
      have := h k hk
      unfold rowB at this ⊢
      rw [allN_yes] at this ⊢
      intro j hj
      have := this j hj
      rwa [hg k hk, hg j (by omega)]
  have e2 : rowB (L ++ [p]) L.length L.length = L.all fun x => !conB p.a x.a := by
    rw [Bool.eq_iff_iff, rowB, allN_yes, List.all_eq_true]
    constructor
    · intro h x hx
      obtain ⟨i, hi, rfl⟩ := List.getElem_of_mem hx
      have := h i hi
      rwa [hp, hg i hi, getP hi] at this
    · intro h k hk
      rw [hp, hg k hk, getP hk]
      exact h _ (List.getElem_mem hk)
  rw [e1, e2]
theorem bit_test (s k : Nat) : bitB s k = Nat.testBit s k := by
  unfold bitB
  rw [Nat.testBit_eq_decide_div_mod_eq]
  rfl
theorem mem_pick {ps : List Prp} {s : Nat} {q : Prp} {k : Nat} : q ∈ pickL ps s k ↔ ∃ j, j < k ∧ bitB s j = true ∧ q = ps.getD j noP := by
  induction k with
  | zero => simp [pickL]
  | succ k ih =>
    rw [pickL, List.mem_append, ih]
    constructor
    · rintro (⟨j, h1, h2, h3⟩ | h)
      · exact ⟨j, by omega, h2, h3⟩
      · split at h
        · rename_i hb
          exact ⟨k, Nat.lt_succ_self _, hb, by simpa using h⟩
        · simp at h
    · rintro ⟨j, h1, h2, h3⟩
      rcases Nat.lt_or_ge j k with h4 | h4
      · exact .inl ⟨j, h4, h2, h3⟩
      · obtain rfl : j = k := by omega
        exact .inr (by rw [if_pos h2]; simp [h3])
/-- No two members of a set conflict. -/
def FreeS (ps : List Prp) (s k : Nat) : Prop := ∀ i j, j < i → i < k → bitB s i = true → bitB s j = true → conB (ps.getD i noP).a (ps.getD j noP).a = false
theorem none_pick (ps : List Prp) (s k : Nat) : noneB (pickL ps s k) (pickL ps s k).length = true ↔ FreeS ps s k := by
  induction k with
  | zero => exact ⟨fun _ i j _ h => by omega, fun _ => rfl⟩
  | succ k ih =>
    rw [pickL]
    split
    · rename_i hb
      rw [none_snoc, Bool.and_eq_true, ih, List.all_eq_true]
      constructor
      · rintro ⟨h1, h2⟩ i j hj hi hbi hbj
        rcases Nat.lt_or_ge i k with h3 | h3
        · exact h1 i j hj h3 hbi hbj
        · obtain rfl : i = k := by omega
          have := h2 _ (mem_pick.2 ⟨j, hj, hbj, rfl⟩)
          simpa using this
      · intro h
        refine ⟨fun i j hj hi => h i j hj (by omega), fun x hx => ?_⟩
        obtain ⟨j, h1, h2, rfl⟩ := mem_pick.1 hx
        rw [h k j h1 (Nat.lt_succ_self _) hb h2]; rfl
    · rename_i hb
      rw [List.append_nil, ih]
      constructor
      · intro h i j hj hi hbi hbj
        rcases Nat.lt_or_ge i k with h3 | h3
        · exact h i j hj h3 hbi hbj
        · obtain rfl : i = k := by omega
          exact absurd hbi hb
      · exact fun h i j hj hi => h i j hj (by omega)
theorem beats_yes {ids best : List Int} {w most : Int} (h : most < w) : beats ids best w most = true := by
  have e : cmpI most w = -1 := by unfold cmpI; rw [if_pos h]
  unfold beats orI
  rw [e]
  simp
theorem beats_le {ids best : List Int} {w most : Int} (h : beats ids best w most = true) : most ≤ w := by
  rcases Int.lt_or_le w most with h1 | h1
  · have e : cmpI most w = 1 := by unfold cmpI; rw [if_neg (by omega), if_pos h1]
    unfold beats orI at h
    rw [e] at h
    simp at h
  · exact h1
theorem heavK_best (ps : List Prp) : ∀ k, (∃ s, (s = 0 ∨ s < k) ∧ heavK ps k = (idsL (pickL ps s ps.length), sumT (pickL ps s ps.length)) ∧ FreeS ps s ps.length) ∧ ∀ s, s < k → FreeS ps s ps.length → sumT (pickL ps s ps.length) ≤ (heavK ps k).2
  | 0 => by
    have h0 : ∀ n, pickL ps 0 n = [] := fun n => by
      induction n with
      | zero => rfl
      | succ n ih => rw [pickL, ih]; simp [bitB]
    refine ⟨⟨0, .inl rfl, by rw [h0]; rfl, fun i j _ _ h => by simp [bitB] at h⟩, fun s h => by omega⟩
  | k + 1 => by
    obtain ⟨⟨s, hs, he, hf⟩, hm⟩ := heavK_best ps k
    rw [heavK]
    unfold stepH
    split
    · rename_i hc
      rw [Bool.and_eq_true] at hc
      have h1 := (none_pick ps k ps.length).1 hc.1
      have h2 := beats_le hc.2
      refine ⟨⟨k, .inr (Nat.lt_succ_self _), rfl, h1⟩, fun s' hs' hf' => ?_⟩
      rcases Nat.lt_or_ge s' k with h3 | h3
      · exact Int.le_trans (hm s' h3 hf') h2
      · obtain rfl : s' = k := by omega
        exact Int.le_refl _
    · rename_i hc
      refine ⟨⟨s, by omega, he, hf⟩, fun s' hs' hf' => ?_⟩
      rcases Nat.lt_or_ge s' k with h3 | h3
      · exact hm s' h3 hf'
      · obtain rfl : s' = k := by omega
        rcases Int.lt_or_le (heavK ps s').2 (sumT (pickL ps s' ps.length)) with h4 | h4
        · exfalso
          apply hc
          rw [(none_pick ps s' ps.length).2 hf', beats_yes h4]; rfl
        · exact h4
/-- What the members among the first k weigh. -/
def wgt (ids : List Int) (ps : List Prp) : Nat → Int
  | 0 => 0
  | k + 1 => wgt ids ps k + (if hasI ids (ps.getD k noP).i then (ps.getD k noP).t else 0)
theorem Asc.inj {ps : List Prp} (h : Asc ps) {i j : Nat} (hi : i < ps.length) (hj : j < ps.length) (he : (ps.getD i noP).i = (ps.getD j noP).i) : i = j := by
  rcases Nat.lt_trichotomy i j with h1 | h1 | h1
  · have := h i j h1 hj; omega
  · exact h1
  · have := h j i h1 hi; omega
theorem ids_bit {ps : List Prp} {s i : Nat} (h : Asc ps) (hi : i < ps.length) : hasI (idsL (pickL ps s ps.length)) (ps.getD i noP).i = bitB s i := by
  rw [Bool.eq_iff_iff, hasI_iff]
  unfold idsL
  rw [List.mem_map]
  constructor
  · rintro ⟨q, hq, he⟩
    obtain ⟨j, h1, h2, rfl⟩ := mem_pick.1 hq
    rw [← h.inj h1 hi he]; exact h2
  · intro hb
    exact ⟨_, mem_pick.2 ⟨i, hi, hb, rfl⟩, rfl⟩
theorem sum_wgt {ps : List Prp} {s : Nat} (h : Asc ps) : ∀ k, k ≤ ps.length → wgt (idsL (pickL ps s ps.length)) ps k = sumT (pickL ps s k)
  | 0, _ => rfl
  | k + 1, hk => by
    rw [wgt, sum_wgt h k (by omega), ids_bit h (by omega), pickL]
    split
    · rename_i hb; rw [sumT_snoc]
    · rename_i hb; simp
theorem sum_more {ps : List Prp} {s s' i : Nat} (hi : bitB s i = false) (hi' : bitB s' i = true) (hs : ∀ j, j ≠ i → bitB s' j = bitB s j) : ∀ k, sumT (pickL ps s' k) = sumT (pickL ps s k) + (if i < k then (ps.getD i noP).t else 0)
  | 0 => by simp [pickL, sumT]
  | k + 1 => by
    have ih := sum_more (ps := ps) hi hi' hs k
    rw [pickL, pickL]
    by_cases hk : k = i
    · subst hk
      rw [hi, hi', if_pos rfl, sumT_snoc, ih, if_neg (Nat.lt_irrefl _), if_pos (Nat.lt_succ_self _)]
      simp
    · rw [hs k hk]
      have e : (if i < k + 1 then (ps.getD i noP).t else 0) = (if i < k then (ps.getD i noP).t else 0) := by
        by_cases h1 : i < k
        · rw [if_pos h1, if_pos (by omega)]
        · rw [if_neg h1, if_neg (by omega)]
      rw [e]
      split
      · rw [sumT_snoc, sumT_snoc, ih]; omega
      · simpa using ih
theorem lone_con {ps : List Prp} {i k n : Nat} (h : loneB ps i n = true) (hk : k < n) (hne : k ≠ i) : conB (ps.getD i noP).a (ps.getD k noP).a = false := by
  unfold loneB at h
  have := allN_yes.1 h k hk
  rw [Bool.or_eq_true, decide_eq_true_eq] at this
  rcases this with h1 | h1
  · omega
  · simpa using h1
/-- A free proposal belongs to the heaviest set. -/
theorem lone_in {ps : List Prp} {s i : Nat} (hw : ∀ p ∈ ps, 1 ≤ p.t) (hs : s < 2 ^ ps.length) (hf : FreeS ps s ps.length) (hm : ∀ s', s' < 2 ^ ps.length → FreeS ps s' ps.length → sumT (pickL ps s' ps.length) ≤ sumT (pickL ps s ps.length)) (hi : i < ps.length) (hl : loneB ps i ps.length = true) : bitB s i = true := by
  rcases Bool.eq_false_or_eq_true (bitB s i) with h0 | h0
  · exact h0
  · exfalso
    have hb : ∀ j, bitB (s ||| 2 ^ i) j = (bitB s j || decide (i = j)) := fun j => by
      rw [bit_test, bit_test, Nat.testBit_or, Nat.testBit_two_pow]
    have h1 : bitB (s ||| 2 ^ i) i = true := by rw [hb]; simp
    have h2 : ∀ j, j ≠ i → bitB (s ||| 2 ^ i) j = bitB s j := fun j hj => by rw [hb, decide_eq_false (by omega), Bool.or_false]
    have h3 : s ||| 2 ^ i < 2 ^ ps.length := Nat.or_lt_two_pow hs (Nat.pow_lt_pow_right (by omega) hi)
    have h4 : FreeS ps (s ||| 2 ^ i) ps.length := fun a b hba ha hsa hsb => by
      by_cases ea : a = i
      · subst ea
        exact lone_con hl (by omega) (by omega)
      · by_cases eb : b = i
        · subst eb
          rw [conB_symm]
          exact lone_con hl ha ea
        · rw [h2 a ea] at hsa
          rw [h2 b eb] at hsb
          exact hf a b hba ha hsa hsb
    have h5 := hm _ h3 h4
    have h6 := sum_more (ps := ps) h0 h1 h2 ps.length
    rw [if_pos hi] at h6
    have h7 := hw (ps.getD i noP) (by rw [getP hi]; exact List.getElem_mem hi)
    omega
theorem mem_frL {ps : List Prp} {x : Int} : ∀ {k}, x ∈ frL ps k ↔ ∃ j, j < k ∧ loneB ps j ps.length = true ∧ x = (ps.getD j noP).i
  | 0 => by simp [frL]
  | k + 1 => by
    rw [frL, List.mem_append, mem_frL (k := k)]
    constructor
    · rintro (⟨j, h1, h2, h3⟩ | h)
      · exact ⟨j, by omega, h2, h3⟩
      · split at h
        · rename_i hb
          exact ⟨k, Nat.lt_succ_self _, hb, by simpa using h⟩
        · simp at h
    · rintro ⟨j, h1, h2, h3⟩
      rcases Nat.lt_or_ge j k with h4 | h4
      · exact .inl ⟨j, h4, h2, h3⟩
      · obtain rfl : j = k := by omega
        exact .inr (by rw [if_pos h2]; simp [h3])
theorem memInn {ps : List Prp} {i : Nat} {x : Int × Int} : ∀ {m}, x ∈ inn ps i m → ∃ j, j < m ∧ conB (ps.getD i noP).a (ps.getD (i + 1 + j) noP).a = true ∧ x = ((ps.getD i noP).i, (ps.getD (i + 1 + j) noP).i)
  | 0, h => by simp [inn] at h
  | m + 1, h => by
    rw [inn, List.mem_append] at h
    rcases h with h | h
    · obtain ⟨j, h1, h2, h3⟩ := memInn h
      exact ⟨j, by omega, h2, h3⟩
    · split at h
      · rename_i hc
        exact ⟨m, Nat.lt_succ_self _, hc, by simpa using h⟩
      · simp at h
theorem memPrs {ps : List Prp} {x : Int × Int} : ∀ {k}, x ∈ prs ps k → ∃ i j, i < k ∧ i < j ∧ j < ps.length ∧ conB (ps.getD i noP).a (ps.getD j noP).a = true ∧ x = ((ps.getD i noP).i, (ps.getD j noP).i)
  | 0, h => by simp [prs] at h
  | k + 1, h => by
    rw [prs, List.mem_append] at h
    rcases h with h | h
    · obtain ⟨i, j, h1, h2⟩ := memPrs h
      exact ⟨i, j, by omega, h2⟩
    · obtain ⟨j, h1, h2, h3⟩ := memInn h
      exact ⟨k, k + 1 + j, Nat.lt_succ_self _, by omega, by omega, h2, h3⟩
/-- What the law asks of good proposals. -/
structure PrLaw (ps : List Prp) (ids fr : List Int) (m : Int) (pairs : List (Int × Int)) : Prop where
  sum : wgt ids ps ps.length = m
  free : ∀ i, i < ps.length → hasI fr (ps.getD i noP).i = true → hasI ids (ps.getD i noP).i = true
  all : pairs.length = 0 → ids.length = ps.length
  pair : ∀ x ∈ pairs, (hasI ids x.1 && hasI ids x.2) = false ∧ hasI fr x.1 = false ∧ hasI fr x.2 = false
theorem prLaw {ss : List ByteArray} {ps : List Prp} (h : propB ss ps = true) : PrLaw ps (heavR ss ps).1 (freeL ss ps) (heavR ss ps).2 (pairL ss ps) := by
  have hA := Asc.of h
  have hw := weight_of h
  have e1 : heavR ss ps = heavK ps (2 ^ ps.length) := by unfold heavR; rw [h]; rfl
  have e2 : freeL ss ps = frL ps ps.length := by unfold freeL; rw [h]; rfl
  have e3 : pairL ss ps = prs ps ps.length := by unfold pairL; rw [h]; rfl
  obtain ⟨⟨s, hs0, he, hf⟩, hm⟩ := heavK_best ps (2 ^ ps.length)
  have hs : s < 2 ^ ps.length := by
    rcases hs0 with rfl | h1
    · exact Nat.pow_pos (by omega)
    · exact h1
  rw [he] at hm
  rw [e1, e2, e3, he]
  have hlone : ∀ i, i < ps.length → loneB ps i ps.length = true → bitB s i = true := fun i hi hl => lone_in (fun p hp => (hw p hp).1) hs hf hm hi hl
  have hfr : ∀ i, i < ps.length → hasI (frL ps ps.length) (ps.getD i noP).i = true → loneB ps i ps.length = true := fun i hi hx => by
    obtain ⟨j, h1, h2, h3⟩ := mem_frL.1 (hasI_iff.1 hx)
    rw [hA.inj hi h1 h3]; exact h2
  refine ⟨sum_wgt hA _ (Nat.le_refl _), fun i hi hx => ?_, fun hl => ?_, fun x hx => ?_⟩
  · rw [ids_bit hA hi]; exact hlone i hi (hfr i hi hx)
  · have hn : noneB ps ps.length = true := by
      have := noneB_eq (ps := ps)
      rw [hl] at this
      simpa using this
    have hnc : ∀ i j, j < i → i < ps.length → conB (ps.getD i noP).a (ps.getD j noP).a = false := fun i j hj hi => by
      have := allN_yes.1 hn i hi
      unfold rowB at this
      simpa using allN_yes.1 this j hj
    have hall : ∀ i, i < ps.length → bitB s i = true := fun i hi => hlone i hi (by
      unfold loneB
      rw [allN_yes]
      intro k hk
      rw [Bool.or_eq_true, decide_eq_true_eq]
      rcases Nat.lt_trichotomy i k with h1 | h1 | h1
      · right; rw [conB_symm, hnc k i h1 hk]; rfl
      · left; omega
      · right; rw [hnc i k h1 hi]; rfl)
    have hpl : ∀ k, k ≤ ps.length → (pickL ps s k).length = k := fun k hk => by
      induction k with
      | zero => rfl
      | succ k ih => rw [pickL, if_pos (hall k (by omega)), List.length_append, ih (by omega)]; rfl
    show (idsL (pickL ps s ps.length)).length = _
    rw [idsL_len, hpl _ (Nat.le_refl _)]
  · obtain ⟨i, j, h1, h2, h3, h4, rfl⟩ := memPrs hx
    refine ⟨?_, ?_, ?_⟩
    · rw [ids_bit hA h1, ids_bit hA h3]
      rcases Bool.eq_false_or_eq_true (bitB s i) with hi | hi
      · rcases Bool.eq_false_or_eq_true (bitB s j) with hj | hj
        · have := hf j i h2 h3 hj hi
          rw [conB_symm, h4] at this
          cases this
        · rw [hj, Bool.and_false]
      · rw [hi, Bool.false_and]
    · rcases Bool.eq_false_or_eq_true (hasI (frL ps ps.length) (ps.getD i noP).i) with hx | hx
      · have := lone_con (hfr i h1 hx) h3 (by omega)
        rw [h4] at this; cases this
      · exact hx
    · rcases Bool.eq_false_or_eq_true (hasI (frL ps ps.length) (ps.getD j noP).i) with hx | hx
      · have := lone_con (hfr j h3 hx) (show i < ps.length by omega) (by omega)
        rw [conB_symm, h4] at this; cases this
      · exact hx
theorem wgt_range {ids : List Int} {ps : List Prp} (hw : ∀ p ∈ ps, 1 ≤ p.t ∧ p.t ≤ 100) : ∀ k, k ≤ ps.length → 0 ≤ wgt ids ps k ∧ wgt ids ps k ≤ 100 * (k : Int)
  | 0, _ => by simp [wgt]
  | k + 1, hk => by
    have h1 := wgt_range (ids := ids) hw k (by omega)
    have h2 := hw (ps.getD k noP) (by rw [getP (show k < ps.length by omega)]; exact List.getElem_mem _)
    rw [wgt]
    split <;> push_cast <;> omega
theorem wgt_yes {ids : List Int} {ps : List Prp} {k : Nat} (hk : k < ps.length) (h : hasI ids ps[k].i = true) : wgt ids ps (k + 1) = wgt ids ps k + ps[k].t := by
  rw [wgt, getP hk, if_pos h]
theorem wgt_no {ids : List Int} {ps : List Prp} {k : Nat} (hk : k < ps.length) (h : hasI ids ps[k].i = false) : wgt ids ps (k + 1) = wgt ids ps k := by
  rw [wgt, getP hk, if_neg (by rw [h]; simp)]; omega
theorem PrLaw.free' {ps : List Prp} {ids fr : List Int} {m : Int} {pairs : List (Int × Int)} (h : PrLaw ps ids fr m pairs) {i : Nat} (hi : i < ps.length) (hf : hasI fr ps[i].i = true) : hasI ids ps[i].i = true := by
  have := h.free i hi
  rw [getP hi] at this
  exact this hf
theorem few_of {ss : List ByteArray} {ps : List Prp} (h : propB ss ps = true) : ps.length ≤ 8 := by
  unfold propB at h
  rw [Bool.and_eq_true, Bool.and_eq_true, decide_eq_true_eq] at h
  omega
end Go.Proofs.Ytgchbimjgdoifaa
namespace Go.Proofs.Ytgchbimjgdoifaa
open Go.RowKit
set_option linter.unusedVariables false
/-- The list has the number. -/
def hasB (x : Int) (xs : List Int) : Bool := xs.contains x
theorem hasB_cons (x y : Int) (xs : List Int) : hasB x (y :: xs) = (x == y || hasB x xs) := by unfold hasB; rw [List.contains_cons]
theorem l1Has_any (A : Option Addr) (n c : Nat) (xs : List Int) (x : Int) (w : World) (hn : n = xs.length) (ha : Cells w A (IntK.row xs)) (hm : xs.length ≤ 1048576) :
    Calls Try.prog 95 #[.slice A n c, .int .i64 x] w fun e w' => e = .returned (.bool (hasB x xs)) ∧ w = w' := by
  subst hn
  go_enter Try.func95, Try.ntmps95
  go_wp2
  go_loop [5] (fun i => ∃ k : Nat, k ≤ xs.length ∧ i = .int .i64 k ∧ Hid (hasB x xs = hasB x (xs.drop k))) (fun i => xs.length - (intOf i).toNat)
  case atStart => exact ⟨0, Nat.zero_le _, rfl, rfl⟩
  case round =>
    obtain ⟨k, hk, rfl, hq⟩ := hrel
    by_cases hlt : k < xs.length
    · obtain ⟨a, rfl, hca⟩ := int_at ha hlt
      have i1 : (k : Int) < (xs.length : Int) := by omega
      by_cases hm : xs[k] = x
      · have ht : (xs[k] == x) = true := by simp [hm]
        have HA := Lib.hid (show hasB x xs = true by rw [hq.out, List.drop_eq_getElem_cons hlt, hasB_cons, hm]; simp)
        clear hm hq
        go_wp2
        go_ret
        exact ⟨ret_bool HA.out.symm, rfl⟩
      · have ht : (xs[k] == x) = false := by simp [hm]
        have HA := Lib.hid (show hasB x xs = hasB x (xs.drop (k + 1)) by rw [hq.out, List.drop_eq_getElem_cons hlt, hasB_cons, show (x == xs[k]) = false from by simp; exact fun e => hm e.symm]; rfl)
        clear hm hq
        go_wp2
        go_round
        case rel => exact ⟨k + 1, hlt, by go_num, HA.out⟩
        case measure => simp [intOf]; omega
    · obtain rfl : k = xs.length := by omega
      have HA := Lib.hid (show hasB x xs = false by rw [hq.out, List.drop_length]; rfl)
      go_wp2
      go_ret
      exact ⟨ret_bool HA.out.symm, rfl⟩
end Go.Proofs.Ytgchbimjgdoifaa
namespace Go.Proofs.Ytgchbimjgdoifaa
open Go.RowKit
set_option linter.unusedVariables false
theorem tkA {X Y : List ByteArray} {m : Nat} (j : Nat) (h : m = X.length + j) : (X ++ Y).take m = X ++ Y.take j := by
  subst h
  rw [List.take_append, List.take_of_length_le (by omega), Nat.add_sub_cancel_left]
theorem dpA {X Y : List ByteArray} {m : Nat} (j : Nat) (h : m = X.length + j) : (X ++ Y).drop m = Y.drop j := by
  subst h
  rw [List.drop_append, List.drop_of_length_le (by omega), Nat.add_sub_cancel_left, List.nil_append]
section
variable {ss : List ByteArray} {ps : List Prp}
theorem toL_take (l : List ByteArray) (a b : Nat) (h : a ≤ b) : (l.drop a).take (b - a) ++ (l[b]?).toList = (l.drop a).take (b + 1 - a) := by
  have e : b + 1 - a = (b - a) + 1 := by omega
  rw [e]
  rcases Nat.lt_or_ge b l.length with h1 | h1
  · rw [List.take_succ_eq_append_getElem (by simp; omega), List.getElem_drop, List.getElem?_eq_getElem h1]
    have : a + (b - a) = b := by omega
    simp only [this]; rfl
  · rw [List.getElem?_eq_none h1, List.take_of_length_le (by simp; omega), List.take_of_length_le (by simp; omega)]
    simp
/-- Up to the first amendment the text is as it was. -/
theorem tog_pre {b : Nat} (h : ∀ i, i < b → atP ps i ps.length = [] ∧ stkB ps i ps.length = false) : togK ss ps b = ss.take b := by
  induction b with
  | zero => simp [togK]
  | succ b ih =>
    obtain ⟨h1, h2⟩ := h b (Nat.lt_succ_self _)
    rw [togK, ih (fun i hi => h i (by omega)), h1, h2, List.append_nil, if_neg (by simp)]
    have := toL_take ss 0 b (Nat.zero_le _)
    simpa using this
/-- From one amendment on to the next. -/
theorem tog_seg {p n : Nat} {ws : List ByteArray} (hw : atP ps p ps.length = ws) (b : Nat) (hb : p < b) (ha : ∀ i, p < i → i < b → atP ps i ps.length = []) (hs : ∀ i, p ≤ i → i < b → stkB ps i ps.length = decide (i < p + n)) : togK ss ps b = togK ss ps p ++ (ws ++ (ss.drop (p + n)).take (b - (p + n))) := by
  induction b with
  | zero => omega
  | succ b ih =>
    rcases Nat.lt_or_ge p b with h1 | h1
    · rw [togK, ih h1 (fun i h2 h3 => ha i h2 (by omega)) (fun i h2 h3 => hs i h2 (by omega)), ha b h1 (Nat.lt_succ_self _), hs b (by omega) (Nat.lt_succ_self _), List.append_nil]
      rcases Nat.lt_or_ge b (p + n) with h2 | h2
      · rw [decide_eq_true h2, if_pos rfl, List.append_nil]
        have e1 : b - (p + n) = 0 := by omega
        have e2 : b + 1 - (p + n) = 0 := by omega
        rw [e1, e2]
      · rw [decide_eq_false (by omega), if_neg (by simp), List.append_assoc, List.append_assoc, toL_take ss (p + n) b h2]
    · obtain rfl : b = p := by omega
      rw [togK, hw, hs b (Nat.le_refl _) (Nat.lt_succ_self _)]
      rcases Nat.eq_zero_or_pos n with h2 | h2
      · subst h2
        rw [decide_eq_false (by omega), if_neg (by simp), List.append_assoc]
        have := toL_take ss b b (Nat.le_refl _)
        rw [Nat.sub_self, List.take_zero, List.nil_append] at this
        rw [this]
        simp
      · rw [decide_eq_true (by omega), if_pos rfl, List.append_nil]
        have e2 : b + 1 - (b + n) = 0 := by omega
        rw [e2, List.take_zero, List.append_nil]
end
/-! ### Two proposals -/
theorem atP_two (x y : Prp) (m : Nat) : atP [x, y] m 2 = (if x.a.p = (m : Int) then x.a.ws else []) ++ (if y.a.p = (m : Int) then y.a.ws else []) := by
  simp [atP]
theorem stk_two (x y : Prp) (m : Nat) : stkB [x, y] m 2 = (inB m x.a.p (x.a.p + x.a.n - 1) || inB m y.a.p (y.a.p + y.a.n - 1)) := by
  simp [stkB]
theorem inB_of {m p n : Nat} : inB (m : Int) (p : Int) ((p : Int) + n - 1) = decide (p ≤ m ∧ m < p + n) := by
  rw [Bool.eq_iff_iff, inB_iff, decide_eq_true_eq]
  omega
/-- What an amendment makes of a text, with places as natural numbers. -/
theorem amdL_nat (ss : List ByteArray) (k : Int) (p n : Nat) (ws : List ByteArray) : amdL ss ⟨k, p, n, ws⟩ = ss.take p ++ (ws ++ ss.drop (p + n)) := by
  have q1 : ((p : Int) + n).toNat = p + n := by omega
  simp [amdL, q1]
theorem conB_parts {c d : Amd} (h : conB c d = false) : ¬ ((if c.p < d.p then d.p else c.p) < (if d.p + d.n < c.p + c.n then d.p + d.n else c.p + c.n)) ∧ (0 < c.ws.length → ¬ (d.p < c.p ∧ c.p < d.p + d.n)) ∧ (0 < d.ws.length → ¬ (c.p < d.p ∧ d.p < c.p + c.n)) ∧ ¬ (0 < c.ws.length ∧ 0 < d.ws.length ∧ c.p = d.p) := by
  unfold conB insB aroundB at h
  simp only [Bool.or_eq_false_iff, Bool.and_eq_false_iff, decide_eq_false_iff_not, beq_eq_false_iff_ne] at h
  obtain ⟨⟨h1, h2, h3⟩, h4⟩ := h
  refine ⟨h1, fun hc hd => ?_, fun hc hd => ?_, fun hc => ?_⟩
  · rcases h2 with h2 | h2 | h2 <;> omega
  · rcases h3 with h3 | h3 | h3 <;> omega
  · rcases h4 with (h4 | h4) | h4 <;> omega
/-- The texts one after the other. -/
theorem tog_two {ss : List ByteArray} {x y : Prp} (hx : vldA x.a = true) (hy : vldA y.a = true) (hfx : x.a.p + x.a.n ≤ ss.length) (hfy : y.a.p + y.a.n ≤ ss.length) (hc : conB x.a y.a = false) : togO ss [x, y] = amdL (amdL ss x.a) (shA y.a x.a) := by
  obtain ⟨xi, ⟨ck, cp, cn, cw⟩, xt⟩ := x
  obtain ⟨yi, ⟨dk, dp, dn, dw⟩, yt⟩ := y
  obtain ⟨c0, _, c1, _, _, cK, _⟩ := vldA_range hx
  obtain ⟨d0, _, d1, _, _, dK, _⟩ := vldA_range hy
  obtain ⟨g1, g2, g3, g4⟩ := conB_parts hc
  simp only at *
  obtain ⟨p, rfl⟩ := Int.eq_ofNat_of_zero_le c0
  obtain ⟨n, rfl⟩ := Int.eq_ofNat_of_zero_le c1
  obtain ⟨q, rfl⟩ := Int.eq_ofNat_of_zero_le d0
  obtain ⟨k, rfl⟩ := Int.eq_ofNat_of_zero_le d1
  have hA : ∀ m : Nat, atP [⟨xi, ⟨ck, p, n, cw⟩, xt⟩, ⟨yi, ⟨dk, q, k, dw⟩, yt⟩] m ([⟨xi, ⟨ck, p, n, cw⟩, xt⟩, ⟨yi, ⟨dk, q, k, dw⟩, yt⟩] : List Prp).length = (if p = m then cw else []) ++ (if q = m then dw else []) := fun m => by
    show atP _ m 2 = _
    rw [atP_two]
    simp only [Int.natCast_inj]
  have hS : ∀ m : Nat, stkB [⟨xi, ⟨ck, p, n, cw⟩, xt⟩, ⟨yi, ⟨dk, q, k, dw⟩, yt⟩] m ([⟨xi, ⟨ck, p, n, cw⟩, xt⟩, ⟨yi, ⟨dk, q, k, dw⟩, yt⟩] : List Prp).length = (decide (p ≤ m ∧ m < p + n) || decide (q ≤ m ∧ m < q + k)) := fun m => by
    show stkB _ m 2 = _
    rw [stk_two, inB_of, inB_of]
  generalize ([⟨xi, ⟨ck, p, n, cw⟩, xt⟩, ⟨yi, ⟨dk, q, k, dw⟩, yt⟩] : List Prp) = ps at *
  have hfx : p + n ≤ ss.length := by omega
  have hfy : q + k ≤ ss.length := by omega
  have hsp : shA ⟨dk, q, k, dw⟩ ⟨ck, p, n, cw⟩ = if p < q ∨ (p = q ∧ 0 < k) then ⟨dk, (q : Int) + (cw.length - n), k, dw⟩ else ⟨dk, q, k, dw⟩ := by
    unfold shA shB
    by_cases h : p < q ∨ (p = q ∧ 0 < k)
    · rw [if_pos h, if_pos (by simp only [Bool.or_eq_true, Bool.and_eq_true, decide_eq_true_eq]; omega)]
    · rw [if_neg h, if_neg (by simp only [Bool.or_eq_true, Bool.and_eq_true, decide_eq_true_eq]; omega)]
  have hend : ∀ a, a ≤ ss.length → (ss.drop a).take (ss.length + 1 - a) = ss.drop a := fun a ha => List.take_of_length_le (by simp; omega)
  rw [hsp, amdL_nat ss ck p n cw]
  unfold togO
  rcases Nat.lt_trichotomy p q with hpq | hpq | hpq
  · -- the first one lies ahead
    have hpn : p + n ≤ q := by
      rcases Nat.lt_or_ge q (p + n) with h1 | h1
      · exfalso
        rcases Nat.eq_zero_or_pos k with hk | hk
        · subst hk
          have : 0 < dw.length := by omega
          exact g3 this ⟨by omega, by omega⟩
        · rw [if_pos (by omega)] at g1
          split at g1 <;> omega
      · exact h1
    have e1 := tog_pre (ss := ss) (ps := ps) (b := p) (fun i hi => ⟨by rw [hA, if_neg (by omega), if_neg (by omega)]; rfl, by rw [hS, decide_eq_false (by omega), decide_eq_false (by omega)]; rfl⟩)
    have e2 := tog_seg (ss := ss) (ps := ps) (p := p) (n := n) (ws := cw) (by rw [hA, if_pos rfl, if_neg (by omega), List.append_nil]) q hpq (fun i h1 h2 => by rw [hA, if_neg (by omega), if_neg (by omega)]; rfl) (fun i h1 h2 => by rw [hS, decide_eq_false (show ¬ (q ≤ i ∧ i < q + k) by omega), Bool.or_false]; congr 1; simp; omega)
    have e3 := tog_seg (ss := ss) (ps := ps) (p := q) (n := k) (ws := dw) (by rw [hA, if_neg (by omega), if_pos rfl, List.nil_append]) (ss.length + 1) (by omega) (fun i h1 h2 => by rw [hA, if_neg (by omega), if_neg (by omega)]; rfl) (fun i h1 h2 => by rw [hS, decide_eq_false (show ¬ (p ≤ i ∧ i < p + n) by omega), Bool.false_or]; congr 1; simp; omega)
    rw [e3, e2, e1, hend _ hfy, if_pos (Or.inl hpq)]
    have e4 : (q : Int) + ((cw.length : Int) - (n : Int)) = ((q + cw.length - n : Nat) : Int) := by omega
    rw [e4, amdL_nat]
    have hlp : (ss.take p).length = p := by simp; omega
    have t1 : (ss.take p ++ (cw ++ ss.drop (p + n))).take (q + cw.length - n) = ss.take p ++ (cw ++ (ss.drop (p + n)).take (q - (p + n))) := by
      rw [tkA (q + cw.length - n - p) (by omega), tkA (q - (p + n)) (by omega)]
    have t2 : (ss.take p ++ (cw ++ ss.drop (p + n))).drop (q + cw.length - n + k) = ss.drop (q + k) := by
      rw [dpA (q + cw.length - n + k - p) (by omega), dpA (q + k - (p + n)) (by omega), List.drop_drop]
      congr 1
      omega
    rw [t1, t2]
    try simp only [List.append_assoc]
  · -- one place
    subst hpq
    have hex : n = 0 ∨ k = 0 := by
      rcases Nat.eq_zero_or_pos n with h1 | h1
      · exact .inl h1
      · rcases Nat.eq_zero_or_pos k with h2 | h2
        · exact .inr h2
        · exfalso
          rw [if_neg (by omega)] at g1
          split at g1 <;> omega
    have e1 := tog_pre (ss := ss) (ps := ps) (b := p) (fun i hi => ⟨by rw [hA, if_neg (by omega), if_neg (by omega)]; rfl, by rw [hS, decide_eq_false (by omega), decide_eq_false (by omega)]; rfl⟩)
    rcases Nat.eq_zero_or_pos k with hk | hk
    · -- the second one inserts
      subst hk
      have hd : 0 < dw.length := by omega
      have hcw : cw = [] := by
        rcases Nat.eq_zero_or_pos cw.length with h1 | h1
        · exact List.eq_nil_of_length_eq_zero h1
        · exact absurd ⟨h1, hd, rfl⟩ g4
      subst hcw
      have e3 := tog_seg (ss := ss) (ps := ps) (p := p) (n := n) (ws := dw) (by rw [hA, if_pos rfl, if_pos rfl, List.nil_append]) (ss.length + 1) (by omega) (fun i h1 h2 => by rw [hA, if_neg (by omega), if_neg (by omega)]; rfl) (fun i h1 h2 => by rw [hS, decide_eq_false (show ¬ (p ≤ i ∧ i < p + 0) by omega), Bool.or_false]; congr 1; simp; omega)
      rw [e3, e1, hend _ hfx, if_neg (by omega), amdL_nat]
      have hlp : (ss.take p).length = p := by simp; omega
      rw [List.nil_append, Nat.add_zero, tkA 0 (by omega), dpA 0 (by omega), List.take_zero, List.append_nil, List.drop_zero]
    · -- the first one inserts
      have hn : n = 0 := by omega
      subst hn
      have hcl : 0 < cw.length := by omega
      have hdw : dw = [] := by
        rcases Nat.eq_zero_or_pos dw.length with h1 | h1
        · exact List.eq_nil_of_length_eq_zero h1
        · exact absurd ⟨hcl, h1, rfl⟩ g4
      subst hdw
      have e3 := tog_seg (ss := ss) (ps := ps) (p := p) (n := k) (ws := cw) (by rw [hA, if_pos rfl, if_pos rfl, List.append_nil]) (ss.length + 1) (by omega) (fun i h1 h2 => by rw [hA, if_neg (by omega), if_neg (by omega)]; rfl) (fun i h1 h2 => by rw [hS, decide_eq_false (show ¬ (p ≤ i ∧ i < p + 0) by omega), Bool.false_or]; congr 1; simp; omega)
      rw [e3, e1, hend _ hfy, if_pos (Or.inr ⟨rfl, hk⟩)]
      have e4 : (p : Int) + ((cw.length : Int) - ((0 : Nat) : Int)) = ((p + cw.length : Nat) : Int) := by omega
      rw [e4, amdL_nat]
      have hlp : (ss.take p).length = p := by simp; omega
      rw [List.nil_append, Nat.add_zero, tkA cw.length (by omega), tkA 0 (by omega), List.take_zero, List.append_nil, dpA (cw.length + k) (by omega), dpA k (by omega), List.drop_drop, List.append_assoc]
  · -- the second one lies ahead
    have hqk : q + k ≤ p := by
      rcases Nat.lt_or_ge p (q + k) with h1 | h1
      · exfalso
        rcases Nat.eq_zero_or_pos n with hn | hn
        · subst hn
          have : 0 < cw.length := by omega
          exact g2 this ⟨by omega, by omega⟩
        · rw [if_neg (by omega)] at g1
          split at g1 <;> omega
      · exact h1
    have e1 := tog_pre (ss := ss) (ps := ps) (b := q) (fun i hi => ⟨by rw [hA, if_neg (by omega), if_neg (by omega)]; rfl, by rw [hS, decide_eq_false (by omega), decide_eq_false (by omega)]; rfl⟩)
    have e2 := tog_seg (ss := ss) (ps := ps) (p := q) (n := k) (ws := dw) (by rw [hA, if_neg (by omega), if_pos rfl, List.nil_append]) p hpq (fun i h1 h2 => by rw [hA, if_neg (by omega), if_neg (by omega)]; rfl) (fun i h1 h2 => by rw [hS, decide_eq_false (show ¬ (p ≤ i ∧ i < p + n) by omega), Bool.false_or]; congr 1; simp; omega)
    have e3 := tog_seg (ss := ss) (ps := ps) (p := p) (n := n) (ws := cw) (by rw [hA, if_pos rfl, if_neg (by omega), List.append_nil]) (ss.length + 1) (by omega) (fun i h1 h2 => by rw [hA, if_neg (by omega), if_neg (by omega)]; rfl) (fun i h1 h2 => by rw [hS, decide_eq_false (show ¬ (q ≤ i ∧ i < q + k) by omega), Bool.or_false]; congr 1; simp; omega)
    rw [e3, e2, e1, hend _ hfx, if_neg (by omega), amdL_nat]
    have hlp : (ss.take p).length = p := by simp; omega
    have t1 : (ss.take p ++ (cw ++ ss.drop (p + n))).take q = ss.take q := by
      rw [List.take_append_of_le_length (by omega), List.take_take, Nat.min_eq_left (by omega)]
    have t2 : (ss.take p ++ (cw ++ ss.drop (p + n))).drop (q + k) = (ss.drop (q + k)).take (p - (q + k)) ++ (cw ++ ss.drop (p + n)) := by
      rw [List.drop_append_of_le_length (by omega), List.drop_take]
    rw [t1, t2]
    try simp only [List.append_assoc]
end Go.Proofs.Ytgchbimjgdoifaa
namespace Go.Proofs.Ytgchbimjgdoifaa
open Go.RowKit
set_option linter.unusedVariables false
/-- The order of two proposals that do not conflict does not matter. -/
theorem tog_swap {ss : List ByteArray} {x y : Prp} (hc : conB x.a y.a = false) : togO ss [x, y] = togO ss [y, x] := by
  obtain ⟨_, _, _, g4⟩ := conB_parts hc
  have hA : ∀ m, atP [x, y] m 2 = atP [y, x] m 2 := fun m => by
    rw [atP_two, atP_two]
    by_cases h1 : x.a.p = (m : Int)
    · by_cases h2 : y.a.p = (m : Int)
      · rw [if_pos h1, if_pos h2]
        rcases Nat.eq_zero_or_pos x.a.ws.length with h3 | h3
        · rw [List.eq_nil_of_length_eq_zero h3, List.append_nil, List.nil_append]
        · rcases Nat.eq_zero_or_pos y.a.ws.length with h4 | h4
          · rw [List.eq_nil_of_length_eq_zero h4, List.append_nil, List.nil_append]
          · exact absurd ⟨h3, h4, by omega⟩ g4
      · rw [if_neg h2, List.append_nil, List.nil_append]
    · rw [if_neg h1, List.append_nil, List.nil_append]
  have hS : ∀ m, stkB [x, y] m 2 = stkB [y, x] m 2 := fun m => by rw [stk_two, stk_two, Bool.or_comm]
  have key : ∀ m, togK ss [x, y] m = togK ss [y, x] m := fun m => by
    induction m with
    | zero => rfl
    | succ m ih =>
      show togK ss [x, y] m ++ atP [x, y] m 2 ++ (if stkB [x, y] m 2 then [] else (ss[m]?).toList) = togK ss [y, x] m ++ atP [y, x] m 2 ++ (if stkB [y, x] m 2 then [] else (ss[m]?).toList)
      rw [ih, hA, hS]
  exact key _
theorem twoPrs {ps : List Prp} (h : (ps.length : Int) = 2) : ∃ x y, ps = [x, y] := by
  match ps, h with
  | [], h => simp at h
  | [_], h => simp at h
  | [x, y], _ => exact ⟨x, y, rfl⟩
  | _ :: _ :: _ :: _, h => simp at h; omega
/-- What holds of two proposals that are applied together. -/
theorem con_law {ss : List ByteArray} {x y : Prp} (h : togB ss [x, y] = true) : canB ss x.a = true ∧ canB ss y.a = true ∧ (shOk y.a x.a = true → canB (appL ss x.a) (shR y.a x.a) = true → appL (appL ss x.a) (shR y.a x.a) = togL ss [x, y]) ∧ (shOk x.a y.a = true → canB (appL ss y.a) (shR x.a y.a) = true → appL (appL ss y.a) (shR x.a y.a) = togL ss [x, y]) := by
  have hT : togL ss [x, y] = togO ss [x, y] := by unfold togL; rw [h]; rfl
  unfold togB at h
  rw [Bool.and_eq_true, Bool.and_eq_true] at h
  obtain ⟨⟨hp, hn⟩, _⟩ := h
  unfold propB at hp
  rw [Bool.and_eq_true, Bool.and_eq_true] at hp
  obtain ⟨⟨hw, _⟩, ha⟩ := hp
  have o0 := allN_yes.1 ha 0 (by simp)
  have o1 := allN_yes.1 ha 1 (by simp)
  rw [okP_eq (by simp)] at o0 o1
  simp only [Bool.and_eq_true] at o0 o1
  have vx : vldA x.a = true := o0.1.2.1
  have vy : vldA y.a = true := o1.1.2.1
  have fx : fitsB ss x.a = true := o0.1.2.2
  have fy : fitsB ss y.a = true := o1.1.2.2
  have hc : conB x.a y.a = false := by
    have := allN_yes.1 (allN_yes.1 hn 1 (by simp)) 0 (by omega)
    rw [Bool.not_eq_true'] at this
    rw [conB_symm]
    exact this
  have c1 : canB ss x.a = true := by unfold canB; rw [hw, vx, fx]; rfl
  have c2 : canB ss y.a = true := by unfold canB; rw [hw, vy, fy]; rfl
  refine ⟨c1, c2, fun hs hd => ?_, fun hs hd => ?_⟩
  · rw [appL_yes hd, appL_yes c1, hT, tog_two vx vy (fitsB_le fx) (fitsB_le fy) hc]
    unfold shR
    rw [hs]
    rfl
  · rw [appL_yes hd, appL_yes c2, hT, tog_swap hc, tog_two vy vx (fitsB_le fy) (fitsB_le fx) (by rw [conB_symm]; exact hc)]
    unfold shR
    rw [hs]
    rfl
end Go.Proofs.Ytgchbimjgdoifaa
namespace Go.Proofs.Ytgchbimjgdoifaa
open Go.RowKit
set_option linter.unusedVariables false
set_option linter.unusedSimpArgs false
attribute [local go_sem ↓] Go.wp_at_zero Go.wp_at_succ
set_option maxRecDepth 100000 in
set_option maxHeartbeats 4000000 in
theorem DrawDoConflict_any (A : Option Addr) (n c : Nat) (w : World) (h : BytesC w A n) (hn : n ≤ 65536) :
    Calls Try.prog 39 #[.slice A n c] w fun e w' => ∃ (N M : Option Addr) (nd md : Nat) (a f : Amd), e = .returned (.tuple #[.agg #[.int .i64 a.k, .int .i64 a.p, .int .i64 a.n, .slice N a.ws.length nd], .agg #[.int .i64 f.k, .int .i64 f.p, .int .i64 f.n, .slice M f.ws.length md]]) ∧ w'.ownsRow w.heap.size 9 1 (.slice N a.ws.length nd) a.ws.length (strs a.ws) ∧ w'.ownsRow w.heap.size 9 1 (.slice M f.ws.length md) f.ws.length (strs f.ws) ∧ Fit a.ws ∧ Fit f.ws ∧ Below w.heap.size w w' := by
  have hb1 := below2 w (.cells #[.int .i64 0, .int .i64 0, .int .i64 0, .slice none 0 0] 40) (.cells #[.int .i64 0, .int .i64 0, .int .i64 0, .slice none 0 0] 40)
  have hbe : ((w.alloc (.cells #[.int .i64 0, .int .i64 0, .int .i64 0, .slice none 0 0] 40)).alloc (.cells #[.int .i64 0, .int .i64 0, .int .i64 0, .slice none 0 0] 40)).heap.size = w.heap.size + 2 := by simp
  have hb3 := below1 ((w.alloc (.cells #[.int .i64 0, .int .i64 0, .int .i64 0, .slice none 0 0] 40)).alloc (.cells #[.int .i64 0, .int .i64 0, .int .i64 0, .slice none 0 0] 40)) (.cells #[.slice A n c, .int .i64 0, .int .u64 0] 94)
  have H2 := Lib.hid (((BoxF.new' w #[.int .i64 0, .int .i64 0, .int .i64 0, .slice none 0 0] 40 w.heap.size rfl).below (below1 (w.alloc (.cells #[.int .i64 0, .int .i64 0, .int .i64 0, .slice none 0 0] 40)) (.cells #[.int .i64 0, .int .i64 0, .int .i64 0, .slice none 0 0] 40)) (by simp)).below hb3 (by rw [hbe]; omega))
  have H3 := Lib.hid ((BoxF.new' (w.alloc (.cells #[.int .i64 0, .int .i64 0, .int .i64 0, .slice none 0 0] 40)) #[.int .i64 0, .int .i64 0, .int .i64 0, .slice none 0 0] 40 (w.heap.size + 1) (by simp)).below hb3 (by rw [hbe]; omega))
  have HC := Lib.hid (Cur.new_ (c := c) (h.below_ hb1) hn 94)
  have HB := Lib.hid (hb1.trans (hb3.mono (by rw [hbe]; omega)))
  have hz : w.heap.size + 2 < (((w.alloc (.cells #[.int .i64 0, .int .i64 0, .int .i64 0, .slice none 0 0] 40)).alloc (.cells #[.int .i64 0, .int .i64 0, .int .i64 0, .slice none 0 0] 40)).alloc (.cells #[.slice A n c, .int .i64 0, .int .u64 0] 94)).heap.size := by simp
  rw [hbe] at HC
  clear h hb1 hb3 hbe
  go_enter Try.func39, Try.ntmps39
  go_upto_region 2 with fail
  generalize ((w.alloc (.cells #[.int .i64 0, .int .i64 0, .int .i64 0, .slice none 0 0] 40)).alloc (.cells #[.int .i64 0, .int .i64 0, .int .i64 0, .slice none 0 0] 40)).alloc (.cells #[.slice A n c, .int .i64 0, .int .u64 0] 94) = W0 at *
  go_wp2_with fail
  refine (words_any 8 (by omega) (by omega) (w.heap.size + 2) A n c 0 W0 HC.out (by omega)).mono ?_
  rintro e w1 ⟨O, d, ss, rfl, hsl, hss, own, hc, ho⟩
  replace HC := Lib.hid hc
  replace H2 := Lib.hid (H2.out.blk (ho.block _ (by omega) (.inl (by omega))))
  replace H3 := Lib.hid (H3.out.blk (ho.block _ (by omega) (.inl (by omega))))
  replace HB := Lib.hid (HB.out.trans (ho.below (by omega) |>.mono (by omega)))
  replace hz := Nat.lt_of_lt_of_le hz ho.size
  clear hss own hc ho
  go_wp2_with fail
  refine (amendment_any O d ss.length (w.heap.size + 2) A n c _ w1 HC.out (by omega) (by omega)).mono ?_
  rintro e w2 ⟨N, nd, a, rfl, hal, has, own, hc, ho⟩
  have HSA := Lib.hid has
  have HNO := Lib.hid (own_mono own (show w.heap.size + 3 ≤ w1.heap.size from hz))
  replace HC := Lib.hid hc
  replace H2 := Lib.hid (H2.out.blk (ho.block _ (by omega) (.inl (by omega))))
  replace H3 := Lib.hid (H3.out.blk (ho.block _ (by omega) (.inl (by omega))))
  replace HB := Lib.hid (HB.out.trans (ho.below (by omega) |>.mono (by omega)))
  replace hz := Nat.lt_of_lt_of_le hz ho.size
  clear has own hc ho
  go_wp2_with fail
  refine (amendment_any O d ss.length (w.heap.size + 2) A n c _ w2 HC.out (by omega) (by omega)).mono ?_
  rintro e w3 ⟨M, md, f, rfl, hfl, hfs, own, hc, ho⟩
  have HSF := Lib.hid hfs
  have HFO := Lib.hid (own_mono own (show w.heap.size + 3 ≤ w2.heap.size from hz))
  replace HNO := Lib.hid (own_off HNO.out ho (by omega))
  replace H2 := Lib.hid (H2.out.blk (ho.block _ (by omega) (.inl (by omega))))
  replace H3 := Lib.hid (H3.out.blk (ho.block _ (by omega) (.inl (by omega))))
  replace HB := Lib.hid (HB.out.trans (ho.below (by omega) |>.mono (by omega)))
  clear hfs own hc ho HC hz
  have r0 := H2.out.1 0 _ rfl
  have r1 := H2.out.1 1 _ rfl
  have r2 := H2.out.1 2 _ rfl
  have r3 := H2.out.1 3 _ rfl
  have s0 := H3.out.1 0 _ rfl
  have s1 := H3.out.1 1 _ rfl
  have s2 := H3.out.1 2 _ rfl
  have s3 := H3.out.1 3 _ rfl
  have rf := H2.out.2
  have sf := H3.out.2
  go_wp2
  have KS := (((((H2.out.set4 (.int .i64 a.k) (.int .i64 a.p) (.int .i64 a.n) (.slice N a.ws.length nd)).setO (q := w.heap.size + 1) (i := 0) (by omega) (.int .i64 f.k)).setO (q := w.heap.size + 1) (i := 1) (by omega) (.int .i64 f.p)).setO (q := w.heap.size + 1) (i := 2) (by omega) (.int .i64 f.n)).setO (q := w.heap.size + 1) (i := 3) (by omega) (.slice M f.ws.length md))
  have K2 := (((((H3.out.setO (q := w.heap.size) (i := 0) (by omega) (.int .i64 a.k)).setO (q := w.heap.size) (i := 1) (by omega) (.int .i64 a.p)).setO (q := w.heap.size) (i := 2) (by omega) (.int .i64 a.n)).setO (q := w.heap.size) (i := 3) (by omega) (.slice N a.ws.length nd))).set4 (.int .i64 f.k) (.int .i64 f.p) (.int .i64 f.n) (.slice M f.ws.length md)
  have o1 := own_off (own_off HNO.out (only4 w3 w.heap.size (.int .i64 a.k) (.int .i64 a.p) (.int .i64 a.n) (.slice N a.ws.length nd)) (by omega)) (only4 ((((w3.setCell ⟨w.heap.size, 0, none⟩ (.int .i64 a.k)).setCell ⟨w.heap.size, 1, none⟩ (.int .i64 a.p)).setCell ⟨w.heap.size, 2, none⟩ (.int .i64 a.n)).setCell ⟨w.heap.size, 3, none⟩ (.slice N a.ws.length nd)) (w.heap.size + 1) (.int .i64 f.k) (.int .i64 f.p) (.int .i64 f.n) (.slice M f.ws.length md)) (by omega)
  have o2 := own_off (own_off HFO.out (only4 w3 w.heap.size (.int .i64 a.k) (.int .i64 a.p) (.int .i64 a.n) (.slice N a.ws.length nd)) (by omega)) (only4 ((((w3.setCell ⟨w.heap.size, 0, none⟩ (.int .i64 a.k)).setCell ⟨w.heap.size, 1, none⟩ (.int .i64 a.p)).setCell ⟨w.heap.size, 2, none⟩ (.int .i64 a.n)).setCell ⟨w.heap.size, 3, none⟩ (.slice N a.ws.length nd)) (w.heap.size + 1) (.int .i64 f.k) (.int .i64 f.p) (.int .i64 f.n) (.slice M f.ws.length md)) (by omega)
  have hst := (show Below w.heap.size w3 ((((w3.setCell ⟨w.heap.size, 0, none⟩ (.int .i64 a.k)).setCell ⟨w.heap.size, 1, none⟩ (.int .i64 a.p)).setCell ⟨w.heap.size, 2, none⟩ (.int .i64 a.n)).setCell ⟨w.heap.size, 3, none⟩ (.slice N a.ws.length nd)) from (by (refine Below.setCell (Below.setCell (Below.setCell (Below.setCell (Below.refl _ _) ?_ _) ?_ _) ?_ _) ?_ _) <;> first | exact Nat.le_refl _ | exact Nat.le_succ _)).trans (show Below w.heap.size ((((w3.setCell ⟨w.heap.size, 0, none⟩ (.int .i64 a.k)).setCell ⟨w.heap.size, 1, none⟩ (.int .i64 a.p)).setCell ⟨w.heap.size, 2, none⟩ (.int .i64 a.n)).setCell ⟨w.heap.size, 3, none⟩ (.slice N a.ws.length nd)) ((((((((w3.setCell ⟨w.heap.size, 0, none⟩ (.int .i64 a.k)).setCell ⟨w.heap.size, 1, none⟩ (.int .i64 a.p)).setCell ⟨w.heap.size, 2, none⟩ (.int .i64 a.n)).setCell ⟨w.heap.size, 3, none⟩ (.slice N a.ws.length nd)).setCell ⟨w.heap.size + 1, 0, none⟩ (.int .i64 f.k)).setCell ⟨w.heap.size + 1, 1, none⟩ (.int .i64 f.p)).setCell ⟨w.heap.size + 1, 2, none⟩ (.int .i64 f.n)).setCell ⟨w.heap.size + 1, 3, none⟩ (.slice M f.ws.length md)) from (by (refine Below.setCell (Below.setCell (Below.setCell (Below.setCell (Below.refl _ _) ?_ _) ?_ _) ?_ _) ?_ _) <;> first | exact Nat.le_refl _ | exact Nat.le_succ _))
  clear r0 r1 r2 r3 s0 s1 s2 s3 rf sf
  have k0 := KS.1 0 _ rfl
  have k1 := KS.1 1 _ rfl
  have k2 := KS.1 2 _ rfl
  have k3 := KS.1 3 _ rfl
  have l0 := K2.1 0 _ rfl
  have l1 := K2.1 1 _ rfl
  have l2 := K2.1 2 _ rfl
  have l3 := K2.1 3 _ rfl
  generalize ((((((((w3.setCell ⟨w.heap.size, 0, none⟩ (.int .i64 a.k)).setCell ⟨w.heap.size, 1, none⟩ (.int .i64 a.p)).setCell ⟨w.heap.size, 2, none⟩ (.int .i64 a.n)).setCell ⟨w.heap.size, 3, none⟩ (.slice N a.ws.length nd)).setCell ⟨w.heap.size + 1, 0, none⟩ (.int .i64 f.k)).setCell ⟨w.heap.size + 1, 1, none⟩ (.int .i64 f.p)).setCell ⟨w.heap.size + 1, 2, none⟩ (.int .i64 f.n)).setCell ⟨w.heap.size + 1, 3, none⟩ (.slice M f.ws.length md)) = W at *
  refine bodyPost_ret (v := .tuple #[.agg #[.int .i64 a.k, .int .i64 a.p, .int .i64 a.n, .slice N a.ws.length nd], .agg #[.int .i64 f.k, .int .i64 f.p, .int .i64 f.n, .slice M f.ws.length md]]) (by simp [results, Try.results39, go_sem, k0, k1, k2, k3, l0, l1, l2, l3]) rfl ?_
  exact ⟨N, M, nd, md, a, f, rfl, own_mono o1 (by omega), own_mono o2 (by omega), HSA.out.fit (by omega), HSF.out.fit (by omega), HB.out.trans hst⟩
set_option maxRecDepth 100000 in
set_option maxHeartbeats 4000000 in
theorem DrawShiftedChange_any (A : Option Addr) (n c : Nat) (w : World) (h : BytesC w A n) (hn : n ≤ 65536) :
    Calls Try.prog 42 #[.slice A n c] w fun e w' => ∃ (N M : Option Addr) (nd md : Nat) (a f : Amd), e = .returned (.tuple #[.agg #[.int .i64 a.k, .int .i64 a.p, .int .i64 a.n, .slice N a.ws.length nd], .agg #[.int .i64 f.k, .int .i64 f.p, .int .i64 f.n, .slice M f.ws.length md]]) ∧ w'.ownsRow w.heap.size 9 1 (.slice N a.ws.length nd) a.ws.length (strs a.ws) ∧ w'.ownsRow w.heap.size 9 1 (.slice M f.ws.length md) f.ws.length (strs f.ws) ∧ Fit a.ws ∧ Fit f.ws ∧ Below w.heap.size w w' := by
  have hb1 := below2 w (.cells #[.int .i64 0, .int .i64 0, .int .i64 0, .slice none 0 0] 40) (.cells #[.int .i64 0, .int .i64 0, .int .i64 0, .slice none 0 0] 40)
  have hbe : ((w.alloc (.cells #[.int .i64 0, .int .i64 0, .int .i64 0, .slice none 0 0] 40)).alloc (.cells #[.int .i64 0, .int .i64 0, .int .i64 0, .slice none 0 0] 40)).heap.size = w.heap.size + 2 := by simp
  have H2 := Lib.hid ((BoxF.new' w #[.int .i64 0, .int .i64 0, .int .i64 0, .slice none 0 0] 40 w.heap.size rfl).below (below1 (w.alloc (.cells #[.int .i64 0, .int .i64 0, .int .i64 0, .slice none 0 0] 40)) (.cells #[.int .i64 0, .int .i64 0, .int .i64 0, .slice none 0 0] 40)) (by simp))
  have H3 := Lib.hid (BoxF.new' (w.alloc (.cells #[.int .i64 0, .int .i64 0, .int .i64 0, .slice none 0 0] 40)) #[.int .i64 0, .int .i64 0, .int .i64 0, .slice none 0 0] 40 (w.heap.size + 1) (by simp))
  have HD := Lib.hid (DrawDoConflict_any A n c ((w.alloc (.cells #[.int .i64 0, .int .i64 0, .int .i64 0, .slice none 0 0] 40)).alloc (.cells #[.int .i64 0, .int .i64 0, .int .i64 0, .slice none 0 0] 40)) (h.below_ hb1) hn)
  have HB := Lib.hid hb1
  clear h hb1
  go_enter Try.func42, Try.ntmps42
  go_upto_region 1 with fail
  generalize ((w.alloc (.cells #[.int .i64 0, .int .i64 0, .int .i64 0, .slice none 0 0] 40)).alloc (.cells #[.int .i64 0, .int .i64 0, .int .i64 0, .slice none 0 0] 40)) = W0 at *
  go_wp2_with fail
  refine HD.out.mono ?_
  rintro e w3 ⟨N, M, nd, md, a, f, rfl, h1, h2, h3, h4, hb⟩
  rw [hbe] at h1 h2 hb
  have HNO := Lib.hid h1
  have HFO := Lib.hid h2
  have HSA := Lib.hid h3
  have HSF := Lib.hid h4
  replace H2 := Lib.hid (H2.out.below hb (by omega))
  replace H3 := Lib.hid (H3.out.below hb (by omega))
  replace HB := Lib.hid (HB.out.trans (hb.mono (by omega)))
  have hz : w.heap.size + 2 ≤ w3.heap.size := by have := hb.size; omega
  clear h1 h2 h3 h4 hb HD
  have r0 := H2.out.1 0 _ rfl
  have r1 := H2.out.1 1 _ rfl
  have r2 := H2.out.1 2 _ rfl
  have r3 := H2.out.1 3 _ rfl
  have s0 := H3.out.1 0 _ rfl
  have s1 := H3.out.1 1 _ rfl
  have s2 := H3.out.1 2 _ rfl
  have s3 := H3.out.1 3 _ rfl
  have rf := H2.out.2
  have sf := H3.out.2
  go_wp2
  have KS := (((((H2.out.set4 (.int .i64 a.k) (.int .i64 a.p) (.int .i64 a.n) (.slice N a.ws.length nd)).setO (q := w.heap.size + 1) (i := 0) (by omega) (.int .i64 f.k)).setO (q := w.heap.size + 1) (i := 1) (by omega) (.int .i64 f.p)).setO (q := w.heap.size + 1) (i := 2) (by omega) (.int .i64 f.n)).setO (q := w.heap.size + 1) (i := 3) (by omega) (.slice M f.ws.length md))
  have K2 := (((((H3.out.setO (q := w.heap.size) (i := 0) (by omega) (.int .i64 a.k)).setO (q := w.heap.size) (i := 1) (by omega) (.int .i64 a.p)).setO (q := w.heap.size) (i := 2) (by omega) (.int .i64 a.n)).setO (q := w.heap.size) (i := 3) (by omega) (.slice N a.ws.length nd))).set4 (.int .i64 f.k) (.int .i64 f.p) (.int .i64 f.n) (.slice M f.ws.length md)
  have o1 := own_off (own_off HNO.out (only4 w3 w.heap.size (.int .i64 a.k) (.int .i64 a.p) (.int .i64 a.n) (.slice N a.ws.length nd)) (by omega)) (only4 ((((w3.setCell ⟨w.heap.size, 0, none⟩ (.int .i64 a.k)).setCell ⟨w.heap.size, 1, none⟩ (.int .i64 a.p)).setCell ⟨w.heap.size, 2, none⟩ (.int .i64 a.n)).setCell ⟨w.heap.size, 3, none⟩ (.slice N a.ws.length nd)) (w.heap.size + 1) (.int .i64 f.k) (.int .i64 f.p) (.int .i64 f.n) (.slice M f.ws.length md)) (by omega)
  have o2 := own_off (own_off HFO.out (only4 w3 w.heap.size (.int .i64 a.k) (.int .i64 a.p) (.int .i64 a.n) (.slice N a.ws.length nd)) (by omega)) (only4 ((((w3.setCell ⟨w.heap.size, 0, none⟩ (.int .i64 a.k)).setCell ⟨w.heap.size, 1, none⟩ (.int .i64 a.p)).setCell ⟨w.heap.size, 2, none⟩ (.int .i64 a.n)).setCell ⟨w.heap.size, 3, none⟩ (.slice N a.ws.length nd)) (w.heap.size + 1) (.int .i64 f.k) (.int .i64 f.p) (.int .i64 f.n) (.slice M f.ws.length md)) (by omega)
  have hst := (show Below w.heap.size w3 ((((w3.setCell ⟨w.heap.size, 0, none⟩ (.int .i64 a.k)).setCell ⟨w.heap.size, 1, none⟩ (.int .i64 a.p)).setCell ⟨w.heap.size, 2, none⟩ (.int .i64 a.n)).setCell ⟨w.heap.size, 3, none⟩ (.slice N a.ws.length nd)) from (by (refine Below.setCell (Below.setCell (Below.setCell (Below.setCell (Below.refl _ _) ?_ _) ?_ _) ?_ _) ?_ _) <;> first | exact Nat.le_refl _ | exact Nat.le_succ _)).trans (show Below w.heap.size ((((w3.setCell ⟨w.heap.size, 0, none⟩ (.int .i64 a.k)).setCell ⟨w.heap.size, 1, none⟩ (.int .i64 a.p)).setCell ⟨w.heap.size, 2, none⟩ (.int .i64 a.n)).setCell ⟨w.heap.size, 3, none⟩ (.slice N a.ws.length nd)) ((((((((w3.setCell ⟨w.heap.size, 0, none⟩ (.int .i64 a.k)).setCell ⟨w.heap.size, 1, none⟩ (.int .i64 a.p)).setCell ⟨w.heap.size, 2, none⟩ (.int .i64 a.n)).setCell ⟨w.heap.size, 3, none⟩ (.slice N a.ws.length nd)).setCell ⟨w.heap.size + 1, 0, none⟩ (.int .i64 f.k)).setCell ⟨w.heap.size + 1, 1, none⟩ (.int .i64 f.p)).setCell ⟨w.heap.size + 1, 2, none⟩ (.int .i64 f.n)).setCell ⟨w.heap.size + 1, 3, none⟩ (.slice M f.ws.length md)) from (by (refine Below.setCell (Below.setCell (Below.setCell (Below.setCell (Below.refl _ _) ?_ _) ?_ _) ?_ _) ?_ _) <;> first | exact Nat.le_refl _ | exact Nat.le_succ _))
  clear r0 r1 r2 r3 s0 s1 s2 s3 rf sf
  have k0 := KS.1 0 _ rfl
  have k1 := KS.1 1 _ rfl
  have k2 := KS.1 2 _ rfl
  have k3 := KS.1 3 _ rfl
  have l0 := K2.1 0 _ rfl
  have l1 := K2.1 1 _ rfl
  have l2 := K2.1 2 _ rfl
  have l3 := K2.1 3 _ rfl
  generalize ((((((((w3.setCell ⟨w.heap.size, 0, none⟩ (.int .i64 a.k)).setCell ⟨w.heap.size, 1, none⟩ (.int .i64 a.p)).setCell ⟨w.heap.size, 2, none⟩ (.int .i64 a.n)).setCell ⟨w.heap.size, 3, none⟩ (.slice N a.ws.length nd)).setCell ⟨w.heap.size + 1, 0, none⟩ (.int .i64 f.k)).setCell ⟨w.heap.size + 1, 1, none⟩ (.int .i64 f.p)).setCell ⟨w.heap.size + 1, 2, none⟩ (.int .i64 f.n)).setCell ⟨w.heap.size + 1, 3, none⟩ (.slice M f.ws.length md)) = W at *
  refine bodyPost_ret (v := .tuple #[.agg #[.int .i64 a.k, .int .i64 a.p, .int .i64 a.n, .slice N a.ws.length nd], .agg #[.int .i64 f.k, .int .i64 f.p, .int .i64 f.n, .slice M f.ws.length md]]) (by simp [results, Try.results42, go_sem, k0, k1, k2, k3, l0, l1, l2, l3]) rfl ?_
  exact ⟨N, M, nd, md, a, f, rfl, own_mono o1 (by omega), own_mono o2 (by omega), HSA.out, HSF.out, HB.out.trans hst⟩
theorem DrawConflictPairs_any (A : Option Addr) (n c : Nat) (w : World) (h : BytesC w A n) (hn : n ≤ 65536) :
    Calls Try.prog 50 #[.slice A n c] w fun e w' => ∃ (O P : Option Addr) (d pd : Nat) (ss : List ByteArray) (ps : List Prp), e = .returned (.tuple #[.slice O ss.length d, .slice P ps.length pd]) ∧ RdS w'.heap.size w' O d ss ∧ DL w' P pd ps ∧ FitP ps ∧ Below w.heap.size w w' := by
  have HD := Lib.hid (DrawAreProposals_any A n c w h hn)
  clear h
  go_enter Try.func50, Try.ntmps50
  go_wp2_with fail
  refine HD.out.mono ?_
  rintro e w1 ⟨O, P, d, pd, ss, ps, rfl, h1, h2, h3, hb⟩
  have H1 := Lib.hid h1
  have H2 := Lib.hid h2
  have H3 := Lib.hid h3
  have HB := Lib.hid hb
  clear h1 h2 h3 hb HD
  go_wp2
  go_ret2
  exact ⟨O, P, d, pd, ss, ps, rfl, H1.out, H2.out, H3.out, HB.out⟩
theorem pairEq (a b : Int) (w : World) : (Op.equalIn 10000 77 (.agg #[.int .i64 a, .int .i64 b]) (.agg #[.int .i64 a, .int .i64 b])).run Try.prog w = .ok true w := by
  have u3 := Try.underlying3
  have a3 := Try.isAgg3
  have z3 := Try.sizeOf3
  rw [show (10000 : Nat) = 9999 + 1 from rfl, Op.equalIn]
  simp only [Sem.run_bind, run_underlying Try.underlying77, Result.andThen_ok]
  simp only [Std.Legacy.Range.forIn_eq_forIn_range', Std.Legacy.Range.size, Nat.sub_zero, Nat.add_sub_cancel, Nat.div_one, List.range'_succ, List.range'_zero, List.forIn_cons, List.forIn_nil]
  go_simp
theorem pairNe (a b : Int) (w : World) : (binOp .neq 77 (.agg #[.int .i64 a, .int .i64 b]) (.agg #[.int .i64 a, .int .i64 b])).run Try.prog w = .ok (.bool false) w := by
  rw [run_neq_struct, pairEq]
  rfl
set_option maxHeartbeats 1000000 in
theorem vPairs_same {B B' : Nat} {A A' : Option Addr} {c c' : Nat} {xs : List (Int × Int)} {w : World} (h : Rd PairK B w A c xs) (h' : Rd PairK B' w A' c' xs) :
    Calls Try.prog 53 #[.slice A xs.length c, .slice A' xs.length c'] w fun e w' => e = .returned (.bool true) ∧ Below w.heap.size w w' := by
  have ha := h.cells
  have hb := h'.cells
  have hn := h.2.2.1
  have hne : ((xs.length : Int) != (xs.length : Int)) = false := by simp
  clear h h'
  go_enter Try.func53, Try.ntmps53
  go_wp2
  go_loopw [5] (fun i wr => ∃ k : Nat, k ≤ xs.length ∧ i = .int .i64 k ∧ ∃ m, wr = w.drewN m) (fun i _ => xs.length - (intOf i).toNat)
  case atStart => exact ⟨0, Nat.zero_le _, rfl, 0, rfl⟩
  case round =>
    obtain ⟨k, hk, rfl, m, rfl⟩ := hrel
    by_cases hlt : k < xs.length
    · obtain ⟨a, hae, p0, p1⟩ := pair_at ha hlt
      obtain ⟨b, hbe, q0, q1⟩ := pair_at hb hlt
      have i1 : (k : Int) < (xs.length : Int) := by omega
      obtain ⟨s, hs⟩ : ∃ s, xs[k].1 = s := ⟨_, rfl⟩
      obtain ⟨t, ht⟩ : ∃ s, xs[k].2 = s := ⟨_, rfl⟩
      rw [hs] at p0 q0
      rw [ht] at p1 q1
      subst hae
      subst hbe
      have hpe := pairNe s t
      clear hs ht
      go_wp2
      go_quiet (fail)
      go_wp2
      go_roundw
      case rel => exact ⟨k + 1, hlt, by go_num, by first | exact ⟨_, rfl⟩ | exact drew_exF⟩
      case measure => simp [intOf]; omega
    · obtain rfl : k = xs.length := by omega
      go_wp2
      go_ret
      exact ⟨rfl, below_drewN (Below.refl _ _) m⟩
end Go.Proofs.Ytgchbimjgdoifaa
namespace Go.Proofs.Ytgchbimjgdoifaa
open Go.RowKit
set_option linter.unusedVariables false
set_option linter.unusedSimpArgs false
attribute [local go_sem ↓] Go.wp_at_zero Go.wp_at_succ
set_option maxRecDepth 100000 in
set_option maxHeartbeats 4000000 in
theorem DrawApplyTogether_any (A : Option Addr) (n c : Nat) (w : World) (h : BytesC w A n) (hn : n ≤ 65536) :
    Calls Try.prog 45 #[.slice A n c] w fun e w' => ∃ (O P : Option Addr) (d pd : Nat) (ss : List ByteArray) (ps : List Prp), e = .returned (.tuple #[.slice O ss.length d, .slice P ps.length pd]) ∧ RdS w'.heap.size w' O d ss ∧ DL w' P pd ps ∧ FitP ps ∧ Below w.heap.size w w' := by
  have HC := Lib.hid (Cur.new_ (c := c) h hn 94)
  have HB := Lib.hid (below1 w (.cells #[.slice A n c, .int .i64 0, .int .u64 0] 94))
  have hz : w.heap.size < (w.alloc (.cells #[.slice A n c, .int .i64 0, .int .u64 0] 94)).heap.size := by simp
  clear h
  go_enter Try.func45, Try.ntmps45
  go_upto_region 2 with fail
  generalize w.alloc (.cells #[.slice A n c, .int .i64 0, .int .u64 0] 94) = W0 at *
  go_wp2_with fail
  refine (text_any w.heap.size A n c 0 W0 HC.out (by omega)).mono ?_
  rintro e w1 ⟨O, d, ss, rfl, hsl, hss, own, hc, ho⟩
  have HFS := Lib.hid (hss.fit (by omega))
  have HO := Lib.hid (own_mono own (show w.heap.size + 1 ≤ W0.heap.size from hz))
  replace HC := Lib.hid hc
  replace HB := Lib.hid (HB.out.trans (ho.below (Nat.le_of_lt hz)))
  replace hz := Nat.lt_of_lt_of_le hz ho.size
  clear hss own hc ho
  go_wp2_with fail
  refine (proposals_any O d ss w.heap.size A n c _ w1 HC.out (by omega) HO.out HFS.out (by omega)).mono ?_
  rintro e w2 ⟨P, pd, ps, hs, rfl, hpl, hps, hv, hc, ho⟩
  replace HO := Lib.hid (own_off HO.out ho (Nat.le_refl _))
  have HV := Lib.hid hv
  have HS := Lib.hid hps
  have HF := Lib.hid (hps.fit (by omega))
  replace HC := Lib.hid hc
  replace HB := Lib.hid (HB.out.trans (ho.below (Nat.le_of_lt hz)))
  have hz2 := Nat.lt_of_lt_of_le hz ho.size
  clear hps hv hc ho
  go_wp2_with fail
  refine (l10Good_any O P d pd ss ps w2 (Cells.of_own HO.out) (own_cap HO.out) HFS.out HV.out.dl HF.out).mono ?_
  rintro e w3 ⟨rfl, hb⟩
  replace HO := Lib.hid (own_keep HO.out hb)
  replace HV := Lib.hid (HV.out.keep hb)
  replace HC := Lib.hid (HC.out.below hb)
  replace HB := Lib.hid (HB.out.trans (hb.mono (Nat.le_of_lt hz2)))
  replace hz2 := Nat.lt_of_lt_of_le hz2 hb.size
  clear hb
  rcases Bool.eq_false_or_eq_true (propB ss ps) with hr | hr
  · rw [hr]
    go_wp2_with fail
    refine (one_any 4 (by omega) (by omega) w.heap.size A n c _ w3 HC.out (by omega)).mono ?_
    rintro e w4 ⟨⟨x, rfl⟩, hc, ho⟩
    replace HO := Lib.hid (own_off HO.out ho (Nat.le_refl _))
    replace HV := Lib.hid (HV.out.off ho hz)
    replace HB := Lib.hid (HB.out.trans (ho.below (Nat.le_of_lt hz2)))
    replace hz2 := Nat.lt_of_lt_of_le hz2 ho.size
    clear hc ho HC
    rcases Bool.eq_false_or_eq_true x with hx | hx
    · subst hx
      go_wp2
      go_ret2
      exact ⟨O, P, d, pd, ss, ps, rfl, ⟨own_cap HO.out, CellsB.own HO.out (Under.own HO.out), HFS.out⟩, HV.out.dl, HF.out, HB.out⟩
    · subst hx
      go_wp2_with fail
      refine (sHeaviestSet_any O P d pd ss ps w4 (Cells.of_own HO.out) (own_cap HO.out) HFS.out HV.out.dl HF.out).mono ?_
      rintro e w5 ⟨I, ic, rfl, hi, hb⟩
      have HI := Lib.hid (Ow.rd hi)
      replace HO := Lib.hid (own_keep HO.out hb)
      replace HV := Lib.hid (HV.out.keep hb)
      replace HB := Lib.hid (HB.out.trans (hb.mono (Nat.le_of_lt hz2)))
      replace hz2 := Nat.lt_of_lt_of_le hz2 hb.size
      clear hb hi hr
      generalize (heavR ss ps).1 = ids at *
      generalize (heavR ss ps).2 = wgh at *
      have hil := HI.out.2.2.1
      have HD := Lib.hid HV.out.dl
      have HO0 : Hid (PickR w5 (w5.alloc (.cells #[] 65)) w5.heap.size (some ⟨w5.heap.size, 0, none⟩) 0 [] []) := Lib.hid ⟨rfl, own_nil_lit w5 w5.heap.size w5.heap.size 65 6 rfl (Nat.le_refl _), fun i h1 h2 => by simp at h1⟩
      have HB0 := Lib.hid (below1 w5 (.cells #[] 65))
      clear HV
      go_wp2_with fail
      generalize w5.alloc (.cells #[] 65) = W1 at *
      go_loopw [10, 11] (fun u i wr => ∃ k : Nat, k ≤ ps.length ∧ i = .int .i64 k ∧ ∃ (q : List Prp) (hs : List PrH) (O : Option Addr) (oc : Nat), u = .slice O q.length oc ∧ q.length ≤ k ∧ Hid (ShortP q) ∧ Hid (PickR w5 wr w5.heap.size O oc q hs) ∧ Below w5.heap.size w5 wr) (fun _ i _ => ps.length - (intOf i).toNat)
      case atStart => exact ⟨0, Nat.zero_le _, rfl, [], [], _, _, rfl, Nat.zero_le _, Lib.hid (fun p hp => by simp at hp), HO0, HB0.out⟩
      case round =>
        clear HO0 HB0
        obtain ⟨w6, hw6⟩ : ∃ x : World, x = wr := ⟨_, rfl⟩
        subst hw6
        obtain ⟨k, hk, rfl, q, hs, Q, oc, rfl, hqk, HSQ, HP, hB⟩ := hrel
        have HB6 := Lib.hid hB
        have hbz := hB.size
        clear hB
        by_cases hlk : k < ps.length
        · obtain ⟨a, B, bd, rfl, ⟨hc0, hc1, hc2, hc3, hc4, hc5⟩, hle, hcw⟩ := HD.out.at_ hlk
          have i2 : (k : Int) < (ps.length : Int) := by omega
          have HSP := Lib.hid (HS.out _ (List.getElem_mem hlk))
          obtain ⟨p, hp⟩ : ∃ p, Hid (ps[k] = p) := ⟨_, Lib.hid rfl⟩
          rw [hp.out] at hc0 hc1 hc2 hc3 hc4 hc5 hle hcw HSP
          have HBR := Lib.hid (show Bears w5 ⟨p.i, p.a.k, p.a.p, p.a.n, B, p.a.ws.length, bd, p.t⟩ p from ⟨⟨rfl, rfl, rfl, rfl, rfl, rfl⟩, hle, hcw⟩)
          have e0 := (HB6.out.cell (World.block_lt_of_cell? _ _ hc0)).trans hc0
          have e1 := (HB6.out.cell (World.block_lt_of_cell? _ _ hc1)).trans hc1
          have e2 := (HB6.out.cell (World.block_lt_of_cell? _ _ hc2)).trans hc2
          have e3 := (HB6.out.cell (World.block_lt_of_cell? _ _ hc3)).trans hc3
          have e4 := (HB6.out.cell (World.block_lt_of_cell? _ _ hc4)).trans hc4
          have e5 := (HB6.out.cell (World.block_lt_of_cell? _ _ hc5)).trans hc5
          clear hc0 hc1 hc2 hc3 hc4 hc5 hle hcw
          go_wp2_with fail
          refine (l1Has_any I ids.length ic ids p.i w6 rfl (HI.out.cells.below HB6.out) hil).mono ?_
          rintro e w' ⟨rfl, hw⟩
          rw [← hw]
          clear hw
          rcases Bool.eq_false_or_eq_true (hasB p.i ids) with hh | hh
          · rw [hh]
            have HOW := HP
            clear HP hh
            go_wp2_with (at_builtin; go_must (refine list_append_gr elPrp _ rfl _ _ rfl w5.heap.size Q _ oc q.length 1 1 (PrHK.row hs) [.int .i64 p.i, .int .i64 p.a.k, .int .i64 p.a.p, .int .i64 p.a.n, .slice B p.a.ws.length bd, .int .i64 p.t] rfl rfl rfl (own_keep HOW.out.2.1 (below1 w6 _)) (cells_arr _ #[.int .i64 p.i, .int .i64 p.a.k, .int .i64 p.a.p, .int .i64 p.a.n, .slice B p.a.ws.length bd, .int .i64 p.t] _ _ rfl) (fun u hu => prh_one (xs := [⟨p.i, p.a.k, p.a.p, p.a.n, B, p.a.ws.length, bd, p.t⟩]) u hu) (by simp; omega) (by omega) ?_); intro O2 oc2 w7 o2 b2' g2; have HO7 := Lib.hid o2; have HB7 := Lib.hid (HB6.out.trans (((below1 w6 _).mono HB6.out.size).trans b2')); clear o2 b2' g2 e0 e1 e2 e3 e4 e5)
            have HPR : Hid (PickR w5 w7 w5.heap.size O2 oc2 (q ++ [p]) (hs ++ [⟨p.i, p.a.k, p.a.p, p.a.n, B, p.a.ws.length, bd, p.t⟩])) := by
              refine Lib.hid ⟨by rw [List.length_append, List.length_append, HOW.out.1]; rfl, ?_, fun i h1 h2 => ?_⟩
              · rw [List.length_append, PrHK.row_append]
                exact HO7.out
              · rcases Nat.lt_or_ge i hs.length with h3 | h3
                · rw [List.getElem_append_left h3, List.getElem_append_left (by rw [← HOW.out.1]; exact h3)]
                  exact HOW.out.2.2 i h3 (by rw [← HOW.out.1]; exact h3)
                · have h4 : i = hs.length := by simp at h1; omega
                  subst h4
                  rw [List.getElem_append_right (Nat.le_refl _), List.getElem_append_right (by rw [HOW.out.1]; exact Nat.le_refl _)]
                  simpa using HBR.out
            go_roundw
            case rel => exact ⟨k + 1, hlk, by go_num, q ++ [p], _, O2, oc2, by rw [List.length_append]; rfl, by simp; omega, Lib.hid (HSQ.out.snoc HSP.out.1 HSP.out.2), HPR, HB7.out⟩
            case measure => simp [intOf]; omega
          · rw [hh]
            clear hh
            go_wp2
            go_roundw
            case rel => exact ⟨k + 1, hlk, by go_num, q, hs, Q, oc, rfl, by omega, HSQ, HP, HB6.out⟩
            case measure => simp [intOf]; omega
        · obtain rfl : k = ps.length := by omega
          have HDQ := Lib.hid (show DL w6 Q oc q from ⟨own_cap HP.out.2.1, hs, HP.out.1, Cells.of_own HP.out.2.1, fun i h1 h2 => (HP.out.2.2 i h1 h2).below HB6.out⟩)
          have HFQ := Lib.hid (HSQ.out.fit (by omega))
          have hO := own_keep HO.out HB6.out
          have HRR := Lib.hid (show RdS w6.heap.size w6 O d ss from ⟨own_cap hO, CellsB.own hO (Under.own hO), HFS.out⟩)
          have HBF := Lib.hid (HB.out.trans (HB6.out.mono (Nat.le_of_lt hz2)))
          clear hO HP HSQ
          go_wp2
          go_ret2
          exact ⟨O, Q, d, oc, ss, q, rfl, HRR.out, HDQ.out, HFQ.out, HBF.out⟩
  · rw [hr]
    go_wp2
    go_ret2
    exact ⟨O, P, d, pd, ss, ps, rfl, ⟨own_cap HO.out, CellsB.own HO.out (Under.own HO.out), HFS.out⟩, HV.out.dl, HF.out, HB.out⟩
end Go.Proofs.Ytgchbimjgdoifaa
namespace Go.Proofs.Ytgchbimjgdoifaa.fnConflicts
open Go.RowKit
set_option linter.unusedVariables false
set_option linter.unusedSimpArgs false
attribute [local go_sem ↓] Go.wp_at_zero Go.wp_at_succ
theorem sAreProposals_w (T A : Option Addr) (t c : Nat) (ss : List ByteArray) (ps : List Prp) (w : World) (hT : Cells w T (strs ss)) (htc : ss.length ≤ t) (hfs : Fit ss) (hd : DL w A c ps) (hf : FitP ps) : Calls Try.prog 49 #[.slice T ss.length t, .slice A ps.length c] w fun e w' => e = .returned (.bool (propB ss ps)) ∧ Below w.heap.size w w' := by
  have HV := Lib.hid (l10Good_any T A t c ss ps w hT htc hfs hd hf)
  clear hT hd hf
  go_enter Try.func49, Try.ntmps49
  go_wp2_with (go_at_call 94; refine HV.out.mono ?_; rintro e w1 ⟨rfl, hb⟩; have HB0 := Lib.hid hb; clear hb)
  go_ret
  exact ⟨rfl, HB0.out⟩
theorem both_eq (a f : Amd) : (vldA f && vldA a && conB f a) = (vldA a && vldA f && conB a f) ∧ (vldA f && vldA a) = (vldA a && vldA f) := by
  rw [conB_symm f a, Bool.and_comm (vldA f)]; exact ⟨rfl, rfl⟩
/-- Two of them. -/
def Two (ss : List ByteArray) (ps : List Prp) (x y : Prp) : Prop := canB ss x.a = true ∧ canB ss y.a = true ∧ (shOk y.a x.a = true → canB (appL ss x.a) (shR y.a x.a) = true → appL (appL ss x.a) (shR y.a x.a) = togL ss ps) ∧ (shOk x.a y.a = true → canB (appL ss y.a) (shR x.a y.a) = true → appL (appL ss y.a) (shR x.a y.a) = togL ss ps)
theorem two_law {ss : List ByteArray} {ps : List Prp} (h : togB ss ps = true) (h2 : ps.length = 2) : ∃ x y, ps[0]'(by omega) = x ∧ ps[1]'(by omega) = y ∧ Two ss ps x y := by
  obtain ⟨x, y, rfl⟩ := twoPrs (ps := ps) (by omega)
  exact ⟨x, y, rfl, rfl, con_law h⟩
theorem box_first (w : World) (X Y : Array Value) (T T' : TypeId) : BoxX ((w.alloc (.cells X T)).alloc (.cells Y T')).drew w.heap.size X.toList := ((BoxX.new w X T).step (below1 _ _)).step (Below.refl _ _).drew
theorem box_second (w : World) (X Y : Array Value) (T T' : TypeId) : BoxX ((w.alloc (.cells X T)).alloc (.cells Y T')).drew (w.heap.size + 1) Y.toList := by
  have h := BoxX.new (w.alloc (.cells X T)) Y T'
  have e : (w.alloc (.cells X T)).heap.size = w.heap.size + 1 := by simp
  rw [e] at h
  exact h.step (Below.refl _ _).drew
set_option maxRecDepth 100000 in
set_option maxHeartbeats 8000000 in
theorem walk (A : Option Addr) (c : Nat) (xs : List Int) (w : World) (hx : xs.length ≤ c ∧ Cells w A (ByteK.row xs) ∧ xs.length ≤ maxLen ∧ ∀ x ∈ xs, ByteK.fit x) :
    Calls Try.prog 6 #[.slice A xs.length c] w fun e w' => e = .returned (.bool true) ∧ Below w.heap.size w w' := by
  have HBY := Lib.hid (bytesC_of hx.2.1 hx.2.2.2)
  have HB := Lib.hid (Below.refl w.heap.size w)
  clear hx
  by_cases hbig : 65536 < xs.length
  · have hd : decide (65536 < xs.length) = true := decide_eq_true hbig
    go_enter Try.func6, Try.ntmps6
    go_wp2_with fail
    refine (vBig_any A _ c w).mono ?_
    rintro e w1 ⟨rfl, hb⟩
    rw [hd]
    go_wp2
    go_ret
    exact ⟨rfl, hb⟩
  have hd : decide (65536 < xs.length) = false := decide_eq_false hbig
  have hxl : xs.length ≤ 65536 := by omega
  clear hbig
  go_enter Try.func6, Try.ntmps6
  go_wp2_with fail
  refine (vBig_any A _ c w).mono ?_
  rintro e w1 ⟨rfl, hb⟩
  replace HBY := Lib.hid (HBY.out.grow hb)
  replace HB := Lib.hid (after HB.out hb)
  rw [hd]
  clear hd
  clear hb
  go_wp2_with fail
  refine (DrawDoConflict_any A _ c w1 HBY.out hxl).mono ?_
  rintro e w2 ⟨N, M, nd, md, a, f, rfl, hX, hY, hF1, hF2, hb⟩
  replace HBY := Lib.hid (HBY.out.grow hb)
  replace HB := Lib.hid (after HB.out hb)
  have HN := Lib.hid (rd_own hX hF1)
  have HM := Lib.hid (rd_own hY hF2)
  clear hb
  clear  hX hY hF1 hF2
  have hb := below2 w2 (.cells #[.int .i64 a.k, .int .i64 a.p, .int .i64 a.n, .slice N a.ws.length nd] 40) (.cells #[.int .i64 f.k, .int .i64 f.p, .int .i64 f.n, .slice M f.ws.length md] 40)
  replace HBY := Lib.hid (HBY.out.grow hb)
  replace HN := Lib.hid (HN.out.grow hb)
  replace HM := Lib.hid (HM.out.grow hb)
  replace HB := Lib.hid (after HB.out hb)
  have HQ1 := Lib.hid (BoxX.step (BoxX.new w2 #[.int .i64 a.k, .int .i64 a.p, .int .i64 a.n, .slice N a.ws.length nd] 40) (below1 _ (.cells #[.int .i64 f.k, .int .i64 f.p, .int .i64 f.n, .slice M f.ws.length md] 40)))
  have HQ2 := Lib.hid (show BoxX ((w2.alloc (.cells #[.int .i64 a.k, .int .i64 a.p, .int .i64 a.n, .slice N a.ws.length nd] 40)).alloc (.cells #[.int .i64 f.k, .int .i64 f.p, .int .i64 f.n, .slice M f.ws.length md] 40)) (w2.heap.size + 1) [.int .i64 f.k, .int .i64 f.p, .int .i64 f.n, .slice M f.ws.length md] from ⟨BoxF.new' _ #[.int .i64 f.k, .int .i64 f.p, .int .i64 f.n, .slice M f.ws.length md] _ _ (by simp), by simp⟩)
  clear hb
  go_upto_region 4 with fail
  generalize (w2.alloc (.cells #[.int .i64 a.k, .int .i64 a.p, .int .i64 a.n, .slice N a.ws.length nd] 40)).alloc (.cells #[.int .i64 f.k, .int .i64 f.p, .int .i64 f.n, .slice M f.ws.length md] 40) = w3 at *
  generalize w2.heap.size + 1 = qQ2 at *
  generalize w2.heap.size = qQ1 at *
  obtain ⟨D, hD⟩ : ∃ v0, Hid ((vldA a && vldA f && conB a f) = v0) := ⟨_, Lib.hid rfl⟩
  obtain ⟨G, hG⟩ : ∃ v0, Hid ((vldA a && vldA f) = v0) := ⟨_, Lib.hid rfl⟩
  have xQ10 := HQ1.out.1.1 0 _ rfl
  have xQ11 := HQ1.out.1.1 1 _ rfl
  have xQ12 := HQ1.out.1.1 2 _ rfl
  have xQ13 := HQ1.out.1.1 3 _ rfl
  have xQ20 := HQ2.out.1.1 0 _ rfl
  have xQ21 := HQ2.out.1.1 1 _ rfl
  have xQ22 := HQ2.out.1.1 2 _ rfl
  have xQ23 := HQ2.out.1.1 3 _ rfl
  go_wp2_with fail
  refine (DoConflict_abs HN.out HM.out).mono ?_
  rintro e w4 ⟨rfl, hb⟩
  rw [hD.out, hG.out]
  replace HBY := Lib.hid (HBY.out.grow hb)
  replace HN := Lib.hid (HN.out.grow hb)
  replace HM := Lib.hid (HM.out.grow hb)
  replace HQ1 := Lib.hid (HQ1.out.step hb)
  replace HQ2 := Lib.hid (HQ2.out.step hb)
  replace HB := Lib.hid (after HB.out hb)
  clear hb
  clear xQ10 xQ11 xQ12 xQ13 xQ20 xQ21 xQ22 xQ23 
  have xQ10 := HQ1.out.1.1 0 _ rfl
  have xQ11 := HQ1.out.1.1 1 _ rfl
  have xQ12 := HQ1.out.1.1 2 _ rfl
  have xQ13 := HQ1.out.1.1 3 _ rfl
  have xQ20 := HQ2.out.1.1 0 _ rfl
  have xQ21 := HQ2.out.1.1 1 _ rfl
  have xQ22 := HQ2.out.1.1 2 _ rfl
  have xQ23 := HQ2.out.1.1 3 _ rfl
  go_wp2_with fail
  refine (DoConflict_abs HM.out HN.out).mono ?_
  rintro e w5 ⟨rfl, hb⟩
  rw [(both_eq a f).1, (both_eq a f).2, hD.out, hG.out]
  replace HBY := Lib.hid (HBY.out.grow hb)
  replace HN := Lib.hid (HN.out.grow hb)
  replace HM := Lib.hid (HM.out.grow hb)
  replace HQ1 := Lib.hid (HQ1.out.step hb)
  replace HQ2 := Lib.hid (HQ2.out.step hb)
  replace HB := Lib.hid (after HB.out hb)
  clear hb
  clear xQ10 xQ11 xQ12 xQ13 xQ20 xQ21 xQ22 xQ23 
  have xQ10 := HQ1.out.1.1 0 _ rfl
  have xQ11 := HQ1.out.1.1 1 _ rfl
  have xQ12 := HQ1.out.1.1 2 _ rfl
  have xQ13 := HQ1.out.1.1 3 _ rfl
  have xQ20 := HQ2.out.1.1 0 _ rfl
  have xQ21 := HQ2.out.1.1 1 _ rfl
  have xQ22 := HQ2.out.1.1 2 _ rfl
  have xQ23 := HQ2.out.1.1 3 _ rfl
  go_wp2_with fail
  refine (sDoConflict_abs HN.out HM.out).mono ?_
  rintro e w6 ⟨rfl, hb⟩
  rw [hD.out, hG.out]
  replace HBY := Lib.hid (HBY.out.grow hb)
  replace HN := Lib.hid (HN.out.grow hb)
  replace HM := Lib.hid (HM.out.grow hb)
  replace HQ1 := Lib.hid (HQ1.out.step hb)
  replace HQ2 := Lib.hid (HQ2.out.step hb)
  replace HB := Lib.hid (after HB.out hb)
  clear hb
  clear xQ10 xQ11 xQ12 xQ13 xQ20 xQ21 xQ22 xQ23 
  clear HN HM HQ1 HQ2
  clear hD hG
  go_wp2_with fail
  refine (DrawShiftedChange_any A _ c w6 HBY.out hxl).mono ?_
  rintro e w7 ⟨N2, M2, nd2, md2, a2, f2, rfl, hX, hY, hF1, hF2, hb⟩
  replace HBY := Lib.hid (HBY.out.grow hb)
  replace HB := Lib.hid (after HB.out hb)
  have HN := Lib.hid (rd_own hX hF1)
  have HM := Lib.hid (rd_own hY hF2)
  clear hb
  clear  hX hY hF1 hF2
  have hb := below2 w7 (.cells #[.int .i64 a2.k, .int .i64 a2.p, .int .i64 a2.n, .slice N2 a2.ws.length nd2] 40) (.cells #[.int .i64 f2.k, .int .i64 f2.p, .int .i64 f2.n, .slice M2 f2.ws.length md2] 40)
  replace HBY := Lib.hid (HBY.out.grow hb)
  replace HN := Lib.hid (HN.out.grow hb)
  replace HM := Lib.hid (HM.out.grow hb)
  replace HB := Lib.hid (after HB.out hb)
  have HQ3 := Lib.hid (BoxX.step (BoxX.new w7 #[.int .i64 a2.k, .int .i64 a2.p, .int .i64 a2.n, .slice N2 a2.ws.length nd2] 40) (below1 _ (.cells #[.int .i64 f2.k, .int .i64 f2.p, .int .i64 f2.n, .slice M2 f2.ws.length md2] 40)))
  have HQ4 := Lib.hid (show BoxX ((w7.alloc (.cells #[.int .i64 a2.k, .int .i64 a2.p, .int .i64 a2.n, .slice N2 a2.ws.length nd2] 40)).alloc (.cells #[.int .i64 f2.k, .int .i64 f2.p, .int .i64 f2.n, .slice M2 f2.ws.length md2] 40)) (w7.heap.size + 1) [.int .i64 f2.k, .int .i64 f2.p, .int .i64 f2.n, .slice M2 f2.ws.length md2] from ⟨BoxF.new' _ #[.int .i64 f2.k, .int .i64 f2.p, .int .i64 f2.n, .slice M2 f2.ws.length md2] _ _ (by simp), by simp⟩)
  clear hb
  go_upto_region 10 with fail
  generalize (w7.alloc (.cells #[.int .i64 a2.k, .int .i64 a2.p, .int .i64 a2.n, .slice N2 a2.ws.length nd2] 40)).alloc (.cells #[.int .i64 f2.k, .int .i64 f2.p, .int .i64 f2.n, .slice M2 f2.ws.length md2] 40) = w8 at *
  generalize w7.heap.size + 1 = qQ4 at *
  generalize w7.heap.size = qQ3 at *
  obtain ⟨sg, hsg⟩ : ∃ v0, Hid (shR a2 f2 = v0) := ⟨_, Lib.hid rfl⟩
  obtain ⟨so, hso⟩ : ∃ v0, Hid (shOk a2 f2 = v0) := ⟨_, Lib.hid rfl⟩
  have xQ30 := HQ3.out.1.1 0 _ rfl
  have xQ31 := HQ3.out.1.1 1 _ rfl
  have xQ32 := HQ3.out.1.1 2 _ rfl
  have xQ33 := HQ3.out.1.1 3 _ rfl
  have xQ40 := HQ4.out.1.1 0 _ rfl
  have xQ41 := HQ4.out.1.1 1 _ rfl
  have xQ42 := HQ4.out.1.1 2 _ rfl
  have xQ43 := HQ4.out.1.1 3 _ rfl
  go_wp2_with fail
  refine (ShiftedChange_abs HN.out HM.out).mono ?_
  rintro e w9 ⟨C, cd, rfl, ho, hb⟩
  rw [hsg.out] at ho ⊢
  rw [hso.out]
  replace HBY := Lib.hid (HBY.out.grow hb)
  replace HN := Lib.hid (HN.out.grow hb)
  replace HM := Lib.hid (HM.out.grow hb)
  replace HQ3 := Lib.hid (HQ3.out.step hb)
  replace HQ4 := Lib.hid (HQ4.out.step hb)
  replace HB := Lib.hid (after HB.out hb)
  have HC := Lib.hid (OwS.rdX ho)
  clear hb
  clear xQ30 xQ31 xQ32 xQ33 xQ40 xQ41 xQ42 xQ43 ho
  have hb := below1 w9 (.cells #[.int .i64 sg.k, .int .i64 sg.p, .int .i64 sg.n, .slice C sg.ws.length cd] 40)
  replace HBY := Lib.hid (HBY.out.grow hb)
  replace HN := Lib.hid (HN.out.grow hb)
  replace HM := Lib.hid (HM.out.grow hb)
  replace HQ3 := Lib.hid (HQ3.out.step hb)
  replace HQ4 := Lib.hid (HQ4.out.step hb)
  replace HC := Lib.hid (HC.out.grow hb)
  replace HB := Lib.hid (after HB.out hb)
  have HQ5 := Lib.hid (BoxX.new w9 #[.int .i64 sg.k, .int .i64 sg.p, .int .i64 sg.n, .slice C sg.ws.length cd] 40)
  clear hb
  go_upto_region 11 with fail
  generalize w9.alloc (.cells #[.int .i64 sg.k, .int .i64 sg.p, .int .i64 sg.n, .slice C sg.ws.length cd] 40) = w10 at *
  generalize w9.heap.size = qQ5 at *
  have xQ30 := HQ3.out.1.1 0 _ rfl
  have xQ31 := HQ3.out.1.1 1 _ rfl
  have xQ32 := HQ3.out.1.1 2 _ rfl
  have xQ33 := HQ3.out.1.1 3 _ rfl
  have xQ40 := HQ4.out.1.1 0 _ rfl
  have xQ41 := HQ4.out.1.1 1 _ rfl
  have xQ42 := HQ4.out.1.1 2 _ rfl
  have xQ43 := HQ4.out.1.1 3 _ rfl
  go_wp2_with fail
  refine (sShiftedChange_abs HN.out HM.out).mono ?_
  rintro e w11 ⟨K, kd, rfl, ho, hb⟩
  rw [hsg.out] at ho ⊢
  rw [hso.out]
  replace HBY := Lib.hid (HBY.out.grow hb)
  replace HN := Lib.hid (HN.out.grow hb)
  replace HM := Lib.hid (HM.out.grow hb)
  replace HQ3 := Lib.hid (HQ3.out.step hb)
  replace HQ4 := Lib.hid (HQ4.out.step hb)
  replace HC := Lib.hid (HC.out.grow hb)
  replace HQ5 := Lib.hid (HQ5.out.step hb)
  replace HB := Lib.hid (after HB.out hb)
  have HK := Lib.hid (OwS.rdX ho)
  clear hb
  clear xQ30 xQ31 xQ32 xQ33 xQ40 xQ41 xQ42 xQ43 ho
  have hb := below1 w11 (.cells #[.int .i64 sg.k, .int .i64 sg.p, .int .i64 sg.n, .slice K sg.ws.length kd] 40)
  replace HBY := Lib.hid (HBY.out.grow hb)
  replace HN := Lib.hid (HN.out.grow hb)
  replace HM := Lib.hid (HM.out.grow hb)
  replace HQ3 := Lib.hid (HQ3.out.step hb)
  replace HQ4 := Lib.hid (HQ4.out.step hb)
  replace HC := Lib.hid (HC.out.grow hb)
  replace HQ5 := Lib.hid (HQ5.out.step hb)
  replace HK := Lib.hid (HK.out.grow hb)
  replace HB := Lib.hid (after HB.out hb)
  have HQ6 := Lib.hid (BoxX.new w11 #[.int .i64 sg.k, .int .i64 sg.p, .int .i64 sg.n, .slice K sg.ws.length kd] 40)
  clear hb
  go_upto_region 12 with fail
  generalize w11.alloc (.cells #[.int .i64 sg.k, .int .i64 sg.p, .int .i64 sg.n, .slice K sg.ws.length kd] 40) = w12 at *
  generalize w11.heap.size = qQ6 at *
  have xQ50 := HQ5.out.1.1 0 _ rfl
  have xQ51 := HQ5.out.1.1 1 _ rfl
  have xQ52 := HQ5.out.1.1 2 _ rfl
  have xQ53 := HQ5.out.1.1 3 _ rfl
  have xQ60 := HQ6.out.1.1 0 _ rfl
  have xQ61 := HQ6.out.1.1 1 _ rfl
  have xQ62 := HQ6.out.1.1 2 _ rfl
  have xQ63 := HQ6.out.1.1 3 _ rfl
  go_wp2_with fail
  refine (vAmendment_same HC.out HK.out).mono ?_
  rintro e w13 ⟨rfl, hb⟩
  replace HBY := Lib.hid (HBY.out.grow hb)
  replace HN := Lib.hid (HN.out.grow hb)
  replace HM := Lib.hid (HM.out.grow hb)
  replace HQ3 := Lib.hid (HQ3.out.step hb)
  replace HQ4 := Lib.hid (HQ4.out.step hb)
  replace HC := Lib.hid (HC.out.grow hb)
  replace HQ5 := Lib.hid (HQ5.out.step hb)
  replace HK := Lib.hid (HK.out.grow hb)
  replace HQ6 := Lib.hid (HQ6.out.step hb)
  replace HB := Lib.hid (after HB.out hb)
  clear hb
  clear xQ50 xQ51 xQ52 xQ53 xQ60 xQ61 xQ62 xQ63 
  clear HN HM HQ3 HQ4 HC HK HQ5 HQ6
  clear hsg hso
  go_wp2_with fail
  refine (DrawApplyTogether_any A _ c w13 HBY.out hxl).mono ?_
  rintro e w14 ⟨T, P, t, pd, ss, ps, rfl, hT, hD, hF, hb⟩
  replace HBY := Lib.hid (HBY.out.grow hb)
  replace HB := Lib.hid (after HB.out hb)
  have HT := Lib.hid (hT)
  have HD := Lib.hid (hD)
  clear hb
  clear  hT hD
  have HFP := Lib.hid hF
  clear hF
  have HL := Lib.hid (fun h h2 => two_law (ss := ss) (ps := ps) h h2)
  obtain ⟨tl, htl⟩ : ∃ v0, Hid (togL ss ps = v0) := ⟨_, Lib.hid rfl⟩
  obtain ⟨tb, htb⟩ : ∃ v0, Hid (togB ss ps = v0) := ⟨_, Lib.hid rfl⟩
  obtain ⟨pb, hpb⟩ : ∃ v0, Hid (propB ss ps = v0) := ⟨_, Lib.hid rfl⟩
  go_wp2_with fail
  refine (ApplyTogether_any T P t pd ss ps w14 HT.out.cells HT.out.1 HT.out.2.2 HD.out HFP.out).mono ?_
  rintro e w15 ⟨U, ud, rfl, ho, hb⟩
  rw [htl.out] at ho ⊢
  rw [htb.out]
  replace HBY := Lib.hid (HBY.out.grow hb)
  replace HT := Lib.hid (HT.out.grow hb)
  replace HD := Lib.hid (HD.out.below hb)
  replace HB := Lib.hid (after HB.out hb)
  have HU := Lib.hid (OwS.rdX ho)
  clear hb
  clear  ho
  go_wp2_with fail
  refine (sApplyTogether_any T P t pd ss ps w15 HT.out.cells HT.out.1 HT.out.2.2 HD.out HFP.out).mono ?_
  rintro e w16 ⟨V, vd, rfl, ho, hb⟩
  rw [htl.out] at ho ⊢
  rw [htb.out]
  replace HBY := Lib.hid (HBY.out.grow hb)
  replace HT := Lib.hid (HT.out.grow hb)
  replace HD := Lib.hid (HD.out.below hb)
  replace HU := Lib.hid (HU.out.grow hb)
  replace HB := Lib.hid (after HB.out hb)
  have HV := Lib.hid (OwS.rdX ho)
  clear hb
  clear  ho
  go_wp2_with fail
  refine (vTexts_same HU.out HV.out).mono ?_
  rintro e w17 ⟨rfl, hb⟩
  replace HBY := Lib.hid (HBY.out.grow hb)
  replace HT := Lib.hid (HT.out.grow hb)
  replace HD := Lib.hid (HD.out.below hb)
  replace HU := Lib.hid (HU.out.grow hb)
  replace HV := Lib.hid (HV.out.grow hb)
  replace HB := Lib.hid (after HB.out hb)
  clear hb
  clear HV
  go_wp2_with fail
  refine (AreProposals_any T P t pd ss ps w17 HT.out.cells HT.out.1 HT.out.2.2 HD.out HFP.out).mono ?_
  rintro e w18 ⟨rfl, hb⟩
  rw [hpb.out]
  replace HBY := Lib.hid (HBY.out.grow hb)
  replace HT := Lib.hid (HT.out.grow hb)
  replace HD := Lib.hid (HD.out.below hb)
  replace HU := Lib.hid (HU.out.grow hb)
  replace HB := Lib.hid (after HB.out hb)
  clear hb
  go_wp2_with fail
  refine (sAreProposals_w T P t pd ss ps w18 HT.out.cells HT.out.1 HT.out.2.2 HD.out HFP.out).mono ?_
  rintro e w19 ⟨rfl, hb⟩
  rw [hpb.out]
  replace HBY := Lib.hid (HBY.out.grow hb)
  replace HT := Lib.hid (HT.out.grow hb)
  replace HD := Lib.hid (HD.out.below hb)
  replace HU := Lib.hid (HU.out.grow hb)
  replace HB := Lib.hid (after HB.out hb)
  clear hb
  go_upto_region 19 with fail
  go_cut [152] (fun s wx => s = .bool (tb && decide (ps.length = 2)) ∧ wx = w19)
  case first => as_aux_lemma =>
    rcases Bool.eq_false_or_eq_true tb with hk | hk
    · subst hk
      by_cases h2 : ps.length = 2
      · have e2 : ((ps.length : Int) == 2) = true := by simp; omega
        go_wp2_with fail
        go_meet
        exact ⟨by simp [h2], rfl⟩
      · have e2 : ((ps.length : Int) == 2) = false := by simp; omega
        go_wp2_with fail
        go_meet
        exact ⟨by simp [h2], rfl⟩
    · subst hk
      go_wp2_with fail
      go_meet
      exact ⟨by simp, rfl⟩
  case rest => as_aux_lemma =>
    obtain ⟨rfl, hwc⟩ := hcut
    have hwc2 := hwc.symm
    clear hwc
    subst hwc2
    go_upto_if 152 with fail
    go_cut [20] (fun s wx => s = .bool tb ∧ Below w19.heap.size w19 wx)
    case first => as_aux_lemma =>
      have HB := Lib.hid (Below.refl w19.heap.size w19)
      rcases Bool.eq_false_or_eq_true (tb && decide (ps.length = 2)) with hq | hq
      · rw [hq]
        rw [Bool.and_eq_true, decide_eq_true_eq] at hq
        obtain ⟨hk, h2⟩ := hq
        subst hk
        have e2 : ((ps.length : Int) == 2) = true := by simp; omega
        obtain ⟨x, y, hx, hy, hw⟩ := HL.out htb.out h2
        have HW := Lib.hid hw
        clear hw HL
        obtain ⟨ad, B1, d1, hPe, ⟨c0, c1, c2, c3, c4, c5⟩, hc1, hw1⟩ := HD.out.at_ (show 0 < ps.length by omega)
        obtain ⟨ad2, B2, d2, hPe2, ⟨g0, g1, g2, g3, g4, g5⟩, hc2, hw2⟩ := HD.out.at_ (show 1 < ps.length by omega)
        have hf1 := HFP.out.2.1 _ (List.getElem_mem (show 0 < ps.length by omega))
        have hf2 := HFP.out.2.1 _ (List.getElem_mem (show 1 < ps.length by omega))
        obtain rfl : ad = ad2 := Option.some.inj (hPe.symm.trans hPe2)
        clear hPe2 c0 c5 g0 g5
        rw [hx] at c1 c2 c3 c4 hc1 hw1 hf1
        rw [hy] at g1 g2 g3 g4 hc2 hw2 hf2
        have HX := Lib.hid (show RdS w19.heap.size w19 B1 d1 x.a.ws from ⟨hc1, CellsB.of_cells hw1, hf1⟩)
        have HY := Lib.hid (show RdS w19.heap.size w19 B2 d2 y.a.ws from ⟨hc2, CellsB.of_cells hw2, hf2⟩)
        clear hc1 hw1 hf1 hc2 hw2 hf2 hx hy
        subst hPe
        have i0 : (0 : Int) < (ps.length : Int) := by omega
        have i1 : (1 : Int) < (ps.length : Int) := by omega
        have b1 : (ad.add (0 * 6)).block = ad.block := rfl
        have b2 : (ad.add (0 * 6)).off = ad.off := by simp [Addr.add]
        have b3 : (ad.add (1 * 6)).block = ad.block := rfl
        have b4 : (ad.add (1 * 6)).off = ad.off + 6 := by simp [Addr.add]
        rw [b1, b2] at c1 c2 c3 c4
        rw [b3, b4] at g1 g2 g3 g4
        clear b1 b2 b3 b4
        have hab : ad.block < w19.heap.size := World.block_lt_of_cell? _ ⟨ad.block, ad.off + 1, none⟩ c1
        have j0 : 0 < ps.length := by omega
        have j1 : 1 < ps.length := by omega
        clear h2
        go_upto_region 20 with fail
        go_cut [23, 24] (fun s t wx => ∃ p q : Nat, s = .pointer (some ⟨p, 0, none⟩) ∧ t = .pointer (some ⟨q, 0, none⟩) ∧ BoxX wx p [.int .i64 x.a.k, .int .i64 x.a.p, .int .i64 x.a.n, .slice B1 x.a.ws.length d1] ∧ BoxX wx q [.int .i64 y.a.k, .int .i64 y.a.p, .int .i64 y.a.n, .slice B2 y.a.ws.length d2] ∧ Below w19.heap.size w19 wx)
        case first => as_aux_lemma =>
          go_region_held3 (fun w' => Below w19.heap.size w19 w' ∧ (∀ b o, b < w19.heap.size → w'.cell? ⟨b, o, none⟩ = w19.cell? ⟨b, o, none⟩))
            ((first | (refine mkS ?_; assumption) | (refine allocS ?_ ?_; assumption; simp; done) | (refine setS ?_ ?_; assumption; simp; omega) | (refine drewS ?_; assumption) | (refine mkS ?_; go_grown)))
            (fail)
          all_goals (go_wp2_with fail; go_meet; refine ⟨_, _, rfl, rfl, ?_, ?_, ?_⟩)
          all_goals first | exact box_first _ _ _ _ _ | exact box_second _ _ _ _ _ | exact (below2 _ _ _).drew
        case rest => as_aux_lemma =>
          clear c1 c2 c3 c4 g1 g2 g3 g4 hab i0 i1 j0 j1 e2
          obtain ⟨qQ7, qQ8, rfl, rfl, hq7, hq8, hb⟩ := hcut
          obtain ⟨w20, hwc⟩ : ∃ x : World, x = wc := ⟨_, rfl⟩
          subst hwc
          replace HBY := Lib.hid (HBY.out.grow hb)
          replace HT := Lib.hid (HT.out.grow hb)
          replace HD := Lib.hid (HD.out.below hb)
          replace HU := Lib.hid (HU.out.grow hb)
          replace HX := Lib.hid (HX.out.grow hb)
          replace HY := Lib.hid (HY.out.grow hb)
          replace HB := Lib.hid (after HB.out hb)
          clear hb
          have HQ7 := Lib.hid hq7
          have HQ8 := Lib.hid hq8
          clear hq7 hq8
          have HW3 := Lib.hid HW.out.2.2.1
          have HW4 := Lib.hid HW.out.2.2.2
          obtain ⟨s1, hs1⟩ : ∃ v0, Hid (shR y.a x.a = v0) := ⟨_, Lib.hid rfl⟩
          obtain ⟨p1, hp1⟩ : ∃ v0, Hid (shOk y.a x.a = v0) := ⟨_, Lib.hid rfl⟩
          obtain ⟨s2, hs2⟩ : ∃ v0, Hid (shR x.a y.a = v0) := ⟨_, Lib.hid rfl⟩
          obtain ⟨p2, hp2⟩ : ∃ v0, Hid (shOk x.a y.a = v0) := ⟨_, Lib.hid rfl⟩
          obtain ⟨l1, hl1⟩ : ∃ v0, Hid (appL ss x.a = v0) := ⟨_, Lib.hid rfl⟩
          obtain ⟨l2, hl2⟩ : ∃ v0, Hid (appL ss y.a = v0) := ⟨_, Lib.hid rfl⟩
          rw [hs1.out, hp1.out, hl1.out] at HW3
          rw [hs2.out, hp2.out, hl2.out] at HW4
          obtain ⟨m1, hm1⟩ : ∃ v0, Hid (appL l1 s1 = v0) := ⟨_, Lib.hid rfl⟩
          obtain ⟨b1, hb1⟩ : ∃ v0, Hid (canB l1 s1 = v0) := ⟨_, Lib.hid rfl⟩
          obtain ⟨m2, hm2⟩ : ∃ v0, Hid (appL l2 s2 = v0) := ⟨_, Lib.hid rfl⟩
          obtain ⟨b2, hb2⟩ : ∃ v0, Hid (canB l2 s2 = v0) := ⟨_, Lib.hid rfl⟩
          rw [hm1.out, hb1.out, htl.out] at HW3
          rw [hm2.out, hb2.out, htl.out] at HW4
          have xQ70 := HQ7.out.1.1 0 _ rfl
          have xQ71 := HQ7.out.1.1 1 _ rfl
          have xQ72 := HQ7.out.1.1 2 _ rfl
          have xQ73 := HQ7.out.1.1 3 _ rfl
          have xQ80 := HQ8.out.1.1 0 _ rfl
          have xQ81 := HQ8.out.1.1 1 _ rfl
          have xQ82 := HQ8.out.1.1 2 _ rfl
          have xQ83 := HQ8.out.1.1 3 _ rfl
          go_wp2_with fail
          refine (ShiftedChange_abs HY.out HX.out).mono ?_
          rintro e w21 ⟨C, cd, rfl, ho, hb⟩
          rw [hs1.out] at ho ⊢
          rw [hp1.out]
          replace HBY := Lib.hid (HBY.out.grow hb)
          replace HT := Lib.hid (HT.out.grow hb)
          replace HD := Lib.hid (HD.out.below hb)
          replace HU := Lib.hid (HU.out.grow hb)
          replace HX := Lib.hid (HX.out.grow hb)
          replace HY := Lib.hid (HY.out.grow hb)
          replace HQ7 := Lib.hid (HQ7.out.step hb)
          replace HQ8 := Lib.hid (HQ8.out.step hb)
          replace HB := Lib.hid (after HB.out hb)
          have HC := Lib.hid (OwS.rdX ho)
          clear hb
          clear xQ70 xQ71 xQ72 xQ73 xQ80 xQ81 xQ82 xQ83 ho
          have hb := below1 w21 (.cells #[.int .i64 s1.k, .int .i64 s1.p, .int .i64 s1.n, .slice C s1.ws.length cd] 40)
          replace HBY := Lib.hid (HBY.out.grow hb)
          replace HT := Lib.hid (HT.out.grow hb)
          replace HD := Lib.hid (HD.out.below hb)
          replace HU := Lib.hid (HU.out.grow hb)
          replace HX := Lib.hid (HX.out.grow hb)
          replace HY := Lib.hid (HY.out.grow hb)
          replace HQ7 := Lib.hid (HQ7.out.step hb)
          replace HQ8 := Lib.hid (HQ8.out.step hb)
          replace HC := Lib.hid (HC.out.grow hb)
          replace HB := Lib.hid (after HB.out hb)
          have HQ9 := Lib.hid (BoxX.new w21 #[.int .i64 s1.k, .int .i64 s1.p, .int .i64 s1.n, .slice C s1.ws.length cd] 40)
          clear hb
          go_upto_region 22 with fail
          generalize w21.alloc (.cells #[.int .i64 s1.k, .int .i64 s1.p, .int .i64 s1.n, .slice C s1.ws.length cd] 40) = w22 at *
          generalize w21.heap.size = qQ9 at *
          have xQ70 := HQ7.out.1.1 0 _ rfl
          have xQ71 := HQ7.out.1.1 1 _ rfl
          have xQ72 := HQ7.out.1.1 2 _ rfl
          have xQ73 := HQ7.out.1.1 3 _ rfl
          have xQ80 := HQ8.out.1.1 0 _ rfl
          have xQ81 := HQ8.out.1.1 1 _ rfl
          have xQ82 := HQ8.out.1.1 2 _ rfl
          have xQ83 := HQ8.out.1.1 3 _ rfl
          go_wp2_with fail
          refine (ShiftedChange_abs HX.out HY.out).mono ?_
          rintro e w23 ⟨K, kd, rfl, ho, hb⟩
          rw [hs2.out] at ho ⊢
          rw [hp2.out]
          replace HBY := Lib.hid (HBY.out.grow hb)
          replace HT := Lib.hid (HT.out.grow hb)
          replace HD := Lib.hid (HD.out.below hb)
          replace HU := Lib.hid (HU.out.grow hb)
          replace HX := Lib.hid (HX.out.grow hb)
          replace HY := Lib.hid (HY.out.grow hb)
          replace HQ7 := Lib.hid (HQ7.out.step hb)
          replace HQ8 := Lib.hid (HQ8.out.step hb)
          replace HC := Lib.hid (HC.out.grow hb)
          replace HQ9 := Lib.hid (HQ9.out.step hb)
          replace HB := Lib.hid (after HB.out hb)
          have HK := Lib.hid (OwS.rdX ho)
          clear hb
          clear xQ70 xQ71 xQ72 xQ73 xQ80 xQ81 xQ82 xQ83 ho
          have hb := below1 w23 (.cells #[.int .i64 s2.k, .int .i64 s2.p, .int .i64 s2.n, .slice K s2.ws.length kd] 40)
          replace HBY := Lib.hid (HBY.out.grow hb)
          replace HT := Lib.hid (HT.out.grow hb)
          replace HD := Lib.hid (HD.out.below hb)
          replace HU := Lib.hid (HU.out.grow hb)
          replace HX := Lib.hid (HX.out.grow hb)
          replace HY := Lib.hid (HY.out.grow hb)
          replace HQ7 := Lib.hid (HQ7.out.step hb)
          replace HQ8 := Lib.hid (HQ8.out.step hb)
          replace HC := Lib.hid (HC.out.grow hb)
          replace HQ9 := Lib.hid (HQ9.out.step hb)
          replace HK := Lib.hid (HK.out.grow hb)
          replace HB := Lib.hid (after HB.out hb)
          have HQA := Lib.hid (BoxX.new w23 #[.int .i64 s2.k, .int .i64 s2.p, .int .i64 s2.n, .slice K s2.ws.length kd] 40)
          clear hb
          go_upto_region 23 with fail
          generalize w23.alloc (.cells #[.int .i64 s2.k, .int .i64 s2.p, .int .i64 s2.n, .slice K s2.ws.length kd] 40) = w24 at *
          generalize w23.heap.size = qQA at *
          have xQ70 := HQ7.out.1.1 0 _ rfl
          have xQ71 := HQ7.out.1.1 1 _ rfl
          have xQ72 := HQ7.out.1.1 2 _ rfl
          have xQ73 := HQ7.out.1.1 3 _ rfl
          go_wp2_with fail
          refine (ApplyAmendment_abs HT.out HX.out).mono ?_
          rintro e w25 ⟨R, rd, rfl, ho, hb⟩
          rw [hl1.out] at ho ⊢
          rw [HW.out.1]
          replace HBY := Lib.hid (HBY.out.grow hb)
          replace HT := Lib.hid (HT.out.grow hb)
          replace HD := Lib.hid (HD.out.below hb)
          replace HU := Lib.hid (HU.out.grow hb)
          replace HX := Lib.hid (HX.out.grow hb)
          replace HY := Lib.hid (HY.out.grow hb)
          replace HQ7 := Lib.hid (HQ7.out.step hb)
          replace HQ8 := Lib.hid (HQ8.out.step hb)
          replace HC := Lib.hid (HC.out.grow hb)
          replace HQ9 := Lib.hid (HQ9.out.step hb)
          replace HK := Lib.hid (HK.out.grow hb)
          replace HQA := Lib.hid (HQA.out.step hb)
          replace HB := Lib.hid (after HB.out hb)
          have HR := Lib.hid (OwS.rdX ho)
          clear hb
          clear xQ70 xQ71 xQ72 xQ73 ho
          have xQ80 := HQ8.out.1.1 0 _ rfl
          have xQ81 := HQ8.out.1.1 1 _ rfl
          have xQ82 := HQ8.out.1.1 2 _ rfl
          have xQ83 := HQ8.out.1.1 3 _ rfl
          go_wp2_with fail
          refine (ApplyAmendment_abs HT.out HY.out).mono ?_
          rintro e w26 ⟨S, sd, rfl, ho, hb⟩
          rw [hl2.out] at ho ⊢
          rw [HW.out.2.1]
          replace HBY := Lib.hid (HBY.out.grow hb)
          replace HT := Lib.hid (HT.out.grow hb)
          replace HD := Lib.hid (HD.out.below hb)
          replace HU := Lib.hid (HU.out.grow hb)
          replace HX := Lib.hid (HX.out.grow hb)
          replace HY := Lib.hid (HY.out.grow hb)
          replace HQ7 := Lib.hid (HQ7.out.step hb)
          replace HQ8 := Lib.hid (HQ8.out.step hb)
          replace HC := Lib.hid (HC.out.grow hb)
          replace HQ9 := Lib.hid (HQ9.out.step hb)
          replace HK := Lib.hid (HK.out.grow hb)
          replace HQA := Lib.hid (HQA.out.step hb)
          replace HR := Lib.hid (HR.out.grow hb)
          replace HB := Lib.hid (after HB.out hb)
          have HS := Lib.hid (OwS.rdX ho)
          clear hb
          clear xQ80 xQ81 xQ82 xQ83 ho
          clear HX HY HQ7 HQ8
          clear HW
          have xQ90 := HQ9.out.1.1 0 _ rfl
          have xQ91 := HQ9.out.1.1 1 _ rfl
          have xQ92 := HQ9.out.1.1 2 _ rfl
          have xQ93 := HQ9.out.1.1 3 _ rfl
          go_wp2_with fail
          refine (ApplyAmendment_abs HR.out HC.out).mono ?_
          rintro e w27 ⟨Z, zd, rfl, ho, hb⟩
          rw [hm1.out] at ho ⊢
          rw [hb1.out]
          replace HBY := Lib.hid (HBY.out.grow hb)
          replace HT := Lib.hid (HT.out.grow hb)
          replace HD := Lib.hid (HD.out.below hb)
          replace HU := Lib.hid (HU.out.grow hb)
          replace HC := Lib.hid (HC.out.grow hb)
          replace HQ9 := Lib.hid (HQ9.out.step hb)
          replace HK := Lib.hid (HK.out.grow hb)
          replace HQA := Lib.hid (HQA.out.step hb)
          replace HR := Lib.hid (HR.out.grow hb)
          replace HS := Lib.hid (HS.out.grow hb)
          replace HB := Lib.hid (after HB.out hb)
          have HZ := Lib.hid (OwS.rdX ho)
          clear hb
          clear xQ90 xQ91 xQ92 xQ93 ho
          go_upto_region 28 with fail
          go_cut [206] (fun s wx => s = .bool false ∧ Below w27.heap.size w27 wx)
          case first => as_aux_lemma =>
            clear HB HBY HT HD HC HQ9 HK HQA HR HS
            rcases Bool.eq_false_or_eq_true p1 with h1 | h1
            · rcases Bool.eq_false_or_eq_true b1 with h3 | h3
              · have e := HW3.out h1 h3
                subst h1
                subst h3
                subst e
                go_wp2_with fail
                refine (vTexts_same HZ.out HU.out).mono ?_
                rintro e w' ⟨rfl, hb⟩
                go_wp2_with fail
                go_meet
                exact ⟨rfl, hb⟩
              · subst h1
                subst h3
                go_wp2_with fail
                go_meet
                exact ⟨rfl, Below.refl _ _⟩
            · subst h1
              go_wp2_with fail
              go_meet
              exact ⟨rfl, Below.refl _ _⟩
          case rest => as_aux_lemma =>
            clear HW3
            obtain ⟨rfl, hb⟩ := hcut
            obtain ⟨w28, hwc⟩ : ∃ x : World, x = wc := ⟨_, rfl⟩
            subst hwc
            replace HBY := Lib.hid (HBY.out.grow hb)
            replace HT := Lib.hid (HT.out.grow hb)
            replace HD := Lib.hid (HD.out.below hb)
            replace HU := Lib.hid (HU.out.grow hb)
            replace HC := Lib.hid (HC.out.grow hb)
            replace HQ9 := Lib.hid (HQ9.out.step hb)
            replace HK := Lib.hid (HK.out.grow hb)
            replace HQA := Lib.hid (HQA.out.step hb)
            replace HR := Lib.hid (HR.out.grow hb)
            replace HS := Lib.hid (HS.out.grow hb)
            replace HZ := Lib.hid (HZ.out.grow hb)
            replace HB := Lib.hid (after HB.out hb)
            clear hb
            clear HZ HR HC HQ9
            have xQA0 := HQA.out.1.1 0 _ rfl
            have xQA1 := HQA.out.1.1 1 _ rfl
            have xQA2 := HQA.out.1.1 2 _ rfl
            have xQA3 := HQA.out.1.1 3 _ rfl
            go_wp2_with fail
            refine (ApplyAmendment_abs HS.out HK.out).mono ?_
            rintro e w29 ⟨Z2, zd2, rfl, ho, hb⟩
            rw [hm2.out] at ho ⊢
            rw [hb2.out]
            replace HBY := Lib.hid (HBY.out.grow hb)
            replace HT := Lib.hid (HT.out.grow hb)
            replace HD := Lib.hid (HD.out.below hb)
            replace HU := Lib.hid (HU.out.grow hb)
            replace HK := Lib.hid (HK.out.grow hb)
            replace HQA := Lib.hid (HQA.out.step hb)
            replace HS := Lib.hid (HS.out.grow hb)
            replace HB := Lib.hid (after HB.out hb)
            have HZ := Lib.hid (OwS.rdX ho)
            clear hb
            clear xQA0 xQA1 xQA2 xQA3 ho
            go_upto_region 31 with fail
            go_cut [222] (fun s wx => s = .bool false ∧ Below w29.heap.size w29 wx)
            case first => as_aux_lemma =>
              clear HB HBY HT HD HK HQA HS
              rcases Bool.eq_false_or_eq_true p2 with h1 | h1
              · rcases Bool.eq_false_or_eq_true b2 with h3 | h3
                · have e := HW4.out h1 h3
                  subst h1
                  subst h3
                  subst e
                  go_wp2_with fail
                  refine (vTexts_same HZ.out HU.out).mono ?_
                  rintro e w' ⟨rfl, hb⟩
                  go_wp2_with fail
                  go_meet
                  exact ⟨rfl, hb⟩
                · subst h1
                  subst h3
                  go_wp2_with fail
                  go_meet
                  exact ⟨rfl, Below.refl _ _⟩
              · subst h1
                go_wp2_with fail
                go_meet
                exact ⟨rfl, Below.refl _ _⟩
            case rest => as_aux_lemma =>
              clear HW4
              obtain ⟨rfl, hb⟩ := hcut
              obtain ⟨w30, hwc⟩ : ∃ x : World, x = wc := ⟨_, rfl⟩
              subst hwc
              replace HBY := Lib.hid (HBY.out.grow hb)
              replace HT := Lib.hid (HT.out.grow hb)
              replace HD := Lib.hid (HD.out.below hb)
              replace HU := Lib.hid (HU.out.grow hb)
              replace HK := Lib.hid (HK.out.grow hb)
              replace HQA := Lib.hid (HQA.out.step hb)
              replace HS := Lib.hid (HS.out.grow hb)
              replace HZ := Lib.hid (HZ.out.grow hb)
              replace HB := Lib.hid (after HB.out hb)
              clear hb
              clear HZ HS HK HQA
              go_wp2_with fail
              go_meet
              exact ⟨rfl, HB.out⟩
      · rw [hq]
        go_wp2_with fail
        go_meet
        exact ⟨rfl, HB.out⟩
    case rest => as_aux_lemma =>
      clear HL
      obtain ⟨rfl, hb⟩ := hcut
      obtain ⟨w31, hwc⟩ : ∃ x : World, x = wc := ⟨_, rfl⟩
      subst hwc
      replace HBY := Lib.hid (HBY.out.grow hb)
      replace HT := Lib.hid (HT.out.grow hb)
      replace HD := Lib.hid (HD.out.below hb)
      replace HU := Lib.hid (HU.out.grow hb)
      replace HB := Lib.hid (after HB.out hb)
      clear hb
      clear HT HD HU
      go_wp2_with fail
      refine (DrawConflictPairs_any A _ c w31 HBY.out hxl).mono ?_
      rintro e w32 ⟨T2, P2, t2, pd2, ss2, ps2, rfl, hT, hD, hF, hb⟩
      replace HBY := Lib.hid (HBY.out.grow hb)
      replace HB := Lib.hid (after HB.out hb)
      have HT := Lib.hid (hT)
      have HD := Lib.hid (hD)
      clear hb
      clear  hT hD
      have HFP2 := Lib.hid hF
      clear hF
      obtain ⟨pr, hpr⟩ : ∃ v0, Hid (pairL ss2 ps2 = v0) := ⟨_, Lib.hid rfl⟩
      obtain ⟨ok, hok⟩ : ∃ v0, Hid (propB ss2 ps2 = v0) := ⟨_, Lib.hid rfl⟩
      go_wp2_with fail
      refine (ConflictPairs_any T2 P2 t2 pd2 ss2 ps2 w32 HT.out.cells HT.out.1 HT.out.2.2 HD.out HFP2.out).mono ?_
      rintro e w33 ⟨U2, uc2, rfl, ho, hb⟩
      rw [hpr.out] at ho ⊢
      rw [hok.out]
      replace HBY := Lib.hid (HBY.out.grow hb)
      replace HT := Lib.hid (HT.out.grow hb)
      replace HD := Lib.hid (HD.out.below hb)
      replace HB := Lib.hid (after HB.out hb)
      have HU := Lib.hid (Ow.rd ho)
      clear hb
      clear  ho
      go_wp2_with fail
      refine (sConflictPairs_any T2 P2 t2 pd2 ss2 ps2 w33 HT.out.cells HT.out.1 HT.out.2.2 HD.out HFP2.out).mono ?_
      rintro e w34 ⟨V2, vc2, rfl, ho, hb⟩
      rw [hpr.out] at ho ⊢
      rw [hok.out]
      replace HBY := Lib.hid (HBY.out.grow hb)
      replace HT := Lib.hid (HT.out.grow hb)
      replace HD := Lib.hid (HD.out.below hb)
      replace HU := Lib.hid (HU.out.grow hb)
      replace HB := Lib.hid (after HB.out hb)
      have HV := Lib.hid (Ow.rd ho)
      clear hb
      clear  ho
      go_wp2_with fail
      refine (vPairs_same HU.out HV.out).mono ?_
      rintro e w35 ⟨rfl, hb⟩
      replace HBY := Lib.hid (HBY.out.grow hb)
      replace HT := Lib.hid (HT.out.grow hb)
      replace HD := Lib.hid (HD.out.below hb)
      replace HU := Lib.hid (HU.out.grow hb)
      replace HV := Lib.hid (HV.out.grow hb)
      replace HB := Lib.hid (after HB.out hb)
      clear hb
      go_wp2
      go_ret
      exact ⟨rfl, HB.out⟩
end Go.Proofs.Ytgchbimjgdoifaa.fnConflicts
namespace Go.Proofs.Ytgchbimjgdoifaa.fnConflicts
open Go.ChangeShapes Go.WideShapes Go.ChangeAt Go.RowKit Go.Joins
open Go.ChangeMaps (open_string shut_string)
set_option linter.unusedVariables false

theorem own : ownKnob Try.prog.godebug = none := by kernel_rfl
theorem laidOut : laidOutB Try.prog = true := by kernel_rfl
set_option maxRecDepth 100000 in
theorem lifted (os : Os) (started : os.Started) (H : Type) (enc : TypeId × Value → H) :
    ReturnsInHanded {} Try.checked os 6 .any (Rows.fnConflictsSpec.pre6 enc Try.prog Try.f6 Rows.fnConflictsRow.domain false) (Rows.fnConflictsSpec.post enc Try.prog Try.f6 false true false false) := by
  refine returnsInHanded_of_change (C := Try.checked) own started (by kernel_rfl) Try.func6
    (ChangeSpec.witness6 (enc := enc) (C := Try.checked) false ⟨#[], #[.slice none 0 0], []⟩ 8 (by kernel_rfl) (by kernel_rfl) (by kernel_rfl) (by kernel_rfl)) ?_
  intro W base args ds gs before hval0 hW hcnd hsz
  have hval : ∀ (j : Nat) t v, Try.f6.params[j]? = some t → args[j]? = some v → Value.okWide Try.prog W .any base t v := hval0
  have hW' := hW
  obtain ⟨p, q, hA0, hV, rfl, hfz, hnd⟩ := hW
  have hA : DataW.TrodAll enc Try.prog W 0 (fun _ => true) true Try.f6.params.toList args.toList ds p := hA0
  rw [Try.params6] at hA hval
  obtain ⟨v0, vs0, d0, ds0, p0, q0, hargs, rfl, rfl, h0, r0⟩ := trodAll_cons hA
  obtain ⟨rfl, rfl, rfl⟩ := trodAll_nil r0
  obtain rfl : args = #[v0] := by cases args; simp_all
  obtain ⟨rfl, rfl⟩ := trodVars_none hV
  have k0 := h0
  have lt0 : ∀ x ∈ p0, x.block < W.heap.size := by obtain ⟨m, hm⟩ := k0; exact DataW.trod_lt m _ _ _ hm
  obtain ⟨A00, c00, f0, rfl, x00⟩ := codeIn (hval 0 37 v0 rfl rfl) h0
  clear hA0 hval0
  refine (walk A00 c00 f0 W x00).mono fun e W' ⟨he, bel⟩ => ?_
  subst he
  exact ⟨_, rfl, _, _, _, [], _, [], hW', trodAll_mk1 (shut_bool Try.underlying4 _), (trodAll_cons_mk (Below.trod laidOut (by kernel_rfl) (of_decide_eq_true (by kernel_rfl)) k0 bel lt0) trodAll_mk0), rfl, bel.frame _, fun h => by cases h⟩
theorem over : Rows.fnConflictsRow.holds Try.pinned (OpenSpec.ofChange Rows.fnConflictsSpec) :=
  OpenClaim.holds_of_wide 6 Try.f6 rfl rfl rfl rfl rfl rfl rfl ⟨rfl, rfl, rfl, rfl, rfl⟩ rfl rfl rfl rfl rfl (by kernel_rfl) Try.func6 (by kernel_rfl)
    (of_decide_eq_true (by kernel_rfl)) (by unfold Func.isWrapper; first | (rw [if_pos (by decide +kernel)]; kernel_rfl) | (rw [if_neg (by decide +kernel)]; exact ⟨rfl, rfl⟩))
    (fun os started H enc _ => lifted os started H enc)
/-- The statement. -/
theorem proved : Rows.FnConflictsSaid := over
#print axioms proved
end Go.Proofs.Ytgchbimjgdoifaa.fnConflicts
