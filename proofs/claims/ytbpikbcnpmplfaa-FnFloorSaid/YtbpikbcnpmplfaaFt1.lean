/- The plain law of the turns: what a valid floor is, what stays when a share is set. No program is named here. Conditions: none. -/
import Derived.Test.YtbpikbcnpmplfaaSs1
import Derived.Test.YtbpikbcnpmplfaaSo1
namespace Go.Proofs.Ytbpikbcnpmplfaa
open Go.RowKit
set_option linter.unusedVariables false
/-- The shares are in the order of their members. -/
def SrtS (l : List Shr) : Prop := l.Pairwise (fun x y => x.m < y.m)
theorem putS_nil (x : Shr) : putS x [] = [x] := rfl
theorem putS_cons (x y : Shr) (l : List Shr) : putS x (y :: l) = if y.m < x.m then y :: putS x l else if y.m = x.m then x :: l else x :: y :: l := by
  by_cases h : y.m < x.m
  · have hc : cntS x.m (y :: l) = cntS x.m l + 1 := by rw [cntS, if_pos h]
    have hh : hitS x (y :: l) = hitS x l := by unfold hitS; rw [hc]; simp
    rw [if_pos h]
    unfold putS
    rw [hh, hc]
    cases hitS x l <;> simp
  · have hc : cntS x.m (y :: l) = 0 := by rw [cntS, if_neg h]
    rw [if_neg h]
    by_cases he : y.m = x.m
    · have hh : hitS x (y :: l) = true := by unfold hitS; rw [hc]; simp [he]
      rw [if_pos he]; unfold putS; rw [hh, hc]; simp
    · have hh : hitS x (y :: l) = false := by unfold hitS; rw [hc]; simp [he]
      rw [if_neg he]; unfold putS; rw [hh, hc]; simp
theorem shOf_m (m : Int) (l : List Shr) : (shOf m l).m = m := by
  rcases shOf_mem m l with h | ⟨_, h⟩
  · rw [h]
  · exact h
theorem shOf_none {m : Int} {l : List Shr} (h : ∀ y ∈ l, y.m ≠ m) : shOf m l = ⟨m, 0, 0⟩ := by
  rcases shOf_mem m l with h1 | ⟨h1, h2⟩
  · exact h1
  · exact absurd h2 (h _ h1)
theorem shOf_put (m : Int) (x : Shr) (l : List Shr) : shOf m (putS x l) = if x.m = m then x else shOf m l := by
  induction l with
  | nil => rw [putS_nil]; rfl
  | cons y l ih =>
    rw [putS_cons]
    by_cases h : y.m < x.m
    · rw [if_pos h, shOf, ih]
      by_cases hm : x.m = m
      · rw [if_pos hm, if_pos hm, if_neg (by omega)]
      · rw [if_neg hm, if_neg hm]; rfl
    · rw [if_neg h]
      by_cases he : y.m = x.m
      · rw [if_pos he, shOf]
        by_cases hm : x.m = m
        · rw [if_pos hm, if_pos hm]
        · rw [if_neg hm, if_neg hm, shOf, if_neg (by omega)]
      · rw [if_neg he, shOf]
theorem putS_srt {x : Shr} {l : List Shr} (h : SrtS l) : SrtS (putS x l) := by
  induction l with
  | nil => rw [putS_nil]; exact List.pairwise_singleton _ _
  | cons y l ih =>
    obtain ⟨h1, h2⟩ := List.pairwise_cons.1 h
    rw [putS_cons]
    by_cases hl : y.m < x.m
    · rw [if_pos hl]
      refine List.pairwise_cons.2 ⟨fun z hz => ?_, ih h2⟩
      rcases putS_mem hz with e | e
      · rw [e]; exact hl
      · exact h1 z e
    · rw [if_neg hl]
      by_cases he : y.m = x.m
      · rw [if_pos he]; exact List.pairwise_cons.2 ⟨fun z hz => by have := h1 z hz; omega, h2⟩
      · rw [if_neg he]
        refine List.pairwise_cons.2 ⟨fun z hz => ?_, h⟩
        rcases List.mem_cons.1 hz with e | e
        · rw [e]; omega
        · have := h1 z e; omega
def sumT : List Shr → Int
  | [] => 0
  | y :: l => y.t + sumT l
theorem sumT_put {x : Shr} {l : List Shr} (h : SrtS l) : sumT (putS x l) = sumT l - (shOf x.m l).t + x.t := by
  induction l with
  | nil => rw [putS_nil]; simp [sumT, shOf]
  | cons y l ih =>
    obtain ⟨h1, h2⟩ := List.pairwise_cons.1 h
    rw [putS_cons]
    by_cases hl : y.m < x.m
    · rw [if_pos hl, sumT, ih h2, shOf, if_neg (by omega), sumT]; omega
    · rw [if_neg hl]
      by_cases he : y.m = x.m
      · rw [if_pos he, shOf, if_pos he, sumT, sumT]; omega
      · rw [if_neg he, shOf_none (l := y :: l), sumT]
        · simp; omega
        · intro z hz
          rcases List.mem_cons.1 hz with e | e
          · rw [e]; exact he
          · have := h1 z e; omega
theorem adj_srt {l : List Shr} (h : ∀ i (hi : i + 1 < l.length), l[i].m < l[i + 1].m) : SrtS l := by
  refine List.pairwise_iff_getElem.2 fun i j hi hj hij => ?_
  induction j with
  | zero => omega
  | succ j ih =>
    have h1 := h j hj
    rcases Nat.lt_or_ge i j with h2 | h2
    · have := ih (by omega) h2; omega
    · obtain rfl : i = j := by omega
      exact h1
theorem shsB_iff {f : Flr} : shsB f = true ↔ (∀ x ∈ f.sh, memB x.m = true ∧ inB x.t 0 f.t = true ∧ inB x.s 0 f.s = true) ∧ SrtS f.sh := by
  constructor
  · intro h
    refine ⟨fun x hx => ?_, adj_srt fun i hi => ?_⟩
    · have h1 := shsB_at h hx
      exact ⟨h1.1, inB_iff.2 ⟨h1.2.1, h1.2.2.1⟩, inB_iff.2 h1.2.2.2⟩
    · have h1 := allN_yes.1 h (i + 1) hi
      rw [okSh_eq hi, Bool.and_eq_true] at h1
      simpa using h1.2
  · rintro ⟨h1, h2⟩
    refine allN_yes.2 fun i hi => ?_
    have h3 := h1 _ (List.getElem_mem hi)
    rw [okSh_eq hi, h3.1, h3.2.1, h3.2.2]
    rcases Nat.eq_zero_or_pos i with h0 | h0
    · subst h0; rfl
    · have h4 := List.pairwise_iff_getElem.1 h2 (i - 1) i (by omega) hi (by omega)
      simp [h4]
theorem wtsB_iff {f : Flr} : wtsB f = true ↔ f.wt.Nodup ∧ ∀ m ∈ f.wt, memB m = true ∧ m ≠ f.sp ∧ entB f m = true := by
  constructor
  · intro h
    refine ⟨List.pairwise_iff_getElem.2 fun i j hi hj hij e => ?_, fun m hm => ?_⟩
    · have h1 := allN_yes.1 h j hj
      rw [okWt_eq hj] at h1
      simp only [Bool.and_eq_true, Bool.not_eq_true'] at h1
      have h2 := h1.1.2
      unfold hasB at h2
      have : f.wt[j] ∈ f.wt.take j := by rw [← e, List.mem_take_iff_getElem]; exact ⟨i, by omega, rfl⟩
      rw [List.contains_iff_mem.2 this] at h2
      cases h2
    · obtain ⟨i, hi, rfl⟩ := List.getElem_of_mem hm
      have h1 := allN_yes.1 h i hi
      rw [okWt_eq hi] at h1
      simp only [Bool.and_eq_true, Bool.not_eq_true'] at h1
      exact ⟨h1.1.1.1, by have := h1.1.1.2; simpa using this, h1.2⟩
  · rintro ⟨h1, h2⟩
    refine allN_yes.2 fun i hi => ?_
    have h3 := h2 _ (List.getElem_mem hi)
    have h4 : hasB f.wt[i] (f.wt.take i) = false := by
      unfold hasB
      rw [← Bool.not_eq_true, List.contains_iff_mem, List.mem_take_iff_getElem]
      rintro ⟨j, hj, e⟩
      exact List.pairwise_iff_getElem.1 h1 j i (by omega) hi (by omega) e
    rw [okWt_eq hi, h3.1, h4, h3.2.2]
    simp [h3.2.1]
/-- A valid floor, in words of members. -/
structure VF (f : Flr) : Prop where
  t1 : 1 ≤ f.t
  t3 : f.t ≤ 3
  s1 : 1 ≤ f.s
  s3 : f.s ≤ 3600
  sp : f.sp = 0 ∨ (memB f.sp = true ∧ (shOf f.sp f.sh).t < f.t)
  few : f.wt.length ≤ 10
  sh : ∀ x ∈ f.sh, memB x.m = true ∧ inB x.t 0 f.t = true ∧ inB x.s 0 f.s = true
  srt : SrtS f.sh
  nd : f.wt.Nodup
  wt : ∀ m ∈ f.wt, memB m = true ∧ m ≠ f.sp ∧ entB f m = true
theorem vf_iff {f : Flr} : vldF f = true ↔ VF f := by
  constructor
  · intro h
    obtain ⟨h1, h2, h3, h4, h5, h6, h7⟩ := vldF_parts h
    have h1 := inB_iff.1 h1
    have h2 := inB_iff.1 h2
    have h5 := shsB_iff.1 h5
    have h6 := wtsB_iff.1 h6
    refine ⟨h1.1, h1.2, h2.1, h2.2, ?_, h4, h5.1, h5.2, h6.1, h6.2⟩
    by_cases h0 : f.sp = 0
    · exact .inl h0
    · have e : (f.sp == 0) = false := by simp [h0]
      rw [e, Bool.false_or] at h3 h7
      exact .inr ⟨h3, of_decide_eq_true h7⟩
  · intro h
    unfold vldF
    rw [inB_iff.2 ⟨h.t1, h.t3⟩, inB_iff.2 ⟨h.s1, h.s3⟩, shsB_iff.2 ⟨h.sh, h.srt⟩, wtsB_iff.2 ⟨h.nd, h.wt⟩, decide_eq_true h.few]
    rcases h.sp with e | ⟨e1, e2⟩
    · simp [e]
    · simp [e1, e2]
theorem mem_ne0 {m : Int} (h : memB m = true) : m ≠ 0 := by
  have := inB_iff.1 h; omega
/-- A share set. -/
theorem VF.put {f : Flr} (h : VF f) (x : Shr) (hm : memB x.m = true) (ht : inB x.t 0 f.t = true) (hs : inB x.s 0 f.s = true) (hw : ∀ m ∈ f.wt, m ≠ x.m) (sp : Int) (h1 : sp = 0 ∨ (memB sp = true ∧ (shOf sp (putS x f.sh)).t < f.t)) (h2 : ∀ m ∈ f.wt, m ≠ sp) : VF ⟨f.t, f.s, sp, f.wt, putS x f.sh⟩ := by
  refine ⟨h.t1, h.t3, h.s1, h.s3, h1, h.few, fun y hy => ?_, putS_srt h.srt, h.nd, fun m hm' => ⟨(h.wt m hm').1, h2 m hm', ?_⟩⟩
  · rcases putS_mem hy with e | e
    · rw [e]; exact ⟨hm, ht, hs⟩
    · exact h.sh y e
  · have h3 := (h.wt m hm').2.2
    unfold entB at h3 ⊢
    simp only [shOf_put]
    rw [if_neg (fun e => hw m hm' e.symm)]
    exact h3
/-- The one who speaks. -/
theorem VF.spk {f : Flr} (h : VF f) (h0 : f.sp ≠ 0) : memB f.sp = true ∧ (shOf f.sp f.sh).t < f.t ∧ (shOf f.sp f.sh).m = f.sp ∧ 0 ≤ (shOf f.sp f.sh).t ∧ 0 ≤ (shOf f.sp f.sh).s ∧ (shOf f.sp f.sh).s ≤ f.s := by
  rcases h.sp with e | ⟨e1, e2⟩
  · exact absurd e h0
  · have h3 := shOf_bd (vf_iff.2 h) f.sp
    exact ⟨e1, e2, shOf_m _ _, h3.1, h3.2.2.1, h3.2.2.2.1⟩
theorem yie_law {f : Flr} (h : VF f) (h0 : f.sp ≠ 0) : VF (yieF f) ∧ sumT (yieF f).sh = sumT f.sh + 1 ∧ (∀ m, m ≠ f.sp → shOf m (yieF f).sh = shOf m f.sh) := by
  obtain ⟨h1, h2, h3, h4, h5, h6⟩ := h.spk h0
  refine ⟨?_, ?_, fun m hm => ?_⟩
  · refine h.put ⟨(shOf f.sp f.sh).m, (shOf f.sp f.sh).t + 1, (shOf f.sp f.sh).s⟩ (by simp only [h3]; exact h1) (inB_iff.2 ⟨by (try simp only []); omega, by (try simp only []); omega⟩) (inB_iff.2 ⟨h5, h6⟩) (fun m hm => by simp only [h3]; exact (h.wt m hm).2.1) 0 (.inl rfl) (fun m hm => mem_ne0 (h.wt m hm).1)
  · show sumT (putS _ f.sh) = _
    rw [sumT_put h.srt]
    simp only [h3]; omega
  · show shOf m (putS _ f.sh) = _
    rw [shOf_put, if_neg (by simp only [h3]; exact fun e => hm e.symm)]
theorem spk_law {f : Flr} (h : VF f) (h0 : f.sp ≠ 0) {k : Int} (hk : 1 ≤ k) : VF (spkG f k) ∧ 0 ≤ spkN f k ∧ spkN f k ≤ k ∧ shOf f.sp (spkG f k).sh = ⟨f.sp, (shOf f.sp f.sh).t, (shOf f.sp f.sh).s + spkN f k⟩ ∧ (shOf f.sp f.sh).s + spkN f k ≤ f.s := by
  obtain ⟨h1, h2, h3, h4, h5, h6⟩ := h.spk h0
  have hn : 0 ≤ spkN f k ∧ spkN f k ≤ k ∧ (shOf f.sp f.sh).s + spkN f k ≤ f.s := by unfold spkN; split <;> omega
  have he : shOf f.sp (spkG f k).sh = ⟨f.sp, (shOf f.sp f.sh).t, (shOf f.sp f.sh).s + spkN f k⟩ := by
    show shOf f.sp (putS _ f.sh) = _
    rw [shOf_put, if_pos (by simp only [h3]), h3]
  refine ⟨?_, hn.1, hn.2.1, he, hn.2.2⟩
  refine h.put ⟨(shOf f.sp f.sh).m, (shOf f.sp f.sh).t, (shOf f.sp f.sh).s + spkN f k⟩ (by simp only [h3]; exact h1) (inB_iff.2 ⟨h4, by (try simp only []); omega⟩) (inB_iff.2 ⟨by (try simp only []); omega, hn.2.2⟩) (fun m hm => by simp only [h3]; exact (h.wt m hm).2.1) f.sp (.inr ⟨h1, ?_⟩) (fun m hm => (h.wt m hm).2.1)
  have : (shOf f.sp (putS ⟨(shOf f.sp f.sh).m, (shOf f.sp f.sh).t, (shOf f.sp f.sh).s + spkN f k⟩ f.sh)) = _ := he
  rw [this]; exact h2
theorem cutAt_mem {k : Nat} {xs : List Int} {y : Int} (h : y ∈ cutAt k xs) : y ∈ xs := by
  unfold cutAt at h
  rcases List.mem_append.1 h with h | h
  · exact List.mem_of_mem_take h
  · exact List.mem_of_mem_drop h
theorem cutAt_nd {k : Nat} {xs : List Int} (h : xs.Nodup) (hk : k < xs.length) : (cutAt k xs).Nodup ∧ ∀ y ∈ cutAt k xs, y ≠ xs[k] := by
  have e : xs = xs.take k ++ xs[k] :: xs.drop (k + 1) := by rw [← List.drop_eq_getElem_cons hk, List.take_append_drop]
  have h2 : (xs.take k ++ xs[k] :: xs.drop (k + 1)).Nodup := by rw [← e]; exact h
  obtain ⟨a, b, c⟩ := List.nodup_append.1 h2
  obtain ⟨b1, b2⟩ := List.nodup_cons.1 b
  refine ⟨List.nodup_append.2 ⟨a, b2, fun x hx y hy => c x hx y (List.mem_cons_of_mem _ hy)⟩, fun y hy e2 => ?_⟩
  unfold cutAt at hy
  rcases List.mem_append.1 hy with hy | hy
  · exact c y hy _ (List.mem_cons_self) e2
  · exact b1 (e2 ▸ hy)
theorem cutAt_len1 {k : Nat} {xs : List Int} (hk : k < xs.length) : (cutAt k xs).length + 1 = xs.length := by unfold cutAt; simp; omega
/-- The next speaker. -/
theorem next_law {f : Flr} (h : VF f) (h0 : f.sp = 0) {k : Nat} (hk : k < f.wt.length) : VF ⟨f.t, f.s, f.wt[k], cutAt k f.wt, f.sh⟩ ∧ f.wt[k] ≠ 0 := by
  obtain ⟨h1, _, h3⟩ := h.wt _ (List.getElem_mem hk)
  obtain ⟨n1, n2⟩ := cutAt_nd h.nd hk
  have h4 : (shOf f.wt[k] f.sh).t < f.t := by unfold entB at h3; simp only [Bool.and_eq_true, decide_eq_true_eq] at h3; exact h3.1
  refine ⟨⟨h.t1, h.t3, h.s1, h.s3, .inr ⟨h1, h4⟩, by have := cutAt_len1 hk; have := h.few; simp only []; omega, h.sh, h.srt, n1, fun m hm => ?_⟩, mem_ne0 h1⟩
  have h5 := h.wt m (cutAt_mem hm)
  exact ⟨h5.1, n2 m hm, h5.2.2⟩
theorem insT_congr {t t' : Int → Int} {x : Int} : ∀ {l : List Int}, t x = t' x → (∀ a ∈ l, t a = t' a) → insT t x l = insT t' x l
  | [], _, _ => rfl
  | y :: l, hx, h => by
    rw [insT, insT, hx, h y (by simp), insT_congr hx (fun a ha => h a (List.mem_cons_of_mem _ ha))]
theorem foldT_congr {t t' : Int → Int} : ∀ {xs acc : List Int}, (∀ a ∈ xs, t a = t' a) → (∀ a ∈ acc, t a = t' a) → xs.foldl (fun l x => insT t x l) acc = xs.foldl (fun l x => insT t' x l) acc
  | [], _, _, _ => rfl
  | x :: xs, acc, h1, h2 => by
    rw [List.foldl_cons, List.foldl_cons, insT_congr (h1 x (by simp)) h2]
    refine foldT_congr (fun a ha => h1 a (List.mem_cons_of_mem _ ha)) (fun a ha => ?_)
    rcases insT_mem.1 ha with e | e
    · rw [e]; exact h1 x (by simp)
    · exact h2 a e
theorem isortT_congr {t t' : Int → Int} {xs : List Int} (h : ∀ a ∈ xs, t a = t' a) : isortT t xs = isortT t' xs := foldT_congr h (by simp)
/-- One turn: the next speaker, then the end of the turn. -/
theorem turn_law {f : Flr} (h : VF f) (h0 : f.sp = 0) {k : Nat} (hm : FirstMin (fun m => (shOf m f.sh).t) f.wt k) :
    VF (yieF ⟨f.t, f.s, f.wt[k]'hm.1, cutAt k f.wt, f.sh⟩) ∧ isortT (fun m => (shOf m (yieF ⟨f.t, f.s, f.wt[k]'hm.1, cutAt k f.wt, f.sh⟩).sh).t) (cutAt k f.wt) = (isortT (fun m => (shOf m f.sh).t) f.wt).tail := by
  obtain ⟨h1, h2⟩ := next_law h h0 hm.1
  obtain ⟨h3, _, h4⟩ := yie_law h1 h2
  refine ⟨h3, ?_⟩
  rw [isortT_cut hm, List.tail_cons]
  refine isortT_congr fun a ha => ?_
  rw [h4 a ((cutAt_nd h.nd hm.1).2 a ha)]
/-- One who asks. -/
theorem ask_law {f : Flr} (h : VF f) {m : Int} (hm : memB m = true) (h1 : m ≠ f.sp) (h2 : m ∉ f.wt) (h3 : entB f m = true) (h4 : f.wt.length < 10) : VF ⟨f.t, f.s, f.sp, f.wt ++ [m], f.sh⟩ := by
  refine ⟨h.t1, h.t3, h.s1, h.s3, h.sp, by simp; omega, h.sh, h.srt, ?_, fun x hx => ?_⟩
  · refine List.nodup_append.2 ⟨h.nd, by simp, fun x hx y hy => ?_⟩
    simp at hy; subst hy
    exact fun e => h2 (e ▸ hx)
  · rcases List.mem_append.1 hx with hx | hx
    · exact h.wt x hx
    · simp at hx; subst hx
      exact ⟨hm, h1, h3⟩
theorem cutAt_last (xs : List Int) (m : Int) : cutAt xs.length (xs ++ [m]) = xs := by unfold cutAt; simp
end Go.Proofs.Ytbpikbcnpmplfaa
