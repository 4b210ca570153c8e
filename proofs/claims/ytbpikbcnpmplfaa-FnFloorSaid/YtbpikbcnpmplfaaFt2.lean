/- The plain laws of the turns and of the floor. No program is named here. Conditions: none. -/
import Derived.Test.YtbpikbcnpmplfaaFa8
namespace Go.Proofs.Ytbpikbcnpmplfaa
open Go.RowKit
set_option linter.unusedVariables false
theorem turn_next {f : Flr} (h : VF f) (h0 : f.sp = 0) {i : Nat} {o : List Int} (ho : isortT (trn f) f.wt = o.drop i) (hi : i < o.length) :
    nxB f = true ∧ nxM f = o[i] ∧ yfB (nxF f) = true ∧ VF (yfF (nxF f)) ∧ (yfF (nxF f)).sp = 0 ∧ isortT (trn (yfF (nxF f))) (yfF (nxF f)).wt = o.drop (i + 1) := by
  have hlen : f.wt.length = o.length - i := by
    have := congrArg List.length ho
    rw [isortT_len, List.length_drop] at this
    exact this
  have hb : nxB f = true := by unfold nxB; rw [vf_iff.2 h]; simp [h0]; omega
  obtain ⟨k, hk, hfm, _, hkm, _, hxf, hxm, hhd⟩ := nx_yes hb
  obtain ⟨h1, h2⟩ := next_law h h0 hk
  obtain ⟨h3, h4⟩ := turn_law h h0 hfm
  have hx : nxF f = ⟨f.t, f.s, f.wt[k], cutAt k f.wt, f.sh⟩ := by rw [hxf, hkm]
  have hy : yfB (nxF f) = true := by unfold yfB; rw [hx, vf_iff.2 h1]; simp [h2]
  have hz : yfF (nxF f) = yieF ⟨f.t, f.s, f.wt[k], cutAt k f.wt, f.sh⟩ := by unfold yfF; rw [hy, hx]; rfl
  refine ⟨hb, ?_, hy, by rw [hz]; exact h3, by rw [hz]; rfl, ?_⟩
  · rw [hxm]
    rw [ho, List.getElem?_drop, Nat.add_zero, List.getElem?_eq_getElem hi] at hhd
    exact (Option.some.inj hhd).symm
  · rw [hz]
    refine h4.trans ?_
    rw [show isortT (fun m => (shOf m f.sh).t) f.wt = o.drop i from ho, List.tail_drop]
theorem turn_end {f : Flr} {i : Nat} {o : List Int} (ho : isortT (trn f) f.wt = o.drop i) (hi : o.length ≤ i) : f.wt.length = 0 := by
  have := congrArg List.length ho
  rw [isortT_len, List.length_drop] at this
  omega
theorem yf_law {f : Flr} (h : yfB f = true) : VF f ∧ VF (yfF f) ∧ sumT (yfF f).sh = sumT f.sh + 1 ∧ (yfF f).sp = 0 ∧ (yfF f).wt = f.wt := by
  have hz : yfF f = yieF f := by unfold yfF; rw [h]; rfl
  unfold yfB at h
  simp only [Bool.and_eq_true, Bool.not_eq_true', beq_eq_false_iff_ne] at h
  have hv := vf_iff.1 h.1
  obtain ⟨h1, h2, _⟩ := yie_law hv h.2
  rw [hz]
  exact ⟨hv, h1, h2, rfl, rfl⟩
theorem VF.sh99 {f : Flr} (h : VF f) : f.sh.length ≤ 99 := shsB_len (vldF_parts (vf_iff.2 h)).2.2.2.2.1
theorem sumT_snoc (l : List Shr) (x : Shr) : sumT (l ++ [x]) = sumT l + x.t := by
  induction l with
  | nil => simp [sumT]
  | cons y l ih => rw [List.cons_append, sumT, ih, sumT]; omega
theorem sumT_take {l : List Shr} {k : Nat} (h : k < l.length) : sumT (l.take (k + 1)) = sumT (l.take k) + l[k].t := by
  rw [List.take_succ_eq_append_getElem h, sumT_snoc]
theorem sumT_bd {f : Flr} (h : VF f) (k : Nat) : 0 ≤ sumT (f.sh.take k) ∧ sumT (f.sh.take k) ≤ 300 := by
  have hs := h.sh99
  have key : ∀ l : List Shr, (∀ x ∈ l, 0 ≤ x.t ∧ x.t ≤ 3) → 0 ≤ sumT l ∧ sumT l ≤ 3 * (l.length : Int) := by
    intro l
    induction l with
    | nil => intro _; simp [sumT]
    | cons y l ih =>
      intro hl
      have h1 := ih (fun x hx => hl x (List.mem_cons_of_mem _ hx))
      have h2 := hl y (by simp)
      rw [sumT, List.length_cons]
      omega
  have h1 := key (f.sh.take k) (fun x hx => by
    have h2 := h.sh x (List.mem_of_mem_take hx)
    have h3 := inB_iff.1 h2.2.1
    have := h.t3
    omega)
  have h4 : (f.sh.take k).length ≤ f.sh.length := by rw [List.length_take]; omega
  omega
theorem isortT_mem {t : Int → Int} {xs : List Int} {a : Int} : a ∈ isortT t xs ↔ a ∈ xs := by
  unfold isortT; rw [foldT_mem]; simp
theorem has_iff {m : Int} {xs : List Int} : hasB m xs = true ↔ m ∈ xs := by unfold hasB; exact List.contains_iff_mem
theorem as_law {f : Flr} {m : Int} (h : asB f m = true) : vldF (asF f m) = true ∧ hasB m (soL (asF f m)) = true ∧ lvB (asF f m) m = true ∧ lvF (asF f m) m = f ∧ asB (asF f m) m = false ∧ (asF f m).wt.length ≤ 10 ∧ (asF f m).sh.length ≤ 99 := by
  have hg : asF f m = ⟨f.t, f.s, f.sp, f.wt ++ [m], f.sh⟩ := by unfold asF; rw [h]; rfl
  unfold asB at h
  simp only [Bool.and_eq_true, Bool.not_eq_true', beq_eq_false_iff_ne] at h
  obtain ⟨⟨⟨⟨⟨h1, h2⟩, h3⟩, h4⟩, h5⟩, h6⟩ := h
  have hv := vf_iff.1 h1
  have hn : m ∉ f.wt := fun e => by rw [has_iff.2 e] at h4; cases h4
  have hf := hv.few
  have hw := ask_law hv h2 h3 hn h5 (by omega)
  have hg2 := vf_iff.2 hw
  have hm : hasB m (f.wt ++ [m]) = true := has_iff.2 (by simp)
  rw [hg]
  have hl : lvB ⟨f.t, f.s, f.sp, f.wt ++ [m], f.sh⟩ m = true := by unfold lvB; rw [hg2]; exact hm
  refine ⟨hg2, ?_, hl, ?_, ?_, by simp; omega, hv.sh99⟩
  · rw [soL_yes hg2]; exact has_iff.2 (isortT_mem.2 (by simp))
  · obtain ⟨k, hk, hfi, hkm, hone, _, hx⟩ := lv_yes hl
    have hk1 : k < f.wt.length + 1 := by simpa using hk
    have hkk : k = f.wt.length := by
      rcases Nat.lt_or_ge k f.wt.length with h7 | h7
      · exfalso
        exact hone f.wt.length (by simp) h7 (by simp)
      · omega
    rw [hx, hkk]
    show (⟨f.t, f.s, f.sp, cutAt f.wt.length (f.wt ++ [m]), f.sh⟩ : Flr) = f
    rw [cutAt_last]
  · unfold asB
    show (_ && _ && _ && !hasB m (f.wt ++ [m]) && _ && _) = false
    rw [hm]; simp
theorem sf_law {f : Flr} {k : Int} (h : sfB f k = true) : slS f f.sp = true ∧ slS (sfF f k) f.sp = true ∧ slI f f.sp - slI (sfF f k) f.sp = sfN f k ∧ sfN f k ≤ k ∧ 0 ≤ slI (sfF f k) f.sp ∧ (slI (sfF f k) f.sp = 0 ↔ (sfF f k).sp = 0) ∧ vldF (sfF f k) = true ∧ 0 ≤ slI f f.sp ∧ slI f f.sp ≤ 3600 ∧ slI (sfF f k) f.sp ≤ 3600 ∧ (sfF f k).wt.length ≤ 10 ∧ (sfF f k).sh.length ≤ 99 := by
  have hb := h
  have hN : sfN f k = spkN f k := by unfold sfN; rw [hb]; rfl
  have hF : sfF f k = (if (shOf f.sp f.sh).s + spkN f k = f.s then yieF (spkG f k) else spkG f k) := by unfold sfF; rw [hb]; rfl
  unfold sfB at h
  simp only [Bool.and_eq_true, Bool.not_eq_true', beq_eq_false_iff_ne] at h
  obtain ⟨⟨h1, h2⟩, h3⟩ := h
  have hv := vf_iff.1 h1
  have hk := inB_iff.1 h3
  obtain ⟨g1, g2, g3, g4, g5⟩ := spk_law hv h2 hk.1
  obtain ⟨e1, e2, e3, e4, e5, e6⟩ := hv.spk h2
  have s1 : slS f f.sp = true := by unfold slS; rw [h1, e1]; rfl
  have i1 : slI f f.sp = f.s - (shOf f.sp f.sh).s := by unfold slI; rw [s1]; rfl
  have hs3 := hv.s3
  by_cases hc : (shOf f.sp f.sh).s + spkN f k = f.s
  · rw [if_pos hc] at hF
    obtain ⟨y1, _, _⟩ := yie_law g1 (show (spkG f k).sp ≠ 0 from h2)
    have hsh : shOf f.sp (yieF (spkG f k)).sh = ⟨f.sp, (shOf f.sp f.sh).t + 1, f.s⟩ := by
      show shOf f.sp (putS ⟨(shOf f.sp (spkG f k).sh).m, (shOf f.sp (spkG f k).sh).t + 1, (shOf f.sp (spkG f k).sh).s⟩ (spkG f k).sh) = _
      rw [g4, shOf_put, if_pos rfl, ← hc]
    have s2 : slS (sfF f k) f.sp = true := by unfold slS; rw [hF, vf_iff.2 y1, e1]; rfl
    have i2 : slI (sfF f k) f.sp = 0 := by
      unfold slI; rw [s2, hF, if_pos rfl, hsh]
      show f.s - f.s = 0; omega
    have hsp : (sfF f k).sp = 0 := by rw [hF]; rfl
    refine ⟨s1, s2, by rw [i1, i2, hN]; omega, by rw [hN]; exact g3, by rw [i2]; omega, by rw [i2, hsp], by rw [hF]; exact vf_iff.2 y1, by rw [i1]; omega, by rw [i1]; omega, by rw [i2]; omega, by rw [hF]; exact y1.few, by rw [hF]; exact y1.sh99⟩
  · rw [if_neg hc] at hF
    have s2 : slS (sfF f k) f.sp = true := by unfold slS; rw [hF, vf_iff.2 g1, e1]; rfl
    have i2 : slI (sfF f k) f.sp = f.s - ((shOf f.sp f.sh).s + spkN f k) := by
      unfold slI; rw [s2, hF, if_pos rfl, g4]; rfl
    have hsp : (sfF f k).sp = f.sp := by rw [hF]; rfl
    refine ⟨s1, s2, by rw [i1, i2, hN]; omega, by rw [hN]; exact g3, by rw [i2]; omega, by rw [i2, hsp]; constructor <;> intro e <;> omega, by rw [hF]; exact vf_iff.2 g1, by rw [i1]; omega, by rw [i1]; omega, by rw [i2]; omega, by rw [hF]; exact g1.few, by rw [hF]; exact g1.sh99⟩
theorem nx_head {f : Flr} (h : nxB f = true) : vldF f = true ∧ (soL f)[0]? = some (nxM f) := by
  obtain ⟨k, hk, hfm, _, hkm, _, hxf, hxm, hhd⟩ := nx_yes h
  unfold nxB at h
  simp only [Bool.and_eq_true] at h
  exact ⟨h.1.1, by rw [soL_yes h.1.1, hxm]; exact hhd⟩
end Go.Proofs.Ytbpikbcnpmplfaa
