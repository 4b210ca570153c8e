/- slices.DeleteFunc at a list that holds a number once, and impl.without. Conditions: the ranges named. -/
import Derived.Test.YtbpikbcnpmplfaaLv2
import Derived.Test.YtbpikbcnpmplfaaSetc2
namespace Go.Proofs.Ytbpikbcnpmplfaa
open Go.RowKit
set_option linter.unusedVariables false
set_option linter.unusedSimpArgs false
theorem own_set {w : World} {base n oc g t : Nat} {T : TypeId} {xs : List Int} (h : w.ownsRow base T 1 (.slice (some ⟨g, 0, none⟩) n oc) n (IntK.row xs)) (x : Int) : (w.setCell ⟨g, t, none⟩ (.int .i64 x)).ownsRow base T 1 (.slice (some ⟨g, 0, none⟩) n oc) n (IntK.row (xs.set t x)) := by
  have h1 := (h.stored t (.int .i64 x)).1
  rw [intK_row] at h1 ⊢
  rw [List.map_set]
  exact h1
theorem own_pre {w : World} {base : Nat} {e : TypeId} {size n oc m : Nat} {O : Option Addr} {xs : List Value} (h : w.ownsRow base e size (.slice O n oc) n xs) (hm : m ≤ n) : w.ownsRow base e size (.slice O m oc) m (xs.take (m * size)) := by
  obtain ⟨hl, h | ⟨g, cap, cur, hv, hb, hg, hn, hc, hs, ht⟩⟩ := h
  · obtain ⟨h1, rfl⟩ := h
    obtain rfl : m = 0 := by omega
    simp only [Value.slice.injEq] at h1
    obtain ⟨rfl, _, rfl⟩ := h1
    exact ⟨by simp, .inl ⟨rfl, rfl⟩⟩
  · simp only [Value.slice.injEq, true_and] at hv
    obtain ⟨rfl, rfl⟩ := hv
    have hmm : m * size ≤ n * size := Nat.mul_le_mul_right _ hm
    exact ⟨by rw [List.length_take, hl]; omega, .inr ⟨g, oc, cur, rfl, hb, hg, by omega, hc, hs, by rw [← ht, List.take_take]; congr 1; omega⟩⟩
theorem zero_int (w : World) : (zeroValue 3).run Try.prog w = .ok (.int .i64 0) w := by kernel_rfl
set_option maxHeartbeats 2000000 in
theorem deleteOne_any (base g oc b k : Nat) (xs : List Int) (m : Int) (w : World) (own : w.ownsRow base 3 1 (.slice (some ⟨g, 0, none⟩) xs.length oc) xs.length (IntK.row xs)) (hm : xs.length ≤ 1000000) (hp : w.cell? ⟨b, 0, none⟩ = some (.int .i64 m)) (hbb : b < base) (hk : k < xs.length) (hone : ∀ i (hi : i < xs.length), k < i → xs[i] ≠ m) (hfirst : findI (fun x => x == m) 0 xs = (k : Int)) (hb0 : base ≤ w.heap.size) :
    Calls Try.prog 91 #[.slice (some ⟨g, 0, none⟩) xs.length oc, .func (.func 92) #[] #[.pointer (some ⟨b, 0, none⟩)]] w fun e w' => e = .returned (.slice (some ⟨g, 0, none⟩) (xs.length - 1) oc) ∧ w'.ownsRow base 3 1 (.slice (some ⟨g, 0, none⟩) (xs.length - 1) oc) (xs.length - 1) (IntK.row (cutAt k xs)) ∧ Below base w w' := by
  have HOWN := Lib.hid own
  have HONE := Lib.hid hone
  have HF := Lib.hid hfirst
  have hcap := own_cap own
  have k0 : ((k : Int) == -1) = false := by rw [beq_eq_false_iff_ne]; omega
  have k1 : ¬ (k : Int) = -1 := by omega
  clear own hone hfirst
  go_enter Try.func91, Try.ntmps91
  go_wp2_with (go_at_call 99; refine (indexN_any _ _ _ xs b m _ rfl (Cells.of_own HOWN.out) (by omega) hp).mono ?_; rintro e w1 ⟨rfl, rfl⟩; rw [HF.out])
  go_loopw [5, 6] (fun i j wr => ∃ t : Nat, k ≤ t ∧ t < xs.length ∧ i = .int .i64 t ∧ j = .int .i64 ((t : Int) + 1) ∧ Hid (wr.ownsRow base 3 1 (.slice (some ⟨g, 0, none⟩) xs.length oc) xs.length (IntK.row (delK k t xs))) ∧ Hid (Below base w wr)) (fun i _ _ => xs.length - (intOf i).toNat)
  case atStart => exact ⟨k, Nat.le_refl _, hk, rfl, by go_num, Lib.hid (by rw [delK_start hk]; exact HOWN.out), Lib.hid (Below.refl _ _)⟩
  case round =>
    obtain ⟨t, hkt, htl, rfl, rfl, HO, HB⟩ := hrel
    have hp1 := (HB.out.cell (p := ⟨b, 0, none⟩) hbb).trans hp
    have q1 : ((t : Int) + 1).toNat = t + 1 := by omega
    have q2 : (0 : Int) ≤ (t : Int) + 1 := by omega
    have q4 : (t : Int) < (xs.length : Int) := by omega
    by_cases hlt : t + 1 < xs.length
    · have q3 : (t : Int) + 1 < (xs.length : Int) := by omega
      obtain ⟨ad, had, hc⟩ := int_at (Cells.of_own HO.out) (i := t + 1) (by rw [delK_len hk htl]; exact hlt)
      obtain rfl : ad = ⟨g, 0, none⟩ := by simpa using had.symm
      rw [add_head, delK_get hk (by omega) htl hlt] at hc
      obtain ⟨u0, g0⟩ := own_cell HO.out (j := t) (by omega)
      have z0 := HO.out.frozenAt t
      have hne : (xs[t + 1] == m) = false := beq_eq_false_iff_ne.2 (HONE.out (t + 1) hlt (by omega))
      have HST := Lib.hid (delK_step (xs := xs) hkt hlt)
      obtain ⟨x, hx⟩ : ∃ x, Hid (xs[t + 1] = x) := ⟨_, Lib.hid rfl⟩
      rw [hx.out] at hc hne HST
      have HS := Lib.hid (own_set (t := t) HO.out x)
      rw [HST.out] at HS
      have HG := Lib.hid (HB.out.trans (below_of_grownBy (HO.out.stored t (.int .i64 x)).2 (Nat.le_trans hb0 HB.out.size) (fun g' hg => (HO.out.lt g' hg).1)))
      clear HO HB
      go_wp2_with (go_at_call 92; refine (isN_any x m b _ hp1).mono ?_; rintro e w1 ⟨rfl, rfl⟩; rw [hne])
      go_roundw
      case rel => exact ⟨t + 1, by omega, hlt, by go_num, by go_num, HS, HG⟩
      case measure => simp [intOf]; omega
    · have q3 : ¬ (t : Int) + 1 < (xs.length : Int) := by omega
      have h1 : xs.length - t = 1 := by omega
      have H2 := Lib.hid (show t = xs.length - 1 by omega)
      have h3 : ¬ oc = t := by omega
      have h4 : (t : Int) ≤ (xs.length : Int) := by omega
      have h5 : (xs.length : Int) ≤ (oc : Int) := by omega
      have h6 : (t : Int) ≤ (oc : Int) := by omega
      obtain ⟨u0, g0⟩ := own_cell HO.out (j := t) (by omega)
      have z0 := HO.out.frozenAt t
      have hcl : ∀ ty, (Builtin.clear_ #[22] ty #[.slice (some ⟨g, t, none⟩) 1 (oc - t)]).run Try.prog wr = .ok (.tuple #[]) (wr.setCells g t (List.replicate 1 (.int .i64 0))) :=
        fun ty => Lib.run_clear_slice wr _ _ ty _ Try.underlying22 zero_int rfl rfl g t 1 _ (by omega) (fun j hj => by obtain rfl : j = 0 := (by omega); rw [Nat.add_zero, g0]; rfl) (fun j hj => by obtain rfl : j = 0 := (by omega); exact z0)
      have HS := Lib.hid (own_set (t := t) HO.out 0)
      have HG := Lib.hid (HB.out.trans (below_of_grownBy (HO.out.stored t (.int .i64 0)).2 (Nat.le_trans hb0 HB.out.size) (fun g' hg => (HO.out.lt g' hg).1)))
      have HE := Lib.hid (delK_end hk)
      clear HB
      go_wp2
      have hsc : wr.setCells g t [.int .i64 0] = wr.setCell ⟨g, t, none⟩ (.int .i64 0) := rfl
      rw [hsc]
      go_ret
      refine ⟨by rw [← H2.out]; rfl, ?_, HG.out⟩
      have h7 := own_pre HS.out (m := xs.length - 1) (by omega)
      have h8 : (IntK.row ((delK k t xs).set t 0)).take ((xs.length - 1) * 1) = IntK.row (cutAt k xs) := by
        refine (IntK.row_take ((delK k t xs).set t 0) (xs.length - 1)).symm.trans ?_
        congr 1
        rw [← HE.out, H2.out]
        apply List.ext_getElem?
        intro i
        rw [List.getElem?_take, List.getElem?_take]
        split
        · rw [List.getElem?_set_ne (by omega)]
        · rfl
      rw [h8] at h7
      exact h7
theorem without_any (A : Option Addr) (c k : Nat) (xs : List Int) (m : Int) (w : World) (h : Cells w A (IntK.row xs)) (hm : xs.length ≤ 1000000) (hk : k < xs.length) (hone : ∀ i (hi : i < xs.length), k < i → xs[i] ≠ m) (hfirst : findI (fun x => x == m) 0 xs = (k : Int)) :
    Calls Try.prog 68 #[.slice A xs.length c, .int .i64 m] w (ToL IntK 3 w (cutAt k xs)) := by
  have H := Lib.hid h
  clear h
  go_enter Try.func68, Try.ntmps68
  go_wp2_with fail
  refine (copyInts_any A c xs _ (H.out.alloc_ _) (by omega)).mono ?_
  rintro e w1 ⟨O, oc, rfl, o, hb⟩
  have hp : w1.cell? ⟨w.heap.size, 0, none⟩ = some (.int .i64 m) := (hb.cell (p := ⟨w.heap.size, 0, none⟩) (by simp)).trans (World.cell?_alloc_new w #[.int .i64 m] 3 0)
  have own := o.1
  obtain ⟨g, cap, hv, hbg, hgl⟩ := own.form (by omega)
  obtain ⟨rfl, _, rfl⟩ : O = some ⟨g, 0, none⟩ ∧ xs.length = xs.length ∧ oc = cap := (by simpa using hv)
  have HO := Lib.hid (own_mono own (show w.heap.size + 1 ≤ _ by simp))
  have HB := Lib.hid ((below1 w (.cells #[.int .i64 m] 3)).trans (hb.mono (by simp)))
  have hsz : w.heap.size + 1 ≤ w1.heap.size := by have := hb.size; simpa using this
  clear hv own o hb
  go_wp2_with fail
  refine (deleteOne_any (w.heap.size + 1) g oc w.heap.size k xs m w1 HO.out hm hp (by omega) hk hone hfirst hsz).mono ?_
  rintro e w2 ⟨rfl, own, hb⟩
  have HO2 := Lib.hid own
  have HB2 := Lib.hid (HB.out.trans (hb.mono (by omega)))
  clear own hb
  go_wp2
  go_ret
  have hl := cutAt_len hk
  refine ⟨some ⟨g, 0, none⟩, oc, by rw [hl]; rfl, ?_, HB2.out⟩
  have h1 := own_mono HO2.out (show w.heap.size ≤ w.heap.size + 1 by omega)
  rw [← hl] at h1
  exact Ow.mk (K := IntK) h1 (by omega) (fun _ _ => trivial)
end Go.Proofs.Ytbpikbcnpmplfaa
