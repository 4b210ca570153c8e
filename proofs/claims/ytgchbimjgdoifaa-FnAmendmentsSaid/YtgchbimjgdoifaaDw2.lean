/- The draws of texts. Conditions: the ranges named. -/
import Derived.Test.YtgchbimjgdoifaaDw1
namespace Go.Proofs.Ytgchbimjgdoifaa
open Go.RowKit
set_option linter.unusedVariables false
set_option linter.unusedSimpArgs false
def wdOdd : List ByteArray := [⟨#[]⟩, ⟨#[65]⟩, ⟨#[97, 98, 99, 100, 101, 102, 103, 104, 105, 106]⟩, ⟨#[97, 98, 99, 100, 101, 102, 103, 104, 105, 106, 107]⟩]
theorem wdOdd_short : ∀ s ∈ wdOdd, s.size ≤ 11 := by
  intro s hs
  simp only [wdOdd, List.mem_cons, List.not_mem_nil, or_false] at hs
  rcases hs with rfl | rfl | rfl | rfl <;> decide
def wdW : ByteArray := ⟨#[119]⟩
set_option maxHeartbeats 2000000 in
theorem text_any (b : Nat) (A : Option Addr) (n c m : Nat) (w : World) (h : Cur w b A n c m) (hm : m ≤ 800000) :
    Calls Try.prog 84 #[.pointer (some ⟨b, 0, none⟩)] w fun e w' => ∃ (O : Option Addr) (d : Nat) (ss : List ByteArray), e = .returned (.slice O ss.length d) ∧ ss.length ≤ 40 ∧ Short ss ∧ w'.ownsRow w.heap.size 9 1 (.slice O ss.length d) ss.length (strs ss) ∧ Cur w' b A n c (m + 60) ∧ Only b (b + 1) w w' := by
  have HB0 := Lib.hid h.bytes
  have hlt := h.lt
  go_enter Try.func84, Try.ntmps84
  go_wp2_with fail
  refine (words_any 10 (by omega) (by omega) b A n c m w h (by omega)).mono ?_
  rintro e w1 ⟨O, d, ss, rfl, hl, hs, own, hc, ho⟩
  have HS := Lib.hid hs
  have HO := Lib.hid own
  have HC := Lib.hid hc
  have HN := Lib.hid ho
  clear h hs own hc ho
  go_wp2_with fail
  refine (pick_any 24 (by omega) (by omega) b A n c _ w1 HC.out (by omega)).mono ?_
  rintro e w2 ⟨⟨x, rfl, hx⟩, hc, ho⟩
  have HO := Lib.hid (own_off HO.out ho (by omega))
  have HN := Lib.hid (HN.out.trans ho)
  have HC := Lib.hid hc
  have hz2 := HN.out.size
  clear hc ho
  by_cases h0 : x = 0
  · subst h0
    have e0 : (((0 : Nat) : Int) == 0) = true := by decide
    have hb4 := below1 w2 (.cells (strs wdOdd).toArray 9)
    have HL4 := Lib.hid (cells_arr w2 (strs wdOdd).toArray 9 w2.heap.size rfl)
    have HC4 := Lib.hid (HC.out.below hb4)
    have HO4 := Lib.hid (own_keep HO.out hb4)
    have HN4 := Lib.hid (HN.out.trans (Only.of_below hb4))
    have hne : w2.heap.size ≠ b := by omega
    clear HO HC HN hb4
    go_wp2_with fail
    refine (of_any wdOdd (some ⟨w2.heap.size, 0, none⟩) 4 (by decide) (by decide) b A n c _ (w2.alloc (.cells (strs wdOdd).toArray 9)) HC4.out (by omega) HL4.out (fun a ha => by obtain rfl := Option.some.inj ha; exact hne)).mono ?_
    rintro e w3 ⟨⟨s, rfl, hs⟩, hc, ho⟩
    have HSS := Lib.hid (wdOdd_short s hs)
    have HC3 := Lib.hid hc
    have HO3 := Lib.hid (own_off HO4.out ho (by omega))
    have HN3 := Lib.hid (HN4.out.trans ho)
    have hz3 := HN3.out.size
    clear hc ho hs HC4 HO4 HN4
    go_wp2_with (at_builtin; go_must (refine list_append_gr elStr _ rfl _ _ rfl w.heap.size O _ d ss.length 1 1 (strs ss) (strs [s]) rfl rfl rfl (own_alloc HO3.out _) (cells_arr _ #[.string s] _ _ rfl) strs_one (by simp; omega) (by omega) ?_); intro O5 d5 w5 own hb hg; have HO5 := Lib.hid own; have HB5 := Lib.hid (((below1 w3 (.cells #[.string s] 9)).mono hz3).trans hb); clear own hb hg)
    go_ret
    exact ⟨O5, d5, ss ++ [s], by first | rfl | (simp; done), by simp; omega, HS.out.snoc HSS.out, by rw [List.length_append, List.length_singleton, strs_append]; exact HO5.out, (HC3.out.belowB HB0.out HB5.out (Nat.le_refl _) hlt).mono (by omega), HN3.out.of_belowB HB5.out (Nat.le_refl _)⟩
  · have e0 : ((x : Int) == 0) = false := by simp; omega
    by_cases h1 : x = 1
    · subst h1
      have e1 : (((1 : Nat) : Int) == 1) = true := by decide
      clear h0
      go_wp2_with fail
      go_loopw [3, 4] (fun u i wr => ∃ (j : Nat) (ss : List ByteArray) (O : Option Addr) (oc : Nat), i = .int .i64 j ∧ u = .slice O ss.length oc ∧ ss.length ≤ 10 + j ∧ j ≤ 22 ∧ Hid (Short ss) ∧ Hid (wr.ownsRow w.heap.size 9 1 (.slice O ss.length oc) ss.length (strs ss)) ∧ Hid (Cur wr b A n c (m + 12 + j)) ∧ Hid (Only b (b + 1) w wr)) (fun _ i _ => 22 - (intOf i).toNat)
      case atStart => exact ⟨0, ss, _, _, rfl, rfl, by omega, by omega, HS, HO, Lib.hid (HC.out.mono (by omega)), HN⟩
      case round =>
        clear HO HC HN HS hl
        obtain ⟨wq, hwq⟩ : ∃ x : World, x = wr := ⟨_, rfl⟩
        subst hwq
        obtain ⟨j, ss, O, oc, rfl, rfl, hjk, hj22, HS, HO, HC, HN⟩ := hrel
        have hwz := HN.out.size
        go_wp2_with fail
        refine (pick_any 2 (by omega) (by omega) b A n c _ wq HC.out (by omega)).mono ?_
        rintro e w3 ⟨⟨y, rfl, hy⟩, hc, ho⟩
        have HO3 := Lib.hid (own_off HO.out ho (by omega))
        have HN3 := Lib.hid (HN.out.trans ho)
        have HC3 := Lib.hid hc
        have hz3 := HN3.out.size
        clear hc ho HO HN HC
        by_cases hlt2 : (ss.length : Int) < 20 + (y : Int)
        · by_cases hj : j < 22
          · have i1 : (j : Int) < 22 := by omega
            go_wp2_with (at_builtin; go_must (refine list_append_gr elStr _ rfl _ _ rfl w.heap.size O _ oc ss.length 1 1 (strs ss) (strs [wdW]) rfl rfl rfl (own_alloc HO3.out _) (cells_arr _ #[.string wdW] _ _ rfl) strs_one (by simp; omega) (by omega) ?_); intro O5 d5 w5 own hb hg; have HO5 := Lib.hid own; have HB5 := Lib.hid (((below1 w3 (.cells #[.string wdW] 9)).mono hz3).trans hb); clear own hb hg)
            go_roundw
            case rel => exact ⟨j + 1, ss ++ [wdW], O5, d5, by go_num, by simp, by simp; omega, by omega, Lib.hid (HS.out.snoc (by decide)), by rw [List.length_append, List.length_singleton, strs_append]; exact HO5, Lib.hid ((HC3.out.belowB HB0.out HB5.out (Nat.le_refl _) hlt).mono (by omega)), Lib.hid (HN3.out.of_belowB HB5.out (Nat.le_refl _))⟩
            case measure => (first | (simp [intOf]; done) | (simp [intOf]; omega))
          · have i1 : ¬ (j : Int) < 22 := by omega
            go_wp2
            go_ret
            exact ⟨O, oc, ss, rfl, by omega, HS.out, HO3.out, HC3.out.mono (by omega), HN3.out⟩
        · go_wp2
          go_ret
          exact ⟨O, oc, ss, rfl, by omega, HS.out, HO3.out, HC3.out.mono (by omega), HN3.out⟩
    · have e1 : ((x : Int) == 1) = false := by simp; omega
      clear h0 h1
      go_wp2
      go_ret
      exact ⟨O, d, ss, rfl, by omega, HS.out, HO.out, HC.out.mono (by omega), HN.out⟩
end Go.Proofs.Ytgchbimjgdoifaa
