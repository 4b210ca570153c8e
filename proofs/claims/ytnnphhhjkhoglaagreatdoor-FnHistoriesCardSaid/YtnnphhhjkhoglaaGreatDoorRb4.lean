/- RebuildText, in the program and in the reference. Conditions: the ranges named. -/
import Derived.Test.YtnnphhhjkhoglaaGreatDoorRb3
namespace Go.Proofs.YtnnphhhjkhoglaaGreatDoor
open Go.RowKit
set_option linter.unusedVariables false
set_option linter.unusedSimpArgs false
/-- The rebuilt text, and how many amendments fitted. -/
def rebL (ss : List ByteArray) (ps : List Amd) : List ByteArray := if rebB ss ps then (rebT ss ps).getLastD [] else []
def rebN (ss : List ByteArray) (ps : List Amd) : Int := if rebB ss ps then ((rebT ss ps).length : Int) - 1 else 0
theorem rebT_last (ss : List ByteArray) (ps : List Amd) : (rebT ss ps)[(rebT ss ps).length - 1]'(by have := rebT_len ss ps; omega) = (rebT ss ps).getLastD [] := by
  have h := (rebT_len ss ps).1
  rw [List.getLastD_eq_getLast?, List.getLast?_eq_getElem?, List.getElem?_eq_getElem (by omega)]
  rfl
theorem rebT_good {ss : List ByteArray} {ps : List Amd} (hg : GoodT ss) (hv : ∀ p ∈ ps, vldA p = true ∧ Fit p.ws) : ∀ t ∈ rebT ss ps, GoodT t := by
  induction ps generalizing ss with
  | nil => intro t ht; simp [rebT] at ht; subst ht; exact hg
  | cons a ps ih =>
    intro t ht
    rw [rebT] at ht
    split at ht
    · rename_i hf
      rcases List.mem_cons.1 ht with rfl | ht
      · exact hg
      · have ha := hv a (by simp)
        exact ih (hg.step ha.1 hf ha.2) (fun p hp => hv p (by simp [hp])) t ht
    · simp at ht; subst ht; exact hg
theorem rebB_parts {ss : List ByteArray} {ps : List Amd} (h : rebB ss ps = true) : wordsB ss 0 20 = true ∧ listB ps = true ∧ ps.length ≤ 8 ∧ ∀ p ∈ ps, vldA p = true := by
  unfold rebB at h
  rw [Bool.and_eq_true] at h
  have h2 := h.2
  unfold listB at h2
  rw [Bool.and_eq_true, decide_eq_true_eq, List.all_eq_true] at h2
  exact ⟨h.1, h.2, by omega, h2.2⟩
theorem rebL_good {ss : List ByteArray} {ps : List Amd} (hfs : Fit ss) (hf : FitQ ps) : Fit (rebL ss ps) := by
  unfold rebL
  split
  · rename_i h
    obtain ⟨h1, h2, h3, h4⟩ := rebB_parts h
    rw [← rebT_last]
    exact (rebT_good ⟨h1, hfs⟩ (fun p hp => ⟨h4 p hp, hf.2.1 p hp⟩) _ (List.getElem_mem _)).fit
  · exact ⟨by simp, fun s hs => by simp at hs⟩
def ToSIB (w : World) (ss : List ByteArray) (n : Int) (ok : Bool) (e : Ending) (w' : World) : Prop := ∃ (A : Option Addr) (c : Nat), e = .returned (.tuple #[.slice A ss.length c, .int .i64 n, .bool ok]) ∧ OwS w.heap.size w'.heap.size w' A c ss ∧ Below w.heap.size w w'
theorem reb_no (ss : List ByteArray) (ps : List Amd) (h : rebB ss ps = false) : rebL ss ps = [] ∧ rebN ss ps = 0 := by unfold rebL rebN; rw [h]; exact ⟨rfl, rfl⟩
set_option maxHeartbeats 2000000 in
theorem RebuildText_any (T A : Option Addr) (t c : Nat) (ss : List ByteArray) (ps : List Amd) (w : World) (hT : Cells w T (strs ss)) (htc : ss.length ≤ t) (hfs : Fit ss) (hd : DLQ w A c ps) (hf : FitQ ps) :
    Calls Tryz.prog 6 #[.slice T ss.length t, .slice A ps.length c] w (ToSIB w (rebL ss ps) (rebN ss ps) (rebB ss ps)) := by
  have HT := Lib.hid hT
  have HD := Lib.hid hd
  have HF := Lib.hid hf
  have HFL := Lib.hid (rebL_good (ss := ss) hfs hf)
  have HCR := Lib.hid (canRebuild_any T A t c ss ps w hT hfs hd hf)
  have HX := Lib.hid (rebT_len ss ps)
  have HLA := Lib.hid (rebT_last ss ps)
  clear hT hd hf
  rcases Bool.eq_false_or_eq_true (rebB ss ps) with hr | hr
  · obtain ⟨h1, h2, h3, h4⟩ := rebB_parts hr
    have HL := Lib.hid (show rebL ss ps = (rebT ss ps).getLastD [] by unfold rebL; rw [hr]; rfl)
    have HN := Lib.hid (show rebN ss ps = ((rebT ss ps).length : Int) - 1 by unfold rebN; rw [hr]; rfl)
    rw [hr]
    go_enter Tryz.func6, Tryz.ntmps6
    go_wp2_with fail
    refine HCR.out.mono ?_
    rintro e w1 ⟨rfl, hb⟩
    rw [hr]
    have HB := Lib.hid hb
    clear hb
    go_wp2_with fail
    refine (rebuilt_any T A t c ss ps w1 (HT.out.below HB.out) htc ⟨h1, hfs⟩ (HD.out.below HB.out) HF.out h2).mono ?_
    rintro e w2 ⟨O, d, hs, rfl, ho, hb⟩
    have HB2 := Lib.hid (after HB.out hb)
    obtain ⟨g, B, bd, rfl, hgl, hc, hbd, hown⟩ := ho.at_ (i := (rebT ss ps).length - 1) (by have := HX.out.1; omega)
    rw [HLA.out] at hc hbd hown
    obtain ⟨L, hL⟩ : ∃ L, Hid ((rebT ss ps).getLastD [] = L) := ⟨_, Lib.hid rfl⟩
    rw [hL.out] at hc hbd hown HL
    have HO := Lib.hid (own_mono hown HB.out.size)
    clear ho hown hb
    obtain ⟨n, hn⟩ : ∃ n, Hid ((rebT ss ps).length = n) := ⟨_, Lib.hid rfl⟩
    have hx := HX.out
    rw [hn.out] at hx hc HN ⊢
    have q1 : IntKind.i64.wrap ((n : Int) - 1) = ((n - 1 : Nat) : Int) := by rw [IntKind.wrap_i64]; omega
    have q2 : ((n - 1 : Nat) : Int) < (n : Int) := by omega
    have q3 : (0 : Int) ≤ ((n - 1 : Nat) : Int) := by omega
    have q4 : ((n : Int) - 1).toNat = n - 1 := by omega
    have q5 : (0 : Int) ≤ (n : Int) - 1 := by omega
    have q6 : (n : Int) - 1 < (n : Int) := by omega
    have HQ := Lib.hid (show ((n - 1 : Nat) : Int) = (n : Int) - 1 by omega)
    clear hx
    go_wp2
    go_ret3
    refine ⟨B, bd, ?_, ?_, HB2.out⟩
    · rw [HL.out, HN.out, ← HQ.out]; rfl
    · have h9 : OwS w.heap.size w2.heap.size w2 B bd L := ⟨HO.out, Under.own HO.out, by rw [← HL.out]; exact HFL.out⟩
      rw [HL.out]; exact h9
  · obtain ⟨e1, e2⟩ := reb_no ss ps hr
    rw [e1, e2]
    rw [hr]
    go_enter Tryz.func6, Tryz.ntmps6
    go_wp2_with fail
    refine HCR.out.mono ?_
    rintro e w1 ⟨rfl, hb⟩
    rw [hr]
    go_wp2
    go_ret3
    exact ⟨none, 0, rfl, ⟨World.ownsRow_nil _ _ _ _, (fun a ha => by cases ha), ⟨by simp, fun s hs => by simp at hs⟩⟩, hb⟩
set_option maxHeartbeats 2000000 in
theorem sRebuildText_any (T A : Option Addr) (t c : Nat) (ss : List ByteArray) (ps : List Amd) (w : World) (hT : Cells w T (strs ss)) (htc : ss.length ≤ t) (hfs : Fit ss) (hd : DLQ w A c ps) (hf : FitQ ps) :
    Calls Tryz.prog 7 #[.slice T ss.length t, .slice A ps.length c] w (ToSIB w (rebL ss ps) (rebN ss ps) (rebB ss ps)) := by
  have HT := Lib.hid hT
  have HD := Lib.hid hd
  have HF := Lib.hid hf
  have HFL := Lib.hid (rebL_good (ss := ss) hfs hf)
  have hn := hf.1
  have HV0 := Lib.hid (l9Text_any T t ss w hT hfs.1 hfs.2)
  have HL0 := Lib.hid (l9List_any A c ps w hd hf)
  clear hT hd hf
  rcases Bool.eq_false_or_eq_true (wordsB ss 0 20) with h1 | h1
  · rcases Bool.eq_false_or_eq_true (listB ps) with h2 | h2
    · have hr : rebB ss ps = true := by unfold rebB; rw [h1, h2]; rfl
      obtain ⟨_, _, h3, h4⟩ := rebB_parts hr
      have HL := Lib.hid (show rebL ss ps = (rebT ss ps).getLastD [] by unfold rebL; rw [hr]; rfl)
      have HN := Lib.hid (show rebN ss ps = ((rebT ss ps).length : Int) - 1 by unfold rebN; rw [hr]; rfl)
      have HG := Lib.hid (show GoodT ss from ⟨h1, hfs⟩)
      have hsl := HG.out.len
      have HV : Hid (∀ (k : Nat) (hk : k < ps.length), vldA ps[k] = true ∧ Fit ps[k].ws) := Lib.hid fun k hk => ⟨h4 _ (List.getElem_mem hk), HF.out.2.1 _ (List.getElem_mem hk)⟩
      have HEND := Lib.hid (fun (pre : List (List ByteArray)) (cur : List ByteArray) (he : rebT ss ps = pre ++ [cur]) => (show rebL ss ps = cur ∧ rebN ss ps = (pre.length : Int) from ⟨by rw [HL.out, he]; simp, by rw [HN.out, he]; simp⟩))
      rw [hr]
      clear h4
      go_enter Tryz.func7, Tryz.ntmps7
      go_upto_region 3 with (first
        | (go_at_call 21; refine HV0.out.mono ?_; rintro e w1 ⟨rfl, rfl⟩; rw [h1])
        | (go_at_call 22; refine HL0.out.mono ?_; rintro e w1 ⟨rfl, hb⟩; rw [h2]; have HB := Lib.hid hb; clear hb))
      go_upto_region 4 with (at_builtin; go_must (refine list_append_lit elStr _ rfl _ _ rfl w.heap.size w1.heap.size T ss.length t (strs ss) rfl rfl (strs_len1 ss) (own_nil_lit w1 _ _ _ _ rfl HB.out.size) ((HT.out.below HB.out).alloc_ _) strs_one (by have := HB.out.size; simp; omega) (by omega) ?_); intro O1 d1 w2 own hb hq; have HO1 := Lib.hid own; have HB2 := Lib.hid (HB.out.trans (((below1 w1 (.cells #[] 9)).trans (hb.mono (by simp))).mono HB.out.size)); clear own hb hq)
      go_wp2_with fail
      go_loopw [7, 8] (fun u i wr => ∃ k : Nat, k ≤ ps.length ∧ i = .int .i64 k ∧ ∃ (pre : List (List ByteArray)) (cur : List ByteArray) (O : Option Addr) (oc : Nat), pre.length = k ∧ Hid (rebT ss ps = pre ++ rebT cur (ps.drop k)) ∧ u = .slice O cur.length oc ∧ Hid (GoodT cur) ∧ Hid (wr.ownsRow w.heap.size 9 1 (.slice O cur.length oc) cur.length (strs cur)) ∧ Hid (Below w.heap.size w wr)) (fun _ i _ => ps.length - (intOf i).toNat)
      case atStart => exact ⟨0, Nat.zero_le _, rfl, [], ss, _, _, rfl, Lib.hid (by simp), rfl, HG, HO1, HB2⟩
      case round =>
        clear HO1 HB2
        obtain ⟨wq, hwq⟩ : ∃ x : World, x = wr := ⟨_, rfl⟩
        subst hwq
        obtain ⟨k, hk, rfl, pre, cur, O, oc, hpl, HR, rfl, HGC, HOW, HB3⟩ := hrel
        by_cases hlt : k < ps.length
        · obtain ⟨a0, B, d, rfl, ⟨hc0, hc1, hc2, hc3⟩, hle, hcw⟩ := (HD.out.below HB3.out).at_ hlt
          have i1 : (k : Int) < (ps.length : Int) := by omega
          have HVA := Lib.hid (HV.out _ hlt).1
          have HFA := Lib.hid (HV.out _ hlt).2
          have HS1 := Lib.hid (chain_step hlt HR.out)
          have HS2 := Lib.hid (chain_stop hlt HR.out)
          obtain ⟨a, ha⟩ : ∃ a, Hid (ps[k] = a) := ⟨_, Lib.hid rfl⟩
          rw [ha.out] at hc0 hc1 hc2 hc3 hle hcw HVA HFA HS1 HS2
          have hw5 := (vldA_range HVA.out).2.2.2.2.1
          have HCW := Lib.hid hcw
          have HPL := Lib.hid hpl
          have HFT := Lib.hid (l9Fits_any O B oc d cur a wq (Cells.of_own HOW.out) (own_cap HOW.out) HGC.out.fit hcw HFA.out HVA.out)
          clear hcw hpl HR
          rcases Bool.eq_false_or_eq_true (fitsB cur a) with hz | hz
          · have HS := Lib.hid (HS1.out hz)
            clear HS1 HS2
            go_wp2_with fail
            refine HFT.out.mono ?_
            rintro e w3 ⟨rfl, hb⟩
            rw [hz]
            have n0 := (hb.cell (World.block_lt_of_cell? _ _ hc0)).trans hc0
            have n1 := (hb.cell (World.block_lt_of_cell? _ _ hc1)).trans hc1
            have n2 := (hb.cell (World.block_lt_of_cell? _ _ hc2)).trans hc2
            have n3 := (hb.cell (World.block_lt_of_cell? _ _ hc3)).trans hc3
            have HB4 := Lib.hid (after HB3.out hb)
            have HCC := Lib.hid ((Cells.of_own HOW.out).below hb)
            have HCW3 := Lib.hid (HCW.out.below hb)
            clear hb hc0 hc1 hc2 hc3
            go_wp2_with fail
            refine (l9Apply_any O B oc d cur a w3 HCC.out (own_cap HOW.out) HGC.out.fit HCW3.out HFA.out (Small.of HVA.out) (fitsB_le hz) hw5 HGC.out.len).mono ?_
            rintro e w4 ⟨N, nd, rfl, own, hb⟩
            have HO4 := Lib.hid (own_mono own HB4.out.size)
            have HB5 := Lib.hid (after HB4.out hb)
            clear own hb n0 n1 n2 n3
            go_wp2
            go_roundw
            case rel => exact ⟨k + 1, hlt, by go_num, pre ++ [cur], amdL cur a, N, nd, by simp; exact HPL.out, HS, rfl, Lib.hid (HGC.out.step HVA.out hz HFA.out), HO4, HB5⟩
            case measure => simp [intOf]; omega
          · have HE := Lib.hid (HEND.out _ _ (HS2.out hz))
            clear HS1 HS2
            go_wp2_with fail
            refine HFT.out.mono ?_
            rintro e w3 ⟨rfl, hb⟩
            rw [hz]
            have HB4 := Lib.hid (after HB3.out hb)
            have HO4 := Lib.hid (own_keep HOW.out hb)
            clear hb hc0 hc1 hc2 hc3
            go_wp2
            go_ret3
            refine ⟨O, oc, ?_, ?_, HB4.out⟩
            · rw [HE.out.1, HE.out.2, HPL.out]; rfl
            · rw [HE.out.1]; exact ⟨HO4.out, Under.own HO4.out, HGC.out.fit⟩
        · obtain rfl : k = ps.length := by omega
          have HE := Lib.hid (HEND.out _ _ (chain_end HR.out))
          have HPL := Lib.hid hpl
          clear hpl HR
          go_wp2
          go_ret3
          refine ⟨O, oc, ?_, ?_, HB3.out⟩
          · rw [HE.out.1, HE.out.2, HPL.out]; rfl
          · rw [HE.out.1]; exact ⟨HOW.out, Under.own HOW.out, HGC.out.fit⟩
    · have hr : rebB ss ps = false := by unfold rebB; rw [h2]; simp
      obtain ⟨e1, e2⟩ := reb_no ss ps hr
      rw [e1, e2, hr]
      go_enter Tryz.func7, Tryz.ntmps7
      go_wp2_with (first
        | (go_at_call 21; refine HV0.out.mono ?_; rintro e w1 ⟨rfl, rfl⟩; rw [h1])
        | (go_at_call 22; refine HL0.out.mono ?_; rintro e w1 ⟨rfl, hb⟩; rw [h2]; have HB := Lib.hid hb; clear hb))
      go_ret3
      have ho : (w1.alloc (.cells #[] 9)).ownsRow w.heap.size 9 1 (.slice (some ⟨w1.heap.size, 0, none⟩) 0 0) 0 [] := own_nil_lit w1 w.heap.size w1.heap.size 9 1 rfl HB.out.size
      exact ⟨_, _, rfl, ⟨ho, Under.own ho, by simp, fun s hs => by simp at hs⟩, HB.out.trans ((below1 w1 _).mono HB.out.size)⟩
  · have hr : rebB ss ps = false := by unfold rebB; rw [h1]; simp
    obtain ⟨e1, e2⟩ := reb_no ss ps hr
    rw [e1, e2, hr]
    go_enter Tryz.func7, Tryz.ntmps7
    go_wp2_with (go_at_call 21; refine HV0.out.mono ?_; rintro e w1 ⟨rfl, rfl⟩; rw [h1])
    go_ret3
    have ho : (w.alloc (.cells #[] 9)).ownsRow w.heap.size 9 1 (.slice (some ⟨w.heap.size, 0, none⟩) 0 0) 0 [] := own_nil_lit w w.heap.size w.heap.size 9 1 rfl (Nat.le_refl _)
    exact ⟨_, _, rfl, ⟨ho, Under.own ho, by simp, fun s hs => by simp at hs⟩, below1 w _⟩
end Go.Proofs.YtnnphhhjkhoglaaGreatDoor
