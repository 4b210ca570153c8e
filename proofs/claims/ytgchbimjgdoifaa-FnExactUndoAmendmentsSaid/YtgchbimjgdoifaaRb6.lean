/- UndoAmendments, in the program and in the reference. Conditions: the ranges named. -/
import Derived.Test.YtgchbimjgdoifaaRb5
import Derived.Test.YtgchbimjgdoifaaInv2
namespace Go.Proofs.Ytgchbimjgdoifaa
open Go.RowKit
set_option linter.unusedVariables false
set_option linter.unusedSimpArgs false
attribute [local go_sem ↓] Go.wp_at_zero Go.wp_at_succ
theorem undo_no {ss : List ByteArray} {ps : List Amd} (h : undoB ss ps = false) : undoL ss ps = [] := by unfold undoL; rw [h]; rfl
theorem owQ_nil {lo hi : Nat} {w : World} : OwQ lo hi w none 0 [] := ⟨[], rfl, World.ownsRow_nil _ _ _ _, (fun a ha => by cases ha), ⟨by simp, (fun q hq => by simp at hq), by simp [cntV]⟩, (fun i hi => by simp at hi), (fun i j _ hj => by simp at hj), (fun i hi => by simp at hi)⟩
set_option maxHeartbeats 4000000 in
set_option maxRecDepth 100000 in
theorem UndoAmendments_any (T A : Option Addr) (t c : Nat) (ss : List ByteArray) (ps : List Amd) (w : World) (hT : Cells w T (strs ss)) (htc : ss.length ≤ t) (hfs : Fit ss) (hd : DLQ w A c ps) (hf : FitQ ps) :
    Calls Try.prog 20 #[.slice T ss.length t, .slice A ps.length c] w (ToQB w (undoL ss ps) (undoB ss ps)) := by
  have HT := Lib.hid hT
  have HD := Lib.hid hd
  have HF := Lib.hid hf
  have HFU := Lib.hid (undo_fit (ss := ss) hfs hf)
  have HCR := Lib.hid (canRebuild_any T A t c ss ps w hT hfs hd hf)
  have HX := Lib.hid (rebT_len ss ps)
  have hn := hf.1
  clear hT hd hf
  rcases Bool.eq_false_or_eq_true (rebB ss ps) with hr | hr
  · obtain ⟨h1, h2, h3, h4⟩ := rebB_parts hr
    have HG := Lib.hid (rebT_good (ss := ss) (ps := ps) ⟨h1, hfs⟩ (fun p hp => ⟨h4 p hp, HF.out.2.1 p hp⟩))
    have HV : Hid (∀ (k : Nat) (hk : k < ps.length), vldA ps[k] = true) := Lib.hid fun k hk => h4 _ (List.getElem_mem hk)
    clear h4
    rcases Bool.eq_false_or_eq_true (fullB ss ps) with hu | hu
    · have hfl : (rebT ss ps).length = ps.length + 1 := by unfold fullB at hu; rwa [decide_eq_true_eq] at hu
      have HU := Lib.hid (show undoB ss ps = true by unfold undoB; rw [hr, hu]; rfl)
      have HL := Lib.hid (show undoL ss ps = (invsL ss ps).reverse by unfold undoL; rw [HU.out]; rfl)
      have HST : Hid (∀ (k : Nat) (hk : k < ps.length), fitsB ((rebT ss ps)[k]'(by omega)) ps[k] = true ∧ (invsL ss ps)[k]'(by rw [invsL_len]; exact hk) = invA ((rebT ss ps)[k]'(by omega)) ps[k]) := Lib.hid fun k hk => rebT_full hfl hk
      have HIL := Lib.hid (invsL_len ss ps)
      rw [HU.out]
      go_enter Try.func20, Try.ntmps20
      go_wp2_with fail
      refine HCR.out.mono ?_
      rintro e w1 ⟨rfl, hb⟩
      rw [hr]
      have HB := Lib.hid hb
      clear hb
      go_wp2_with fail
      refine (rebuilt_any T A t c ss ps w1 (HT.out.below HB.out) htc ⟨h1, hfs⟩ (HD.out.below HB.out) HF.out h2).mono ?_
      rintro e w2 ⟨O, d, hs, rfl, ho, hb⟩
      have HB2 := Lib.hid (after HB.out hb)
      have HOT := Lib.hid ho
      rw [hfl]
      have q1 : ¬ ((ps.length + 1 : Nat) : Int) ≤ (ps.length : Int) := by omega
      have HO0 := Lib.hid (OwV.nil (own_nil_lit w2 w2.heap.size w2.heap.size 40 4 rfl (Nat.le_refl _)))
      have HBB := Lib.hid (below1 w2 (.cells #[] 40))
      clear ho hb
      go_wp2_with fail
      generalize w2.alloc (.cells #[] 40) = W0 at *
      go_loopw [7, 8] (fun u i wr => ∃ k : Nat, k ≤ ps.length ∧ i = .int .i64 ((k : Int) - 1) ∧ ∃ (qs : List Amd) (V : Option Addr) (vc : Nat) (vs : List AmH), Hid (qs = ((invsL ss ps).drop k).reverse) ∧ u = .slice V qs.length vc ∧ Hid (OwV w2.heap.size wr V vc qs vs) ∧ Hid (Below w2.heap.size w2 wr)) (fun _ i _ => (intOf i + 1).toNat)
      case atStart => exact ⟨ps.length, Nat.le_refl _, by go_num, [], _, _, _, Lib.hid (by rw [List.drop_of_length_le (by rw [invsL_len]; omega)]; rfl), rfl, HO0, HBB⟩
      case round =>
        clear HO0 HBB
        obtain ⟨wq, hwq⟩ : ∃ x : World, x = wr := ⟨_, rfl⟩
        subst hwq
        obtain ⟨k, hk, rfl, qs, V, vc, vs, HQ, rfl, HOV, HB3⟩ := hrel
        rcases Nat.eq_zero_or_pos k with h0 | h0
        · subst h0
          have HE := Lib.hid (show qs = undoL ss ps by rw [HL.out, HQ.out, List.drop_zero])
          have HB9 := Lib.hid (HB2.out.trans (HB3.out.mono HB2.out.size))
          have HOQ := Lib.hid ((HOV.out.own (by rw [HE.out]; exact HFU.out)).low HB2.out.size)
          clear HQ
          go_wp2
          go_ret2
          exact ⟨V, vc, by rw [← HE.out]; rfl, by rw [← HE.out]; exact HOQ.out, HB9.out⟩
        · obtain ⟨j, rfl⟩ : ∃ j, k = j + 1 := ⟨k - 1, by omega⟩
          have ej : ((j + 1 : Nat) : Int) - 1 = (j : Int) := by omega
          rw [ej]
          have hjl : j < ps.length := by omega
          have i0 : (0 : Int) ≤ (j : Int) := by omega
          have i1 : (j : Int) < (ps.length : Int) := by omega
          have i2 : (j : Int) < (ps.length : Int) + 1 := by omega
          obtain ⟨hfit, hinv⟩ := HST.out j hjl
          have HQ2 := Lib.hid (show qs ++ [invA ((rebT ss ps)[j]'(by omega)) ps[j]] = ((invsL ss ps).drop j).reverse by
            rw [List.drop_eq_getElem_cons (by rw [invsL_len]; exact hjl), List.reverse_cons, ← HQ.out, hinv])
          have hql : qs.length ≤ 8 := by rw [HQ.out, List.length_reverse, List.length_drop, HIL.out]; omega
          obtain ⟨g, C, cd, rfl, hgl, y0, hcd, hcc⟩ := (HOT.out.keep HB3.out).at_ (i := j) (by omega)
          obtain ⟨a0, B, d2, rfl, ⟨x0, x1, x2, x3⟩, hle, hcw⟩ := ((HD.out.below HB2.out).below HB3.out).at_ hjl
          have HGC := Lib.hid (HG.out ((rebT ss ps)[j]'(by omega)) (List.getElem_mem _))
          have HVA := Lib.hid (HV.out j hjl)
          obtain ⟨cur, hcur⟩ : ∃ x, Hid ((rebT ss ps)[j]'(by omega) = x) := ⟨_, Lib.hid rfl⟩
          obtain ⟨a, ha⟩ : ∃ x, Hid (ps[j] = x) := ⟨_, Lib.hid rfl⟩
          simp only [hcur.out, ha.out] at hfit HQ2 y0 hcd hcc x0 x1 x2 x3 hle hcw HGC HVA
          have HFI := Lib.hid hfit
          have hw5 := (vldA_range HVA.out).2.2.2.2.1
          have HCC := Lib.hid (Cells.of_own hcc)
          have HIK := Lib.hid (invK_eq (ss := cur) (a := a) (by unfold canB; rw [HGC.out.word, HVA.out, hfit]; rfl))
          have hWs := HB3.out.size
          clear hinv hfit hcc HQ hcw hle
          go_wp2_with fail
          refine wp_region_noPanic ?_
          refine wp_region_held_drew (S := (fun w' => Below w2.heap.size w2 w')) (by kernel_rfl) ?_ (fun hHeld => ?_)
          · ((try dsimp only); exact HB3.out.trans ((Below.refl _ _).drew.mono hWs))
          refine take_yes (i := 0) (d := 29) (v := ?_) rfl rfl (by kernel_rfl) (by kernel_rfl) (by kernel_rfl) (fun _ _ _ h => h) (by kernel_rfl) ?_ hHeld ?_
          rotate_left
          · (intro w hSw; (try dsimp only at hSw); go_simp; try (with_reducible rfl))
          try simp only [Act.put, List.setIfInBounds_toArray, List.set_cons_zero, List.set_cons_succ]
          refine take_yes (i := 1) (d := 30) (v := ?_) rfl rfl (by kernel_rfl) (by kernel_rfl) (by kernel_rfl) (fun _ _ _ h => h) (by kernel_rfl) ?_ hHeld ?_
          rotate_left
          · (intro w hSw; (try dsimp only at hSw); go_simp; try (with_reducible rfl))
          try simp only [Act.put, List.setIfInBounds_toArray, List.set_cons_zero, List.set_cons_succ]
          refine take_yes (i := 2) (d := 31) (v := ?_) rfl rfl (by kernel_rfl) (by kernel_rfl) (by kernel_rfl) (fun _ _ _ h => h) (by kernel_rfl) ?_ hHeld ?_
          rotate_left
          · (intro w hSw; (try dsimp only at hSw); go_simp; try (with_reducible rfl))
          try simp only [Act.put, List.setIfInBounds_toArray, List.set_cons_zero, List.set_cons_succ]
          refine take_yes (i := 3) (d := 32) (v := ?_) rfl rfl (by kernel_rfl) (by kernel_rfl) (by kernel_rfl) (fun _ _ _ h => h) (by kernel_rfl) ?_ hHeld ?_
          rotate_left
          · (intro w hSw; (try dsimp only at hSw); go_simp; try (with_reducible rfl))
          try simp only [Act.put, List.setIfInBounds_toArray, List.set_cons_zero, List.set_cons_succ]
          refine take_yes (i := 5) (d := 34) (v := ?_) rfl rfl (by kernel_rfl) (by kernel_rfl) (by kernel_rfl) (fun _ _ _ h => h) (by kernel_rfl) ?_ hHeld ?_
          rotate_left
          · (intro w hSw; (try dsimp only at hSw); go_simp; try (with_reducible rfl))
          try simp only [Act.put, List.setIfInBounds_toArray, List.set_cons_zero, List.set_cons_succ]
          refine take_yes (i := 6) (d := 35) (v := ?_) rfl rfl (by kernel_rfl) (by kernel_rfl) (by kernel_rfl) (fun _ _ _ h => h) (by kernel_rfl) ?_ hHeld ?_
          rotate_left
          · (intro w hSw; (try dsimp only at hSw); go_simp; try (with_reducible rfl))
          try simp only [Act.put, List.setIfInBounds_toArray, List.set_cons_zero, List.set_cons_succ]
          refine take_yes (i := 7) (d := 36) (v := ?_) rfl rfl (by kernel_rfl) (by kernel_rfl) (by kernel_rfl) (fun _ _ _ h => h) (by kernel_rfl) ?_ hHeld ?_
          rotate_left
          · (intro w hSw; (try dsimp only at hSw); go_simp; try (with_reducible rfl))
          try simp only [Act.put, List.setIfInBounds_toArray, List.set_cons_zero, List.set_cons_succ]
          refine wpAnyH_ready (rs := [4, 8]) (by kernel_rfl) (by simp) ?_
          refine AllReadyH.cons rfl (fun K hK => ?_) (AllReadyH.cons rfl (fun K hK => ?_) (AllReadyH.nil))
          · go_simp
            (first | refine hK.out _ _ ?_ (fun hHeld1 => ?_) | (go_wp2_with fail; refine hK.out _ _ ?_ (fun hHeld1 => ?_)))
            · ((try dsimp only); exact HB3.out.trans ((Below.refl _ _).drew.mono hWs))
            clear hK K hHeld
            have hHeld := hHeld1
            clear hHeld1
            try simp only [Act.put, List.setIfInBounds_toArray, List.set_cons_zero, List.set_cons_succ]
            refine wpAnyH_ready (rs := [8]) (by kernel_rfl) (by simp) ?_
            refine AllReadyH.cons rfl (fun K hK => ?_) (AllReadyH.nil)
            go_simp
            (first | refine hK.out _ _ ?_ (fun hHeld1 => ?_) | (go_wp2_with fail; refine hK.out _ _ ?_ (fun hHeld1 => ?_)))
            · ((try dsimp only); exact HB3.out.trans ((Below.refl _ _).drew.mono hWs))
            clear hK K hHeld
            have hHeld := hHeld1
            clear hHeld1
            try simp only [Act.put, List.setIfInBounds_toArray, List.set_cons_zero, List.set_cons_succ]
            refine wpAnyH_ready (rs := [9]) (by kernel_rfl) (by simp) ?_
            refine AllReadyH.cons rfl (fun K hK => ?_) (AllReadyH.nil)
            go_simp
            (go_at_call 75; refine (inverse_any C B cd d2 cur a _ (HCC.out.below (Below.refl _ _).drew) hcd HGC.out.fit (Small.of HVA.out) hw5 (fitsB_le HFI.out)).mono ?_; rw [HIK.out]; rintro e w3 ⟨N, nd, rfl, own, hb⟩; have HBN := Lib.hid ((Below.refl wq.heap.size wq).drew.trans hb); have HNO := Lib.hid own; have HBV := Lib.hid (HB3.out.trans (HBN.out.mono hWs)); clear hb own)
            (first | refine hK.out _ _ ?_ (fun hHeld1 => ?_) | (go_wp2_with fail; refine hK.out _ _ ?_ (fun hHeld1 => ?_)))
            · ((try dsimp only); exact HBV.out)
            clear hK K hHeld
            have hHeld := hHeld1
            clear hHeld1
            try simp only [Act.put, List.setIfInBounds_toArray, List.set_cons_zero, List.set_cons_succ]
            refine wpAnyH_ready (rs := [10]) (by kernel_rfl) (by simp) ?_
            refine AllReadyH.cons rfl (fun K hK => ?_) (AllReadyH.nil)
            try go_simp
            (first | refine hK.out _ _ ?_ (fun hHeld1 => ?_) | (go_wp2_with fail; refine hK.out _ _ ?_ (fun hHeld1 => ?_)))
            · ((try dsimp only); exact HBV.out.trans ((below1 w3 (.cells #[.int .i64 (invA cur a).k, .int .i64 (invA cur a).p, .int .i64 (invA cur a).n, .slice N (invA cur a).ws.length nd] 40)).mono HBV.out.size))
            clear hK K hHeld
            have hHeld := hHeld1
            clear hHeld1
            try simp only [Act.put, List.setIfInBounds_toArray, List.set_cons_zero, List.set_cons_succ]
            have HNC := Lib.hid (cells_arr w3 #[.int .i64 (invA cur a).k, .int .i64 (invA cur a).p, .int .i64 (invA cur a).n, .slice N (invA cur a).ws.length nd] 40 w3.heap.size rfl)
            have HOX := Lib.hid ((HOV.out.keep HBN.out).keep (below1 w3 (.cells #[.int .i64 (invA cur a).k, .int .i64 (invA cur a).p, .int .i64 (invA cur a).n, .slice N (invA cur a).ws.length nd] 40)))
            have HNO2 := Lib.hid (own_mono (own_alloc HNO.out (.cells #[.int .i64 (invA cur a).k, .int .i64 (invA cur a).p, .int .i64 (invA cur a).n, .slice N (invA cur a).ws.length nd] 40)) (show w2.heap.size ≤ wq.drew.heap.size from hWs))
            have HNB := Lib.hid (fun b (hb : N = some b) => (show wq.heap.size ≤ b.block from (HNO.out.lt b.block (by rw [hb]; rfl)).1))
            have hsx := hHeld.size
            have HB4 := Lib.hid hHeld
            refine wpAnyH_ready (rs := [11]) (by kernel_rfl) (by simp) ?_
            refine AllReadyH.cons rfl (fun K hK => ?_) (AllReadyH.nil)
            refine step_append_gr elAm _ (by rfl) _ _ (by rfl) w2.heap.size V (some ⟨w3.heap.size, 0, none⟩) vc qs.length 1 1 (AmHK.row vs) [.int .i64 (invA cur a).k, .int .i64 (invA cur a).p, .int .i64 (invA cur a).n, .slice N (invA cur a).ws.length nd] (by rfl) (by rfl) rfl HOX.out.2.1 HNC.out (fun u hu => amh_one (xs := [⟨_, _, _, N, _, nd⟩]) u hu) hsx (by omega) ?_
            intro V2 vc2 w5 own5 hb5 hg5
            have HO5 := Lib.hid (HOX.out.snoc (m := wq.heap.size) HNO2.out (fun i hi => HOV.out.under hi) HNB.out hg5 own5)
            have HB5 := Lib.hid (HB4.out.trans hb5)
            clear own5 hb5 hg5 hsx
            (first | refine hK.out _ _ ?_ (fun hHeld1 => ?_) | (go_wp2_with fail; refine hK.out _ _ ?_ (fun hHeld1 => ?_)))
            · ((try dsimp only); exact HB5.out)
            clear hK K hHeld
            have hHeld := hHeld1
            clear hHeld1
            try simp only [Act.put, List.setIfInBounds_toArray, List.set_cons_zero, List.set_cons_succ]
            refine take_yes (i := 12) (d := 7) (v := ?_) rfl rfl (by kernel_rfl) (by kernel_rfl) (by kernel_rfl) (fun _ _ _ h => h) (by kernel_rfl) ?_ hHeld ?_
            rotate_left
            · (intro w hSw; (try dsimp only at hSw); go_simp; try (with_reducible rfl))
            try simp only [Act.put, List.setIfInBounds_toArray, List.set_cons_zero, List.set_cons_succ]
            refine wpAnyH_done (by kernel_rfl) ?_ _
            refine NoPanic.normal ?_
            clear hHeld
            go_wp2
            go_roundw
            case rel => exact ⟨j, by omega, by go_num, qs ++ [invA cur a], V2, vc2, vs ++ [⟨_, _, _, N, _, nd⟩], HQ2, by simp, HO5, HB5⟩
            case measure => (first | (simp [intOf]; done) | (simp [intOf]; omega))
          · go_simp
            (first | refine hK.out _ _ ?_ (fun hHeld1 => ?_) | (go_wp2_with fail; refine hK.out _ _ ?_ (fun hHeld1 => ?_)))
            · ((try dsimp only); exact HB3.out.trans ((Below.refl _ _).drew.mono hWs))
            clear hK K hHeld
            have hHeld := hHeld1
            clear hHeld1
            try simp only [Act.put, List.setIfInBounds_toArray, List.set_cons_zero, List.set_cons_succ]
            refine wpAnyH_ready (rs := [4]) (by kernel_rfl) (by simp) ?_
            refine AllReadyH.cons rfl (fun K hK => ?_) (AllReadyH.nil)
            go_simp
            (first | refine hK.out _ _ ?_ (fun hHeld1 => ?_) | (go_wp2_with fail; refine hK.out _ _ ?_ (fun hHeld1 => ?_)))
            · ((try dsimp only); exact HB3.out.trans ((Below.refl _ _).drew.mono hWs))
            clear hK K hHeld
            have hHeld := hHeld1
            clear hHeld1
            try simp only [Act.put, List.setIfInBounds_toArray, List.set_cons_zero, List.set_cons_succ]
            refine wpAnyH_ready (rs := [9]) (by kernel_rfl) (by simp) ?_
            refine AllReadyH.cons rfl (fun K hK => ?_) (AllReadyH.nil)
            go_simp
            (go_at_call 75; refine (inverse_any C B cd d2 cur a _ (HCC.out.below (Below.refl _ _).drew) hcd HGC.out.fit (Small.of HVA.out) hw5 (fitsB_le HFI.out)).mono ?_; rw [HIK.out]; rintro e w3 ⟨N, nd, rfl, own, hb⟩; have HBN := Lib.hid ((Below.refl wq.heap.size wq).drew.trans hb); have HNO := Lib.hid own; have HBV := Lib.hid (HB3.out.trans (HBN.out.mono hWs)); clear hb own)
            (first | refine hK.out _ _ ?_ (fun hHeld1 => ?_) | (go_wp2_with fail; refine hK.out _ _ ?_ (fun hHeld1 => ?_)))
            · ((try dsimp only); exact HBV.out)
            clear hK K hHeld
            have hHeld := hHeld1
            clear hHeld1
            try simp only [Act.put, List.setIfInBounds_toArray, List.set_cons_zero, List.set_cons_succ]
            refine wpAnyH_ready (rs := [10]) (by kernel_rfl) (by simp) ?_
            refine AllReadyH.cons rfl (fun K hK => ?_) (AllReadyH.nil)
            try go_simp
            (first | refine hK.out _ _ ?_ (fun hHeld1 => ?_) | (go_wp2_with fail; refine hK.out _ _ ?_ (fun hHeld1 => ?_)))
            · ((try dsimp only); exact HBV.out.trans ((below1 w3 (.cells #[.int .i64 (invA cur a).k, .int .i64 (invA cur a).p, .int .i64 (invA cur a).n, .slice N (invA cur a).ws.length nd] 40)).mono HBV.out.size))
            clear hK K hHeld
            have hHeld := hHeld1
            clear hHeld1
            try simp only [Act.put, List.setIfInBounds_toArray, List.set_cons_zero, List.set_cons_succ]
            have HNC := Lib.hid (cells_arr w3 #[.int .i64 (invA cur a).k, .int .i64 (invA cur a).p, .int .i64 (invA cur a).n, .slice N (invA cur a).ws.length nd] 40 w3.heap.size rfl)
            have HOX := Lib.hid ((HOV.out.keep HBN.out).keep (below1 w3 (.cells #[.int .i64 (invA cur a).k, .int .i64 (invA cur a).p, .int .i64 (invA cur a).n, .slice N (invA cur a).ws.length nd] 40)))
            have HNO2 := Lib.hid (own_mono (own_alloc HNO.out (.cells #[.int .i64 (invA cur a).k, .int .i64 (invA cur a).p, .int .i64 (invA cur a).n, .slice N (invA cur a).ws.length nd] 40)) (show w2.heap.size ≤ wq.drew.heap.size from hWs))
            have HNB := Lib.hid (fun b (hb : N = some b) => (show wq.heap.size ≤ b.block from (HNO.out.lt b.block (by rw [hb]; rfl)).1))
            have hsx := hHeld.size
            have HB4 := Lib.hid hHeld
            refine wpAnyH_ready (rs := [11]) (by kernel_rfl) (by simp) ?_
            refine AllReadyH.cons rfl (fun K hK => ?_) (AllReadyH.nil)
            refine step_append_gr elAm _ (by rfl) _ _ (by rfl) w2.heap.size V (some ⟨w3.heap.size, 0, none⟩) vc qs.length 1 1 (AmHK.row vs) [.int .i64 (invA cur a).k, .int .i64 (invA cur a).p, .int .i64 (invA cur a).n, .slice N (invA cur a).ws.length nd] (by rfl) (by rfl) rfl HOX.out.2.1 HNC.out (fun u hu => amh_one (xs := [⟨_, _, _, N, _, nd⟩]) u hu) hsx (by omega) ?_
            intro V2 vc2 w5 own5 hb5 hg5
            have HO5 := Lib.hid (HOX.out.snoc (m := wq.heap.size) HNO2.out (fun i hi => HOV.out.under hi) HNB.out hg5 own5)
            have HB5 := Lib.hid (HB4.out.trans hb5)
            clear own5 hb5 hg5 hsx
            (first | refine hK.out _ _ ?_ (fun hHeld1 => ?_) | (go_wp2_with fail; refine hK.out _ _ ?_ (fun hHeld1 => ?_)))
            · ((try dsimp only); exact HB5.out)
            clear hK K hHeld
            have hHeld := hHeld1
            clear hHeld1
            try simp only [Act.put, List.setIfInBounds_toArray, List.set_cons_zero, List.set_cons_succ]
            refine take_yes (i := 12) (d := 7) (v := ?_) rfl rfl (by kernel_rfl) (by kernel_rfl) (by kernel_rfl) (fun _ _ _ h => h) (by kernel_rfl) ?_ hHeld ?_
            rotate_left
            · (intro w hSw; (try dsimp only at hSw); go_simp; try (with_reducible rfl))
            try simp only [Act.put, List.setIfInBounds_toArray, List.set_cons_zero, List.set_cons_succ]
            refine wpAnyH_done (by kernel_rfl) ?_ _
            refine NoPanic.normal ?_
            clear hHeld
            go_wp2
            go_roundw
            case rel => exact ⟨j, by omega, by go_num, qs ++ [invA cur a], V2, vc2, vs ++ [⟨_, _, _, N, _, nd⟩], HQ2, by simp, HO5, HB5⟩
            case measure => (first | (simp [intOf]; done) | (simp [intOf]; omega))
    · have HU := Lib.hid (show undoB ss ps = false by unfold undoB; rw [hu]; simp)
      have hfl : (rebT ss ps).length ≤ ps.length := by
        unfold fullB at hu
        have h9 := of_decide_eq_false hu
        have := HX.out.2
        omega
      rw [undo_no HU.out, HU.out]
      go_enter Try.func20, Try.ntmps20
      go_wp2_with fail
      refine HCR.out.mono ?_
      rintro e w1 ⟨rfl, hb⟩
      rw [hr]
      have HB := Lib.hid hb
      clear hb
      go_wp2_with fail
      refine (rebuilt_any T A t c ss ps w1 (HT.out.below HB.out) htc ⟨h1, hfs⟩ (HD.out.below HB.out) HF.out h2).mono ?_
      rintro e w2 ⟨O, d, hs, rfl, ho, hb⟩
      have HB2 := Lib.hid (after HB.out hb)
      have q1 : ((rebT ss ps).length : Int) ≤ (ps.length : Int) := by omega
      clear ho hb
      go_wp2
      go_ret2
      exact ⟨none, 0, rfl, owQ_nil, HB2.out⟩
  · have HU := Lib.hid (show undoB ss ps = false by unfold undoB; rw [hr]; simp)
    rw [undo_no HU.out, HU.out]
    go_enter Try.func20, Try.ntmps20
    go_wp2_with fail
    refine HCR.out.mono ?_
    rintro e w1 ⟨rfl, hb⟩
    rw [hr]
    go_wp2
    go_ret2
    exact ⟨none, 0, rfl, owQ_nil, hb⟩
end Go.Proofs.Ytgchbimjgdoifaa
