/- The texts that a list of amendments leads through, in the program: rebuilt. Conditions: the ranges named. -/
import Derived.Test.YtnnphhhjkhoglaaGreatDoorRb2
import Derived.Test.YtnnphhhjkhoglaaGreatDoorDk4L
namespace Go.Proofs.YtnnphhhjkhoglaaGreatDoor
open Go.RowKit
set_option linter.unusedVariables false
set_option linter.unusedSimpArgs false
attribute [local go_sem ↓] Go.wp_at_zero Go.wp_at_succ
set_option maxHeartbeats 4000000 in
set_option maxRecDepth 100000 in
theorem rebuilt_any (T A : Option Addr) (t c : Nat) (ss : List ByteArray) (ps : List Amd) (w : World) (hT : Cells w T (strs ss)) (htc : ss.length ≤ t) (hg : GoodT ss) (hd : DLQ w A c ps) (hf : FitQ ps) (hl : listB ps = true) :
    Calls Tryz.prog 20 #[.slice T ss.length t, .slice A ps.length c] w fun e w' => ∃ (O : Option Addr) (d : Nat) (hs : List TxH), e = .returned (.slice O (rebT ss ps).length d) ∧ OwT w.heap.size w' O d (rebT ss ps) hs ∧ Below w.heap.size w w' := by
  have HT := Lib.hid hT
  have HD := Lib.hid hd
  have HF := Lib.hid hf
  have HG := Lib.hid hg
  have hn := hf.1
  have hsl := hg.len
  have HV : Hid (∀ (k : Nat) (hk : k < ps.length), vldA ps[k] = true ∧ Fit ps[k].ws) := Lib.hid fun k hk => by
    unfold listB at hl
    rw [Bool.and_eq_true, List.all_eq_true] at hl
    exact ⟨hl.2 _ (List.getElem_mem hk), hf.2.1 _ (List.getElem_mem hk)⟩
  have hp8 : ps.length ≤ 8 := by
    unfold listB at hl
    rw [Bool.and_eq_true, decide_eq_true_eq] at hl
    omega
  clear hT hd hf hg hl
  go_enter Tryz.func20, Tryz.ntmps20
  go_upto_region 2 with (at_builtin; go_must (refine list_append_lit elStr _ rfl _ _ rfl w.heap.size w.heap.size T ss.length t (strs ss) rfl rfl (strs_len1 ss) (own_nil_lit w _ _ _ _ rfl (Nat.le_refl _)) (HT.out.alloc_ _) strs_one (by simp) (by omega) ?_); intro O1 d1 w1 own hb hq; have HO1 := Lib.hid own; have HB1 := Lib.hid ((below1 w _).trans (hb.mono (by simp))); clear own hb hq)
  have HT0 : Hid (OwT w.heap.size (w1.alloc (.cells #[.slice O1 ss.length d1] 24)) (some ⟨w1.heap.size, 0, none⟩) 1 [ss] [⟨O1, ss.length, d1⟩]) := by
    refine Lib.hid ⟨rfl, own_one (w := w1) HB1.out.size rfl, fun i h1 h2 => ?_⟩
    have : i = 0 := by simp at h1; omega
    subst this
    exact ⟨rfl, own_cap HO1.out, own_alloc HO1.out _⟩
  have HB1 := Lib.hid (HB1.out.trans ((below1 w1 (.cells #[.slice O1 ss.length d1] 24)).mono HB1.out.size))
  clear HO1
  go_wp2_with fail
  generalize w1.alloc (.cells #[.slice O1 ss.length d1] 24) = W0 at *
  go_loopw [5, 14] (fun u i wr => ∃ k : Nat, k ≤ ps.length ∧ i = .int .i64 k ∧ ∃ (pre : List (List ByteArray)) (cur : List ByteArray) (O : Option Addr) (oc : Nat) (hs : List TxH), pre.length = k ∧ Hid (rebT ss ps = pre ++ rebT cur (ps.drop k)) ∧ u = .slice O (pre.length + 1) oc ∧ Hid (GoodT cur) ∧ Hid (OwT w.heap.size wr O oc (pre ++ [cur]) hs) ∧ Hid (Below w.heap.size w wr)) (fun _ i _ => ps.length - (intOf i).toNat)
  case atStart => exact ⟨0, Nat.zero_le _, rfl, [], ss, _, _, _, rfl, Lib.hid (by simp), rfl, HG, HT0, HB1⟩
  case round =>
    clear HT0 HB1
    obtain ⟨wq, hwq⟩ : ∃ x : World, x = wr := ⟨_, rfl⟩
    subst hwq
    obtain ⟨k, hk, rfl, pre, cur, O, oc, hs, hpl, HR, rfl, HGC, HOW, HB⟩ := hrel
    by_cases hlt : k < ps.length
    · subst hpl
      obtain ⟨a0, B, d, rfl, ⟨hc0, hc1, hc2, hc3⟩, hle, hcw⟩ := (HD.out.below HB.out).at_ hlt
      have i1 : (pre.length : Int) < (ps.length : Int) := by omega
      have i2 : (pre.length : Int) < ((pre.length : Nat) : Int) + 1 := by omega
      have HVA := Lib.hid (HV.out _ hlt).1
      have HFA := Lib.hid (HV.out _ hlt).2
      have HS1 := Lib.hid (chain_step hlt HR.out)
      have HS2 := Lib.hid (chain_stop hlt HR.out)
      obtain ⟨a, ha⟩ : ∃ a, Hid (ps[pre.length] = a) := ⟨_, Lib.hid rfl⟩
      rw [ha.out] at hc0 hc1 hc2 hc3 hle hcw HVA HFA HS1 HS2
      have hw5 := (vldA_range HVA.out).2.2.2.2.1
      go_wp2_with fail
      have hW := below1 wq (.cells #[.int .i64 a.k, .int .i64 a.p, .int .i64 a.n, .slice B a.ws.length d] 35)
      have HCW := Lib.hid (hcw.below hW)
      have nb := BoxF.new wq #[.int .i64 a.k, .int .i64 a.p, .int .i64 a.n, .slice B a.ws.length d] 35
      have HOW := Lib.hid (HOW.out.keep hW)
      have HBW := Lib.hid (HB.out.trans (hW.mono HB.out.size))
      have hWs := HBW.out.size
      generalize wq.alloc (.cells #[.int .i64 a.k, .int .i64 a.p, .int .i64 a.n, .slice B a.ws.length d] 35) = W at *
      generalize wq.heap.size = b at *
      have x0 := nb.1 0 _ rfl
      have x1 := nb.1 1 _ rfl
      have x2 := nb.1 2 _ rfl
      have x3 := nb.1 3 _ rfl
      obtain ⟨g, C, cd, rfl, hgl, y0, hcd, hcc⟩ := HOW.out.at_ (i := pre.length) (by simp)
      simp only [List.getElem_append_right (Nat.le_refl _), Nat.sub_self, List.getElem_cons_zero] at y0 hcd hcc
      have HCC := Lib.hid (Cells.of_own hcc)
      clear nb hW hc0 hc1 hc2 hc3 hcw hcc HB
      rcases Bool.eq_false_or_eq_true (fitsB cur a) with hz | hz
      · have HS := Lib.hid (HS1.out hz)
        clear HS1 HS2 HR
        refine wp_region_noPanic ?_
        refine wp_region_held_drew (S := (fun w' => Below W.heap.size W w' ∧ w'.cell? ⟨g, pre.length, none⟩ = some (.slice C cur.length cd) ∧ w'.cell? ⟨b, 0, none⟩ = some (.int .i64 a.k) ∧ w'.cell? ⟨b, 1, none⟩ = some (.int .i64 a.p) ∧ w'.cell? ⟨b, 2, none⟩ = some (.int .i64 a.n) ∧ w'.cell? ⟨b, 3, none⟩ = some (.slice B a.ws.length d))) (by kernel_rfl) ?_ (fun hHeld => ?_)
        · ((try dsimp only); (first | exact ⟨HB1.out, (HB1.out.cell (World.block_lt_of_cell? _ _ y0)).trans y0, (HB1.out.cell (World.block_lt_of_cell? _ _ x0)).trans x0, (HB1.out.cell (World.block_lt_of_cell? _ _ x1)).trans x1, (HB1.out.cell (World.block_lt_of_cell? _ _ x2)).trans x2, (HB1.out.cell (World.block_lt_of_cell? _ _ x3)).trans x3⟩ | exact ⟨(Below.refl _ _).drew, y0, x0, x1, x2, x3⟩))
        refine take_yes (i := 0) (d := 19) (v := ?_) rfl rfl (by kernel_rfl) (by kernel_rfl) (by kernel_rfl) (fun _ _ _ h => h) (by kernel_rfl) ?_ hHeld ?_
        rotate_left
        · (intro w hSw; (try dsimp only at hSw); go_simp; try (with_reducible rfl))
        try simp only [Act.put, List.setIfInBounds_toArray, List.set_cons_zero, List.set_cons_succ]
        refine take_yes (i := 1) (d := 20) (v := ?_) rfl rfl (by kernel_rfl) (by kernel_rfl) (by kernel_rfl) (fun _ _ _ h => h) (by kernel_rfl) ?_ hHeld ?_
        rotate_left
        · (intro w hSw; (try dsimp only at hSw); go_simp; try (with_reducible rfl))
        try simp only [Act.put, List.setIfInBounds_toArray, List.set_cons_zero, List.set_cons_succ]
        refine take_yes (i := 2) (d := 21) (v := ?_) rfl rfl (by kernel_rfl) (by kernel_rfl) (by kernel_rfl) (fun _ _ _ h => h) (by kernel_rfl) ?_ hHeld ?_
        rotate_left
        · (intro w hSw; (try dsimp only at hSw); go_simp; try (with_reducible rfl))
        try simp only [Act.put, List.setIfInBounds_toArray, List.set_cons_zero, List.set_cons_succ]
        refine take_yes (i := 3) (d := 22) (v := ?_) rfl rfl (by kernel_rfl) (by kernel_rfl) (by kernel_rfl) (fun _ _ _ h => h) (by kernel_rfl) ?_ hHeld ?_
        rotate_left
        · (intro w hSw; (try dsimp only at hSw); go_simp; try (with_reducible rfl))
        try simp only [Act.put, List.setIfInBounds_toArray, List.set_cons_zero, List.set_cons_succ]
        refine take_yes (i := 4) (d := 23) (v := ?_) rfl rfl (by kernel_rfl) (by kernel_rfl) (by kernel_rfl) (fun _ _ _ h => h) (by kernel_rfl) ?_ hHeld ?_
        rotate_left
        · (intro w hSw; (try dsimp only at hSw); go_simp; try (with_reducible rfl))
        try simp only [Act.put, List.setIfInBounds_toArray, List.set_cons_zero, List.set_cons_succ]
        refine wpAnyH_ready (rs := [5]) (by kernel_rfl) (by simp) ?_
        refine AllReadyH.cons rfl (fun K hK => ?_) AllReadyH.nil
        go_simp
        (go_at_call 46; refine (fitsText_any C B cd d cur a _ (HCC.out.below (Below.refl _ _).drew) hcd HGC.out.fit (HCW.out.below (Below.refl _ _).drew) HFA.out HVA.out).mono ?_; rintro e w2 ⟨rfl, hb⟩; rw [hz]; have HB1 := Lib.hid ((Below.refl W.heap.size W).drew.trans hb); clear hb)
        (first | refine hK.out _ _ ?_ (fun hHeld1 => ?_) | (go_wp2_with fail; refine hK.out _ _ ?_ (fun hHeld1 => ?_)))
        · ((try dsimp only); (first | exact ⟨HB1.out, (HB1.out.cell (World.block_lt_of_cell? _ _ y0)).trans y0, (HB1.out.cell (World.block_lt_of_cell? _ _ x0)).trans x0, (HB1.out.cell (World.block_lt_of_cell? _ _ x1)).trans x1, (HB1.out.cell (World.block_lt_of_cell? _ _ x2)).trans x2, (HB1.out.cell (World.block_lt_of_cell? _ _ x3)).trans x3⟩ | exact ⟨(Below.refl _ _).drew, y0, x0, x1, x2, x3⟩))
        clear hK K hHeld
        have hHeld := hHeld1
        clear hHeld1
        try simp only [Act.put, List.setIfInBounds_toArray, List.set_cons_zero, List.set_cons_succ]
        refine take_yes (i := 6) (d := 25) (v := ?_) rfl rfl (by kernel_rfl) (by kernel_rfl) (by kernel_rfl) (fun _ _ _ h => h) (by kernel_rfl) ?_ hHeld ?_
        rotate_left
        · (intro w hSw; (try dsimp only at hSw); go_simp; try (with_reducible rfl))
        try simp only [Act.put, List.setIfInBounds_toArray, List.set_cons_zero, List.set_cons_succ]
        refine wpAnyH_done (by kernel_rfl) ?_ _
        refine NoPanic.normal ?_
        have HOW := Lib.hid (HOW.out.keep HB1.out)
        have HCC := Lib.hid (HCC.out.below HB1.out)
        have HCW := Lib.hid (HCW.out.below HB1.out)
        have HBW := Lib.hid (HBW.out.trans (HB1.out.mono hWs))
        have hWs := HBW.out.size
        obtain ⟨_, y0, x0, x1, x2, x3⟩ := hHeld
        clear HB1
        generalize w2 = W at *
        go_wp2_with fail
        refine wp_region_noPanic ?_
        refine wp_region_held_drew (S := (fun w' => Below w.heap.size w w')) (by kernel_rfl) ?_ (fun hHeld => ?_)
        · ((try dsimp only); exact HBW.out.trans ((Below.refl _ _).drew))
        refine take_yes (i := 0) (d := 26) (v := ?_) rfl rfl (by kernel_rfl) (by kernel_rfl) (by kernel_rfl) (fun _ _ _ h => h) (by kernel_rfl) ?_ hHeld ?_
        rotate_left
        · (intro w hSw; (try dsimp only at hSw); go_simp; try (with_reducible rfl))
        try simp only [Act.put, List.setIfInBounds_toArray, List.set_cons_zero, List.set_cons_succ]
        refine take_yes (i := 1) (d := 27) (v := ?_) rfl rfl (by kernel_rfl) (by kernel_rfl) (by kernel_rfl) (fun _ _ _ h => h) (by kernel_rfl) ?_ hHeld ?_
        rotate_left
        · (intro w hSw; (try dsimp only at hSw); go_simp; try (with_reducible rfl))
        try simp only [Act.put, List.setIfInBounds_toArray, List.set_cons_zero, List.set_cons_succ]
        refine take_yes (i := 2) (d := 28) (v := ?_) rfl rfl (by kernel_rfl) (by kernel_rfl) (by kernel_rfl) (fun _ _ _ h => h) (by kernel_rfl) ?_ hHeld ?_
        rotate_left
        · (intro w hSw; (try dsimp only at hSw); go_simp; try (with_reducible rfl))
        try simp only [Act.put, List.setIfInBounds_toArray, List.set_cons_zero, List.set_cons_succ]
        refine take_yes (i := 3) (d := 29) (v := ?_) rfl rfl (by kernel_rfl) (by kernel_rfl) (by kernel_rfl) (fun _ _ _ h => h) (by kernel_rfl) ?_ hHeld ?_
        rotate_left
        · (intro w hSw; (try dsimp only at hSw); go_simp; try (with_reducible rfl))
        try simp only [Act.put, List.setIfInBounds_toArray, List.set_cons_zero, List.set_cons_succ]
        refine wpAnyH_ready (rs := [4, 5]) (by kernel_rfl) (by simp) ?_
        refine AllReadyH.cons rfl (fun K hK => ?_) (AllReadyH.cons rfl (fun K hK => ?_) (AllReadyH.nil))
        · go_simp
          (first | refine hK.out _ _ ?_ (fun hHeld1 => ?_) | (go_wp2_with fail; refine hK.out _ _ ?_ (fun hHeld1 => ?_)))
          · ((try dsimp only); exact HBW.out.trans ((Below.refl _ _).drew))
          clear hK K hHeld
          have hHeld := hHeld1
          clear hHeld1
          try simp only [Act.put, List.setIfInBounds_toArray, List.set_cons_zero, List.set_cons_succ]
          refine wpAnyH_ready (rs := [5]) (by kernel_rfl) (by simp) ?_
          refine AllReadyH.cons rfl (fun K hK => ?_) (AllReadyH.nil)
          go_simp
          (first | refine hK.out _ _ ?_ (fun hHeld1 => ?_) | (go_wp2_with fail; refine hK.out _ _ ?_ (fun hHeld1 => ?_)))
          · ((try dsimp only); exact HBW.out.trans ((Below.refl _ _).drew))
          clear hK K hHeld
          have hHeld := hHeld1
          clear hHeld1
          try simp only [Act.put, List.setIfInBounds_toArray, List.set_cons_zero, List.set_cons_succ]
          refine wpAnyH_ready (rs := [6]) (by kernel_rfl) (by simp) ?_
          refine AllReadyH.cons rfl (fun K hK => ?_) (AllReadyH.nil)
          go_simp
          (go_at_call 47; refine (amended_any C B cd d cur a _ (HCC.out.below (Below.refl _ _).drew) hcd HGC.out.fit (HCW.out.below (Below.refl _ _).drew) HFA.out (Small.of HVA.out) (fitsB_le hz) hw5 HGC.out.len).mono ?_; rintro e w3 ⟨N, nd, rfl, own, hb⟩; have HB2 := Lib.hid ((Below.refl W.heap.size W).drew.trans hb); have HNO := Lib.hid (own_mono own hWs); have HBV := Lib.hid (HBW.out.trans (HB2.out.mono hWs)); clear hb own)
          (first | refine hK.out _ _ ?_ (fun hHeld1 => ?_) | (go_wp2_with fail; refine hK.out _ _ ?_ (fun hHeld1 => ?_)))
          · ((try dsimp only); exact HBV.out)
          clear hK K hHeld
          have hHeld := hHeld1
          clear hHeld1
          try simp only [Act.put, List.setIfInBounds_toArray, List.set_cons_zero, List.set_cons_succ]
          refine wpAnyH_ready (rs := [7]) (by kernel_rfl) (by simp) ?_
          refine AllReadyH.cons rfl (fun K hK => ?_) (AllReadyH.nil)
          try go_simp
          (first | refine hK.out _ _ ?_ (fun hHeld1 => ?_) | (go_wp2_with fail; refine hK.out _ _ ?_ (fun hHeld1 => ?_)))
          · ((try dsimp only); exact HBV.out.trans ((below1 w3 (.cells #[.slice N (amdL cur a).length nd] 24)).mono HBV.out.size))
          clear hK K hHeld
          have hHeld := hHeld1
          clear hHeld1
          try simp only [Act.put, List.setIfInBounds_toArray, List.set_cons_zero, List.set_cons_succ]
          have HNC := Lib.hid (cells_arr w3 #[.slice N (amdL cur a).length nd] 24 w3.heap.size rfl)
          have HOX := Lib.hid ((HOW.out.keep HB2.out).keep (below1 w3 (.cells #[.slice N (amdL cur a).length nd] 24)))
          have HNO := Lib.hid (own_alloc HNO.out (.cells #[.slice N (amdL cur a).length nd] 24))
          have hsx := hHeld.size
          have HB3 := Lib.hid hHeld
          have hlen := HOX.out.1
          have how := HOX.out.2.1
          rw [List.length_append, List.length_singleton] at how
          refine wpAnyH_ready (rs := [8]) (by kernel_rfl) (by simp) ?_
          refine AllReadyH.cons rfl (fun K hK => ?_) (AllReadyH.nil)
          refine step_append_gr elTx _ (by rfl) _ _ (by rfl) w.heap.size (some ⟨g, 0, none⟩) (some ⟨w3.heap.size, 0, none⟩) oc (pre.length + 1) 1 1 (TxHK.row hs) [.slice N (amdL cur a).length nd] (by rfl) (by rfl) rfl how HNC.out (fun u hu => by simp at hu; subst hu; rfl) hsx (by omega) ?_
          intro O2 d2 w5 own5 hb5 hg5
          have HO5 := Lib.hid (HOX.out.snoc (d := nd) HNO.out (by rw [List.length_append, List.length_singleton]; exact hg5) (by rw [List.length_append, List.length_singleton]; exact own5))
          have HB5 := Lib.hid (HB3.out.trans hb5)
          clear own5 hb5 hg5 how hsx
          (first | refine hK.out _ _ ?_ (fun hHeld1 => ?_) | (go_wp2_with fail; refine hK.out _ _ ?_ (fun hHeld1 => ?_)))
          · ((try dsimp only); exact HB5.out)
          clear hK K hHeld
          have hHeld := hHeld1
          clear hHeld1
          try simp only [Act.put, List.setIfInBounds_toArray, List.set_cons_zero, List.set_cons_succ]
          refine take_yes (i := 9) (d := 5) (v := ?_) rfl rfl (by kernel_rfl) (by kernel_rfl) (by kernel_rfl) (fun _ _ _ h => h) (by kernel_rfl) ?_ hHeld ?_
          rotate_left
          · (intro w hSw; (try dsimp only at hSw); go_simp; try (with_reducible rfl))
          try simp only [Act.put, List.setIfInBounds_toArray, List.set_cons_zero, List.set_cons_succ]
          refine wpAnyH_done (by kernel_rfl) ?_ _
          refine NoPanic.normal ?_
          clear hHeld
          go_wp2
          go_roundw
          case rel => exact ⟨pre.length + 1, hlt, by go_num, pre ++ [cur], amdL cur a, O2, d2, hs ++ [⟨N, (amdL cur a).length, nd⟩], by simp, HS, by simp, Lib.hid (HGC.out.step HVA.out hz HFA.out), HO5, HB5⟩
          case measure => simp [intOf]; omega
        · go_simp
          (first | refine hK.out _ _ ?_ (fun hHeld1 => ?_) | (go_wp2_with fail; refine hK.out _ _ ?_ (fun hHeld1 => ?_)))
          · ((try dsimp only); exact HBW.out.trans ((Below.refl _ _).drew))
          clear hK K hHeld
          have hHeld := hHeld1
          clear hHeld1
          try simp only [Act.put, List.setIfInBounds_toArray, List.set_cons_zero, List.set_cons_succ]
          refine wpAnyH_ready (rs := [4]) (by kernel_rfl) (by simp) ?_
          refine AllReadyH.cons rfl (fun K hK => ?_) (AllReadyH.nil)
          go_simp
          (first | refine hK.out _ _ ?_ (fun hHeld1 => ?_) | (go_wp2_with fail; refine hK.out _ _ ?_ (fun hHeld1 => ?_)))
          · ((try dsimp only); exact HBW.out.trans ((Below.refl _ _).drew))
          clear hK K hHeld
          have hHeld := hHeld1
          clear hHeld1
          try simp only [Act.put, List.setIfInBounds_toArray, List.set_cons_zero, List.set_cons_succ]
          refine wpAnyH_ready (rs := [6]) (by kernel_rfl) (by simp) ?_
          refine AllReadyH.cons rfl (fun K hK => ?_) (AllReadyH.nil)
          go_simp
          (go_at_call 47; refine (amended_any C B cd d cur a _ (HCC.out.below (Below.refl _ _).drew) hcd HGC.out.fit (HCW.out.below (Below.refl _ _).drew) HFA.out (Small.of HVA.out) (fitsB_le hz) hw5 HGC.out.len).mono ?_; rintro e w3 ⟨N, nd, rfl, own, hb⟩; have HB2 := Lib.hid ((Below.refl W.heap.size W).drew.trans hb); have HNO := Lib.hid (own_mono own hWs); have HBV := Lib.hid (HBW.out.trans (HB2.out.mono hWs)); clear hb own)
          (first | refine hK.out _ _ ?_ (fun hHeld1 => ?_) | (go_wp2_with fail; refine hK.out _ _ ?_ (fun hHeld1 => ?_)))
          · ((try dsimp only); exact HBV.out)
          clear hK K hHeld
          have hHeld := hHeld1
          clear hHeld1
          try simp only [Act.put, List.setIfInBounds_toArray, List.set_cons_zero, List.set_cons_succ]
          refine wpAnyH_ready (rs := [7]) (by kernel_rfl) (by simp) ?_
          refine AllReadyH.cons rfl (fun K hK => ?_) (AllReadyH.nil)
          try go_simp
          (first | refine hK.out _ _ ?_ (fun hHeld1 => ?_) | (go_wp2_with fail; refine hK.out _ _ ?_ (fun hHeld1 => ?_)))
          · ((try dsimp only); exact HBV.out.trans ((below1 w3 (.cells #[.slice N (amdL cur a).length nd] 24)).mono HBV.out.size))
          clear hK K hHeld
          have hHeld := hHeld1
          clear hHeld1
          try simp only [Act.put, List.setIfInBounds_toArray, List.set_cons_zero, List.set_cons_succ]
          have HNC := Lib.hid (cells_arr w3 #[.slice N (amdL cur a).length nd] 24 w3.heap.size rfl)
          have HOX := Lib.hid ((HOW.out.keep HB2.out).keep (below1 w3 (.cells #[.slice N (amdL cur a).length nd] 24)))
          have HNO := Lib.hid (own_alloc HNO.out (.cells #[.slice N (amdL cur a).length nd] 24))
          have hsx := hHeld.size
          have HB3 := Lib.hid hHeld
          have hlen := HOX.out.1
          have how := HOX.out.2.1
          rw [List.length_append, List.length_singleton] at how
          refine wpAnyH_ready (rs := [8]) (by kernel_rfl) (by simp) ?_
          refine AllReadyH.cons rfl (fun K hK => ?_) (AllReadyH.nil)
          refine step_append_gr elTx _ (by rfl) _ _ (by rfl) w.heap.size (some ⟨g, 0, none⟩) (some ⟨w3.heap.size, 0, none⟩) oc (pre.length + 1) 1 1 (TxHK.row hs) [.slice N (amdL cur a).length nd] (by rfl) (by rfl) rfl how HNC.out (fun u hu => by simp at hu; subst hu; rfl) hsx (by omega) ?_
          intro O2 d2 w5 own5 hb5 hg5
          have HO5 := Lib.hid (HOX.out.snoc (d := nd) HNO.out (by rw [List.length_append, List.length_singleton]; exact hg5) (by rw [List.length_append, List.length_singleton]; exact own5))
          have HB5 := Lib.hid (HB3.out.trans hb5)
          clear own5 hb5 hg5 how hsx
          (first | refine hK.out _ _ ?_ (fun hHeld1 => ?_) | (go_wp2_with fail; refine hK.out _ _ ?_ (fun hHeld1 => ?_)))
          · ((try dsimp only); exact HB5.out)
          clear hK K hHeld
          have hHeld := hHeld1
          clear hHeld1
          try simp only [Act.put, List.setIfInBounds_toArray, List.set_cons_zero, List.set_cons_succ]
          refine take_yes (i := 9) (d := 5) (v := ?_) rfl rfl (by kernel_rfl) (by kernel_rfl) (by kernel_rfl) (fun _ _ _ h => h) (by kernel_rfl) ?_ hHeld ?_
          rotate_left
          · (intro w hSw; (try dsimp only at hSw); go_simp; try (with_reducible rfl))
          try simp only [Act.put, List.setIfInBounds_toArray, List.set_cons_zero, List.set_cons_succ]
          refine wpAnyH_done (by kernel_rfl) ?_ _
          refine NoPanic.normal ?_
          clear hHeld
          go_wp2
          go_roundw
          case rel => exact ⟨pre.length + 1, hlt, by go_num, pre ++ [cur], amdL cur a, O2, d2, hs ++ [⟨N, (amdL cur a).length, nd⟩], by simp, HS, by simp, Lib.hid (HGC.out.step HVA.out hz HFA.out), HO5, HB5⟩
          case measure => simp [intOf]; omega
      · have HS := Lib.hid (HS2.out hz)
        clear HS1 HS2 HR
        refine wp_region_noPanic ?_
        refine wp_region_held_drew (S := (fun w' => Below W.heap.size W w' ∧ w'.cell? ⟨g, pre.length, none⟩ = some (.slice C cur.length cd) ∧ w'.cell? ⟨b, 0, none⟩ = some (.int .i64 a.k) ∧ w'.cell? ⟨b, 1, none⟩ = some (.int .i64 a.p) ∧ w'.cell? ⟨b, 2, none⟩ = some (.int .i64 a.n) ∧ w'.cell? ⟨b, 3, none⟩ = some (.slice B a.ws.length d))) (by kernel_rfl) ?_ (fun hHeld => ?_)
        · ((try dsimp only); (first | exact ⟨HB1.out, (HB1.out.cell (World.block_lt_of_cell? _ _ y0)).trans y0, (HB1.out.cell (World.block_lt_of_cell? _ _ x0)).trans x0, (HB1.out.cell (World.block_lt_of_cell? _ _ x1)).trans x1, (HB1.out.cell (World.block_lt_of_cell? _ _ x2)).trans x2, (HB1.out.cell (World.block_lt_of_cell? _ _ x3)).trans x3⟩ | exact ⟨(Below.refl _ _).drew, y0, x0, x1, x2, x3⟩))
        refine take_yes (i := 0) (d := 19) (v := ?_) rfl rfl (by kernel_rfl) (by kernel_rfl) (by kernel_rfl) (fun _ _ _ h => h) (by kernel_rfl) ?_ hHeld ?_
        rotate_left
        · (intro w hSw; (try dsimp only at hSw); go_simp; try (with_reducible rfl))
        try simp only [Act.put, List.setIfInBounds_toArray, List.set_cons_zero, List.set_cons_succ]
        refine take_yes (i := 1) (d := 20) (v := ?_) rfl rfl (by kernel_rfl) (by kernel_rfl) (by kernel_rfl) (fun _ _ _ h => h) (by kernel_rfl) ?_ hHeld ?_
        rotate_left
        · (intro w hSw; (try dsimp only at hSw); go_simp; try (with_reducible rfl))
        try simp only [Act.put, List.setIfInBounds_toArray, List.set_cons_zero, List.set_cons_succ]
        refine take_yes (i := 2) (d := 21) (v := ?_) rfl rfl (by kernel_rfl) (by kernel_rfl) (by kernel_rfl) (fun _ _ _ h => h) (by kernel_rfl) ?_ hHeld ?_
        rotate_left
        · (intro w hSw; (try dsimp only at hSw); go_simp; try (with_reducible rfl))
        try simp only [Act.put, List.setIfInBounds_toArray, List.set_cons_zero, List.set_cons_succ]
        refine take_yes (i := 3) (d := 22) (v := ?_) rfl rfl (by kernel_rfl) (by kernel_rfl) (by kernel_rfl) (fun _ _ _ h => h) (by kernel_rfl) ?_ hHeld ?_
        rotate_left
        · (intro w hSw; (try dsimp only at hSw); go_simp; try (with_reducible rfl))
        try simp only [Act.put, List.setIfInBounds_toArray, List.set_cons_zero, List.set_cons_succ]
        refine take_yes (i := 4) (d := 23) (v := ?_) rfl rfl (by kernel_rfl) (by kernel_rfl) (by kernel_rfl) (fun _ _ _ h => h) (by kernel_rfl) ?_ hHeld ?_
        rotate_left
        · (intro w hSw; (try dsimp only at hSw); go_simp; try (with_reducible rfl))
        try simp only [Act.put, List.setIfInBounds_toArray, List.set_cons_zero, List.set_cons_succ]
        refine wpAnyH_ready (rs := [5]) (by kernel_rfl) (by simp) ?_
        refine AllReadyH.cons rfl (fun K hK => ?_) AllReadyH.nil
        go_simp
        (go_at_call 46; refine (fitsText_any C B cd d cur a _ (HCC.out.below (Below.refl _ _).drew) hcd HGC.out.fit (HCW.out.below (Below.refl _ _).drew) HFA.out HVA.out).mono ?_; rintro e w2 ⟨rfl, hb⟩; rw [hz]; have HB1 := Lib.hid ((Below.refl W.heap.size W).drew.trans hb); clear hb)
        (first | refine hK.out _ _ ?_ (fun hHeld1 => ?_) | (go_wp2_with fail; refine hK.out _ _ ?_ (fun hHeld1 => ?_)))
        · ((try dsimp only); (first | exact ⟨HB1.out, (HB1.out.cell (World.block_lt_of_cell? _ _ y0)).trans y0, (HB1.out.cell (World.block_lt_of_cell? _ _ x0)).trans x0, (HB1.out.cell (World.block_lt_of_cell? _ _ x1)).trans x1, (HB1.out.cell (World.block_lt_of_cell? _ _ x2)).trans x2, (HB1.out.cell (World.block_lt_of_cell? _ _ x3)).trans x3⟩ | exact ⟨(Below.refl _ _).drew, y0, x0, x1, x2, x3⟩))
        clear hK K hHeld
        have hHeld := hHeld1
        clear hHeld1
        try simp only [Act.put, List.setIfInBounds_toArray, List.set_cons_zero, List.set_cons_succ]
        refine take_yes (i := 6) (d := 25) (v := ?_) rfl rfl (by kernel_rfl) (by kernel_rfl) (by kernel_rfl) (fun _ _ _ h => h) (by kernel_rfl) ?_ hHeld ?_
        rotate_left
        · (intro w hSw; (try dsimp only at hSw); go_simp; try (with_reducible rfl))
        try simp only [Act.put, List.setIfInBounds_toArray, List.set_cons_zero, List.set_cons_succ]
        refine wpAnyH_done (by kernel_rfl) ?_ _
        refine NoPanic.normal ?_
        have HOW := Lib.hid (HOW.out.keep HB1.out)
        have HBW := Lib.hid (HBW.out.trans (HB1.out.mono hWs))
        go_wp2
        go_ret
        rw [HS.out]
        exact ⟨_, _, _, by simp, HOW.out, HBW.out⟩
    · obtain rfl : k = ps.length := by omega
      have HS := Lib.hid (chain_end HR.out)
      go_wp2
      go_ret
      rw [HS.out]
      exact ⟨_, _, _, by simp, HOW.out, HB.out⟩
end Go.Proofs.YtnnphhhjkhoglaaGreatDoor
