/- SpeakFor, in the program. Conditions: the ranges named. -/
import Derived.Test.YtbpikbcnpmplfaaSs5
import Derived.Deep.MidRow
namespace Go.Proofs.Ytbpikbcnpmplfaa
open Go.RowKit
set_option linter.unusedVariables false
set_option linter.unusedSimpArgs false
attribute [local go_sem ↓] Go.wp_at_zero Go.wp_at_succ
open Ss3
theorem results_cell_tmp2 {fn : Func} {p u t : Tmp} {ty : TypeId} (h : fn.results = #[.cell p ty, .tmp u, .tmp t]) (tmps : Array Value) (P : Program) (w : World) :
    (results fn tmps).run P w = ((asAddr (tmps.getD p undef)).run P w).andThen fun a w1 => ((loadVar ty a).run P w1).andThen fun v w2 => .ok (.tuple #[v, tmps.getD u undef, tmps.getD t undef]) w2 := by
  simp only [results, h]
  simp [Sem.run_bind, Result.andThen]
theorem BoxF.there {w : World} {b : Nat} {vs : List Value} (h : BoxF w b vs) : w.there b 0 vs.length := fun j hj => ⟨by rw [Nat.zero_add, h.1 j _ (List.getElem?_eq_getElem hj)]; rfl, by rw [Nat.zero_add]; exact h.2 j⟩
set_option maxHeartbeats 16000000 in
set_option maxRecDepth 100000 in
theorem SpeakFor_any (A D : Option Addr) (c d : Nat) (f : Flr) (k : Int) (w : World) (ha : Cells w A (IntK.row f.wt)) (hm0 : f.wt.length ≤ 1048576) (hcc : f.wt.length ≤ c) (hd : Cells w D (ShareK.row f.sh)) (hn : f.sh.length ≤ 1048576) :
    Calls Try.prog 15 #[.agg #[.int .i64 f.t, .int .i64 f.s, .int .i64 f.sp, .slice A f.wt.length c, .slice D f.sh.length d], .int .i64 k] w (ToFNB w (sfF f k) (sfN f k) (sfB f k)) := by
  have HA := Lib.hid ha
  have HD := Lib.hid hd
  clear ha hd
  have N0 := Lib.hid ((BoxF.new5 w (.int .i64 f.t) (.int .i64 f.s) (.int .i64 f.sp) (.slice A f.wt.length c) (.slice D f.sh.length d) 29 w.heap.size rfl).below (below1 (w.alloc (.cells #[.int .i64 f.t, .int .i64 f.s, .int .i64 f.sp, .slice A f.wt.length c, .slice D f.sh.length d] 29)) (.cells #[.int .i64 0, .int .i64 0, .int .i64 0, .slice none 0 0, .slice none 0 0] 29)) (by simp))
  have N2 := Lib.hid (BoxF.new5 (w.alloc (.cells #[.int .i64 f.t, .int .i64 f.s, .int .i64 f.sp, .slice A f.wt.length c, .slice D f.sh.length d] 29)) (.int .i64 0) (.int .i64 0) (.int .i64 0) (.slice none 0 0) (.slice none 0 0) 29 (w.heap.size + 1) (by simp))
  have HB := Lib.hid (below2 w (.cells #[.int .i64 f.t, .int .i64 f.s, .int .i64 f.sp, .slice A f.wt.length c, .slice D f.sh.length d] 29) (.cells #[.int .i64 0, .int .i64 0, .int .i64 0, .slice none 0 0, .slice none 0 0] 29))
  have hs : w.heap.size + 2 ≤ ((w.alloc (.cells #[.int .i64 f.t, .int .i64 f.s, .int .i64 f.sp, .slice A f.wt.length c, .slice D f.sh.length d] 29)).alloc (.cells #[.int .i64 0, .int .i64 0, .int .i64 0, .slice none 0 0, .slice none 0 0] 29)).heap.size := by simp
  go_enter Try.func15, Try.ntmps15
  go_wp2_with fail
  generalize ((w.alloc (.cells #[.int .i64 f.t, .int .i64 f.s, .int .i64 f.sp, .slice A f.wt.length c, .slice D f.sh.length d] 29)).alloc (.cells #[.int .i64 0, .int .i64 0, .int .i64 0, .slice none 0 0, .slice none 0 0] 29)) = W at *
  refine (IsValidFloor_any A D c d f W (HA.out.below HB.out) hm0 hcc (HD.out.below HB.out) hn).mono ?_
  rintro e w1 ⟨rfl, hb⟩
  have N0 := Lib.hid (N0.out.below hb (by omega))
  have N2 := Lib.hid (N2.out.below hb (by omega))
  have HB := Lib.hid (HB.out.trans (hb.mono HB.out.size))
  have hs := Nat.le_trans hs hb.size
  clear hb
  rcases Bool.eq_false_or_eq_true (vldF f) with hv | hv
  · rw [hv]
    have e02 := N0.out.1 2 _ rfl
    by_cases h0 : f.sp = 0
    · have HNO := Lib.hid (sfF_no (show sfB f k = false by unfold sfB; rw [h0]; simp))
      have h00 : (f.sp == 0) = true := by simp [h0]
      have e20 := N2.out.1 0 _ rfl
      have e21 := N2.out.1 1 _ rfl
      have e22 := N2.out.1 2 _ rfl
      have e23 := N2.out.1 3 _ rfl
      have e24 := N2.out.1 4 _ rfl
      have f20 := N2.out.2 0
      have f21 := N2.out.2 1
      have f22 := N2.out.2 2
      have f23 := N2.out.2 3
      have f24 := N2.out.2 4
      go_wp2
      have KS := N2.out.set5 (.int .i64 0) (.int .i64 0) (.int .i64 0) (.slice none 0 0) (.slice none 0 0)
      have k0 := KS.1 0 _ rfl
      have k1 := KS.1 1 _ rfl
      have k2 := KS.1 2 _ rfl
      have k3 := KS.1 3 _ rfl
      have k4 := KS.1 4 _ rfl
      refine bodyPost_ret (v := .tuple #[.agg #[.int .i64 0, .int .i64 0, .int .i64 0, .slice none 0 0, .slice none 0 0], .int .i64 0, .bool false]) (by rw [results_cell_tmp2 Try.results15]; simp [go_sem, k0, k1, k2, k3, k4]) rfl (ToFNB.none_ HNO.out (below_set5 HB.out (by omega) _ _ _ _ _))
    · have h00 : (f.sp == 0) = false := by simp [h0]
      rcases Bool.eq_false_or_eq_true (inB k 1 3600) with hk | hk
      · have HLB := Lib.hid (show sfB f k = true by unfold sfB; rw [hv, hk]; simp [h0])
        have HLV := Lib.hid (show sfF f k = (if (shOf f.sp f.sh).s + spkN f k = f.s then yieF (spkG f k) else spkG f k) by unfold sfF; rw [HLB.out]; rfl)
        have HLN := Lib.hid (show sfN f k = spkN f k by unfold sfN; rw [HLB.out]; rfl)
        have HSL := Lib.hid (shsB_len (vldF_parts hv).2.2.2.2.1)
        have HBD := Lib.hid (shOf_bd hv f.sp)
        have h10 : f.wt.length ≤ 10 := (vldF_parts hv).2.2.2.1
        have HST := Lib.hid (spk_t hv k)
        have hk2 : 1 ≤ k ∧ k ≤ 3600 := by unfold inB at hk; simpa using hk
        have HSN := Lib.hid (spk_n hv hk2.1)
        clear hv h0 hk2
        go_wp2_with (go_at_call 60; refine (inside_any k 1 3600 _).mono ?_; rintro e w2 ⟨rfl, rfl⟩; rw [hk])
        clear e02 h00 hk
        have hlo : w.heap.size + 2 ≤ w1.heap.size := hs
        have HA1 := Lib.hid (HA.out.below HB.out)
        have HD1 := Lib.hid (HD.out.below HB.out)
        have KS : ∀ {w' : World}, Below w1.heap.size w1 w' → (Below w1.heap.size w1 w' ∧ ∀ o, w'.cell? ⟨w.heap.size, o, none⟩ = w1.cell? ⟨w.heap.size, o, none⟩) := fun h => ⟨h, fun o => h.cell (p := ⟨w.heap.size, o, none⟩) (by show w.heap.size < _; omega)⟩
        go_upto_region 3 with fail
        go_cut [7, 8] (fun s t wx => ∃ (qa qb : Nat) (A1 : Option Addr) (c1 : Nat) (D1 : Option Addr) (d1 : Nat), s = .pointer (some ⟨qa, 0, none⟩) ∧ t = .pointer (some ⟨qb, 0, none⟩) ∧ BoxF wx qa [.int .i64 f.t, .int .i64 f.s, .int .i64 f.sp, .slice A1 f.wt.length c1, .slice D1 f.sh.length d1] ∧ Ty wx qa 29 ∧ BoxF wx qb [.int .i64 (shOf f.sp f.sh).m, .int .i64 (shOf f.sp f.sh).t, .int .i64 (shOf f.sp f.sh).s] ∧ Ty wx qb 43 ∧ wx.ownsRow w1.heap.size 3 1 (.slice A1 f.wt.length c1) f.wt.length (IntK.row f.wt) ∧ wx.ownsRow w1.heap.size 43 3 (.slice D1 f.sh.length d1) f.sh.length (ShareK.row f.sh) ∧ (Value.slice D1 f.sh.length d1).ownBlock ≠ some qb ∧ w1.heap.size ≤ qa ∧ w1.heap.size ≤ qb ∧ qa ≠ qb ∧ qa < wx.heap.size ∧ qb < wx.heap.size ∧ Below w1.heap.size w1 wx)
        case first =>
          have e00 := N0.out.1 0 _ rfl
          have e01 := N0.out.1 1 _ rfl
          have e02 := N0.out.1 2 _ rfl
          have e03 := N0.out.1 3 _ rfl
          have e04 := N0.out.1 4 _ rfl
          refine wp_region_noPanic ?_
          refine wp_region_held_drew (S := (fun w' => Below w1.heap.size w1 w' ∧ ∀ o, w'.cell? ⟨w.heap.size, o, none⟩ = w1.cell? ⟨w.heap.size, o, none⟩)) (by kernel_rfl) ?_ (fun hHeld => ?_)
          · ((try dsimp only); exact KS (Below.refl _ _).drew)
          generalize w1.drew = ud at *
          refine take_yes (i := 0) (d := 24) (v := ?_) rfl rfl (by kernel_rfl) (by kernel_rfl) (by kernel_rfl) (fun _ _ _ h => h) (by kernel_rfl) ?_ hHeld ?_
          rotate_left
          · (intro w hSw; (try dsimp only at hSw); go_simp; try (with_reducible rfl))
          try simp only [Act.put, List.setIfInBounds_toArray, List.set_cons_zero, List.set_cons_succ]
          refine take_yes (i := 2) (d := 26) (v := ?_) rfl rfl (by kernel_rfl) (by kernel_rfl) (by kernel_rfl) (fun _ _ _ h => h) (by kernel_rfl) ?_ hHeld ?_
          rotate_left
          · (intro w hSw; (try dsimp only at hSw); go_simp; try (with_reducible rfl))
          try simp only [Act.put, List.setIfInBounds_toArray, List.set_cons_zero, List.set_cons_succ]
          refine take_yes (i := 3) (d := 27) (v := ?_) rfl rfl (by kernel_rfl) (by kernel_rfl) (by kernel_rfl) (fun _ _ _ h => h) (by kernel_rfl) ?_ hHeld ?_
          rotate_left
          · (intro w hSw; (try dsimp only at hSw); go_simp; try (with_reducible rfl))
          try simp only [Act.put, List.setIfInBounds_toArray, List.set_cons_zero, List.set_cons_succ]
          refine take_yes (i := 4) (d := 28) (v := ?_) rfl rfl (by kernel_rfl) (by kernel_rfl) (by kernel_rfl) (fun _ _ _ h => h) (by kernel_rfl) ?_ hHeld ?_
          rotate_left
          · (intro w hSw; (try dsimp only at hSw); go_simp; try (with_reducible rfl))
          try simp only [Act.put, List.setIfInBounds_toArray, List.set_cons_zero, List.set_cons_succ]
          refine wpAnyH_ready (rs := [1, 6, 7]) (by kernel_rfl) (by simp) ?_
          refine AllReadyH.cons rfl (fun K hK => ?_) (AllReadyH.cons rfl (fun K hK => ?_) (AllReadyH.cons rfl (fun K hK => ?_) (AllReadyH.nil)))
          · go_simp
            (go_at_call 48; refine (newFloor_any A D c d f _ (HA1.out.below hHeld.1) hm0 (HD1.out.below hHeld.1) hn).mono ?_; rintro e y1 ⟨A1, c1, D1, d1, rfl, o1, o2, hb⟩; have hlw := hHeld.1.size; have HBN := Lib.hid (after hHeld.1 hb); have HBC := Lib.hid hb; have HOA := Lib.hid (show World.ownsRow y1 w1.heap.size 3 1 (.slice A1 f.wt.length c1) f.wt.length (IntK.row f.wt) from own_mono o1.1 hlw); have HOD := Lib.hid (show World.ownsRow y1 w1.heap.size 43 3 (.slice D1 f.sh.length d1) f.sh.length (ShareK.row f.sh) from own_mono o2.1 hlw); have HDL := Lib.hid (fun g hg => (o2.1.lt g hg).1); clear hb o1 o2)
            (first | refine hK.out _ _ ?_ (fun hHeld1 => ?_) | (go_wp2_with fail; refine hK.out _ _ ?_ (fun hHeld1 => ?_)))
            · ((try dsimp only); exact KS HBN.out)
            clear hK K hHeld
            have hHeld := hHeld1
            clear hHeld1
            try simp only [Act.put, List.setIfInBounds_toArray, List.set_cons_zero, List.set_cons_succ]
            refine wpAnyH_ready (rs := [5, 6, 7]) (by kernel_rfl) (by simp) ?_
            refine AllReadyH.cons rfl (fun K hK => ?_) (AllReadyH.cons rfl (fun K hK => ?_) (AllReadyH.cons rfl (fun K hK => ?_) (AllReadyH.nil)))
            · go_simp
              (go_at_call 61; refine (shareOf_any A D c d f f.sp _ (HD1.out.below hHeld.1) hn).mono ?_; rintro e y2 ⟨rfl, hb⟩; have HBN := Lib.hid (after hHeld.1 hb); have HBC := Lib.hid hb; clear hb)
              (first | refine hK.out _ _ ?_ (fun hHeld1 => ?_) | (go_wp2_with fail; refine hK.out _ _ ?_ (fun hHeld1 => ?_)))
              · ((try dsimp only); exact KS HBN.out)
              clear hK K hHeld
              have hHeld := hHeld1
              clear hHeld1
              try simp only [Act.put, List.setIfInBounds_toArray, List.set_cons_zero, List.set_cons_succ]
              replace HOA := Lib.hid (own_keep HOA.out HBC.out)
              replace HOD := Lib.hid (own_keep HOD.out HBC.out)
              refine wpAnyH_ready (rs := [6, 7]) (by kernel_rfl) (by simp) ?_
              refine AllReadyH.cons rfl (fun K hK => ?_) (AllReadyH.cons rfl (fun K hK => ?_) (AllReadyH.nil))
              · have HBP := Lib.hid hHeld.1
                try go_simp
                (first | refine hK.out _ _ ?_ (fun hHeld1 => ?_) | (go_wp2_with fail; refine hK.out _ _ ?_ (fun hHeld1 => ?_)))
                · ((try dsimp only); exact KS (HBP.out.alloc HBP.out.size _))
                clear hK K hHeld
                have hHeld := hHeld1
                clear hHeld1
                try simp only [Act.put, List.setIfInBounds_toArray, List.set_cons_zero, List.set_cons_succ]
                have hb := below1 y2 (.cells #[.int .i64 0, .int .i64 0, .int .i64 0, .slice none 0 0, .slice none 0 0] 29)
                replace HOA := Lib.hid (own_keep HOA.out hb)
                replace HOD := Lib.hid (own_keep HOD.out hb)
                have HQA := Lib.hid (BoxF.new5 y2 (.int .i64 0) (.int .i64 0) (.int .i64 0) (.slice none 0 0) (.slice none 0 0) 29 y2.heap.size rfl)
                have HTA := Lib.hid (show Ty (y2.alloc (.cells #[.int .i64 0, .int .i64 0, .int .i64 0, .slice none 0 0, .slice none 0 0] 29)) y2.heap.size 29 from ⟨_, _, heap_alloc_new y2 _⟩)
                have hqa : y2.heap.size < (y2.alloc (.cells #[.int .i64 0, .int .i64 0, .int .i64 0, .slice none 0 0, .slice none 0 0] 29)).heap.size := by simp
                have hBa := HBP.out.size
                clear hb HBP
                generalize (y2.alloc (.cells #[.int .i64 0, .int .i64 0, .int .i64 0, .slice none 0 0, .slice none 0 0] 29)) = y3 at hHeld HOA HOD HQA HTA hqa hBa ⊢
                generalize y2.heap.size = qa at hHeld HOA HOD HQA HTA hqa hBa ⊢
                refine wpAnyH_ready (rs := [7]) (by kernel_rfl) (by simp) ?_
                refine AllReadyH.cons rfl (fun K hK => ?_) (AllReadyH.nil)
                have HBP := Lib.hid hHeld.1
                have HODB := Lib.hid (fun g (hg : (Value.slice D1 f.sh.length d1).ownBlock = some g) => (HOD.out.lt g hg).2)
                try go_simp
                (first | refine hK.out _ _ ?_ (fun hHeld1 => ?_) | (go_wp2_with fail; refine hK.out _ _ ?_ (fun hHeld1 => ?_)))
                · ((try dsimp only); exact KS (HBP.out.alloc HBP.out.size _))
                clear hK K hHeld
                have hHeld := hHeld1
                clear hHeld1
                try simp only [Act.put, List.setIfInBounds_toArray, List.set_cons_zero, List.set_cons_succ]
                have hqq : qa ≠ y3.heap.size := by omega
                have hb := below1 y3 (.cells #[.int .i64 0, .int .i64 0, .int .i64 0] 43)
                replace HOA := Lib.hid (own_keep HOA.out hb)
                replace HOD := Lib.hid (own_keep HOD.out hb)
                replace HQA := Lib.hid (HQA.out.below hb hqa)
                replace HTA := Lib.hid (HTA.out.below hb hqa)
                replace hqa := Nat.lt_of_lt_of_le hqa (hb).size
                have HQB := Lib.hid (BoxF.new3 y3 (.int .i64 0) (.int .i64 0) (.int .i64 0) 43 y3.heap.size rfl)
                have HTB := Lib.hid (show Ty (y3.alloc (.cells #[.int .i64 0, .int .i64 0, .int .i64 0] 43)) y3.heap.size 43 from ⟨_, _, heap_alloc_new y3 _⟩)
                have hqb : y3.heap.size < (y3.alloc (.cells #[.int .i64 0, .int .i64 0, .int .i64 0] 43)).heap.size := by simp
                have hBb := HBP.out.size
                have HNQ : Hid ((Value.slice D1 f.sh.length d1).ownBlock ≠ some y3.heap.size) := Lib.hid (fun e => absurd (HODB.out _ e) (Nat.lt_irrefl _))
                clear hb HBP HODB
                generalize (y3.alloc (.cells #[.int .i64 0, .int .i64 0, .int .i64 0] 43)) = y4 at hHeld HOA HOD HQA HTA hqa hBa HQB HTB hqb hBb HNQ hqq ⊢
                generalize y3.heap.size = qb at hHeld HOA HOD HQA HTA hqa hBa HQB HTB hqb hBb HNQ hqq ⊢
                refine wpAnyH_ready (rs := [8]) (by kernel_rfl) (by simp) ?_
                refine AllReadyH.cons rfl (fun K hK => ?_) (AllReadyH.nil)
                have HBP := Lib.hid hHeld.1
                have hsc : y4.setCells qa 0 (#[.int .i64 f.t, .int .i64 f.s, .int .i64 f.sp, .slice A1 f.wt.length c1, .slice D1 f.sh.length d1] : Array Value).toList = (((((y4.setCell ⟨qa, 0, none⟩ (.int .i64 f.t)).setCell ⟨qa, 1, none⟩ (.int .i64 f.s)).setCell ⟨qa, 2, none⟩ (.int .i64 f.sp)).setCell ⟨qa, 3, none⟩ (.slice A1 f.wt.length c1)).setCell ⟨qa, 4, none⟩ (.slice D1 f.sh.length d1)) := rfl
                rw [if_pos (by kernel_rfl)]
                refine wp_store_mid 29 _ _ (by rfl) qa 0 #[.int .i64 f.t, .int .i64 f.s, .int .i64 f.sp, .slice A1 f.wt.length c1, .slice D1 f.sh.length d1] (by rfl) (by rfl) HQA.out.there (by kernel_rfl) (by simp [Value.oneCell']) ?_
                rw [hsc]
                clear hsc
                (first | refine hK.out _ _ ?_ (fun hHeld1 => ?_) | (go_wp2_with fail; refine hK.out _ _ ?_ (fun hHeld1 => ?_)))
                · ((try dsimp only); exact KS ((((((HBP.out.setCell hBa _).setCell hBa _).setCell hBa _).setCell hBa _).setCell hBa _)))
                clear hK K hHeld
                have hHeld := hHeld1
                clear hHeld1
                try simp only [Act.put, List.setIfInBounds_toArray, List.set_cons_zero, List.set_cons_succ]
                have HBN := Lib.hid hHeld.1
                have hoa := HTA.out.off HOA.out (by decide)
                have hod := HTA.out.off HOD.out (by decide)
                replace HOA := Lib.hid (own_off5 HOA.out hoa (.int .i64 f.t) (.int .i64 f.s) (.int .i64 f.sp) (.slice A1 f.wt.length c1) (.slice D1 f.sh.length d1))
                replace HOD := Lib.hid (own_off5 HOD.out hod (.int .i64 f.t) (.int .i64 f.s) (.int .i64 f.sp) (.slice A1 f.wt.length c1) (.slice D1 f.sh.length d1))
                replace HQA := Lib.hid (HQA.out.set5 (.int .i64 f.t) (.int .i64 f.s) (.int .i64 f.sp) (.slice A1 f.wt.length c1) (.slice D1 f.sh.length d1))
                replace HTA := Lib.hid ((((((HTA.out.set ⟨qa, 0, none⟩ (.int .i64 f.t)).set ⟨qa, 1, none⟩ (.int .i64 f.s)).set ⟨qa, 2, none⟩ (.int .i64 f.sp)).set ⟨qa, 3, none⟩ (.slice A1 f.wt.length c1)).set ⟨qa, 4, none⟩ (.slice D1 f.sh.length d1)))
                replace HTB := Lib.hid ((((((HTB.out.set ⟨qa, 0, none⟩ (.int .i64 f.t)).set ⟨qa, 1, none⟩ (.int .i64 f.s)).set ⟨qa, 2, none⟩ (.int .i64 f.sp)).set ⟨qa, 3, none⟩ (.slice A1 f.wt.length c1)).set ⟨qa, 4, none⟩ (.slice D1 f.sh.length d1)))
                replace HQB := Lib.hid ((((((HQB.out.far ⟨qa, 0, none⟩ (.int .i64 f.t) (Ne.symm hqq)).far ⟨qa, 1, none⟩ (.int .i64 f.s) (Ne.symm hqq)).far ⟨qa, 2, none⟩ (.int .i64 f.sp) (Ne.symm hqq)).far ⟨qa, 3, none⟩ (.slice A1 f.wt.length c1) (Ne.symm hqq)).far ⟨qa, 4, none⟩ (.slice D1 f.sh.length d1) (Ne.symm hqq)))
                clear hoa hod HBP
                replace hqa : qa < (((((y4.setCell ⟨qa, 0, none⟩ (.int .i64 f.t)).setCell ⟨qa, 1, none⟩ (.int .i64 f.s)).setCell ⟨qa, 2, none⟩ (.int .i64 f.sp)).setCell ⟨qa, 3, none⟩ (.slice A1 f.wt.length c1)).setCell ⟨qa, 4, none⟩ (.slice D1 f.sh.length d1)).heap.size := by simpa using hqa
                replace hqb : qb < (((((y4.setCell ⟨qa, 0, none⟩ (.int .i64 f.t)).setCell ⟨qa, 1, none⟩ (.int .i64 f.s)).setCell ⟨qa, 2, none⟩ (.int .i64 f.sp)).setCell ⟨qa, 3, none⟩ (.slice A1 f.wt.length c1)).setCell ⟨qa, 4, none⟩ (.slice D1 f.sh.length d1)).heap.size := by simpa using hqb
                generalize (((((y4.setCell ⟨qa, 0, none⟩ (.int .i64 f.t)).setCell ⟨qa, 1, none⟩ (.int .i64 f.s)).setCell ⟨qa, 2, none⟩ (.int .i64 f.sp)).setCell ⟨qa, 3, none⟩ (.slice A1 f.wt.length c1)).setCell ⟨qa, 4, none⟩ (.slice D1 f.sh.length d1)) = y5 at hHeld HBN HOA HOD HQA HTA hqa HQB HTB hqb ⊢
                refine wpAnyH_ready (rs := [9]) (by kernel_rfl) (by simp) ?_
                refine AllReadyH.cons rfl (fun K hK => ?_) (AllReadyH.nil)
                have HBP := Lib.hid hHeld.1
                have hsc : y5.setCells qb 0 (#[.int .i64 (shOf f.sp f.sh).m, .int .i64 (shOf f.sp f.sh).t, .int .i64 (shOf f.sp f.sh).s] : Array Value).toList = (((y5.setCell ⟨qb, 0, none⟩ (.int .i64 (shOf f.sp f.sh).m)).setCell ⟨qb, 1, none⟩ (.int .i64 (shOf f.sp f.sh).t)).setCell ⟨qb, 2, none⟩ (.int .i64 (shOf f.sp f.sh).s)) := rfl
                rw [if_pos (by kernel_rfl)]
                refine wp_store_mid 43 _ _ (by rfl) qb 0 #[.int .i64 (shOf f.sp f.sh).m, .int .i64 (shOf f.sp f.sh).t, .int .i64 (shOf f.sp f.sh).s] (by rfl) (by rfl) HQB.out.there (by kernel_rfl) (by simp [Value.oneCell']) ?_
                rw [hsc]
                clear hsc
                (first | refine hK.out _ _ ?_ (fun hHeld1 => ?_) | (go_wp2_with fail; refine hK.out _ _ ?_ (fun hHeld1 => ?_)))
                · ((try dsimp only); exact KS ((((HBP.out.setCell hBb _).setCell hBb _).setCell hBb _)))
                clear hK K hHeld
                have hHeld := hHeld1
                clear hHeld1
                try simp only [Act.put, List.setIfInBounds_toArray, List.set_cons_zero, List.set_cons_succ]
                have HBN := Lib.hid hHeld.1
                have hoa := HTB.out.off HOA.out (by decide)
                have hod := HNQ.out
                replace HOA := Lib.hid (own_off3 HOA.out hoa (.int .i64 (shOf f.sp f.sh).m) (.int .i64 (shOf f.sp f.sh).t) (.int .i64 (shOf f.sp f.sh).s))
                replace HOD := Lib.hid (own_off3 HOD.out hod (.int .i64 (shOf f.sp f.sh).m) (.int .i64 (shOf f.sp f.sh).t) (.int .i64 (shOf f.sp f.sh).s))
                replace HQB := Lib.hid (HQB.out.set3 (.int .i64 (shOf f.sp f.sh).m) (.int .i64 (shOf f.sp f.sh).t) (.int .i64 (shOf f.sp f.sh).s))
                replace HTB := Lib.hid ((((HTB.out.set ⟨qb, 0, none⟩ (.int .i64 (shOf f.sp f.sh).m)).set ⟨qb, 1, none⟩ (.int .i64 (shOf f.sp f.sh).t)).set ⟨qb, 2, none⟩ (.int .i64 (shOf f.sp f.sh).s)))
                replace HTA := Lib.hid ((((HTA.out.set ⟨qb, 0, none⟩ (.int .i64 (shOf f.sp f.sh).m)).set ⟨qb, 1, none⟩ (.int .i64 (shOf f.sp f.sh).t)).set ⟨qb, 2, none⟩ (.int .i64 (shOf f.sp f.sh).s)))
                replace HQA := Lib.hid ((((HQA.out.far ⟨qb, 0, none⟩ (.int .i64 (shOf f.sp f.sh).m) hqq).far ⟨qb, 1, none⟩ (.int .i64 (shOf f.sp f.sh).t) hqq).far ⟨qb, 2, none⟩ (.int .i64 (shOf f.sp f.sh).s) hqq))
                clear hoa hod HBP
                replace hqa : qa < (((y5.setCell ⟨qb, 0, none⟩ (.int .i64 (shOf f.sp f.sh).m)).setCell ⟨qb, 1, none⟩ (.int .i64 (shOf f.sp f.sh).t)).setCell ⟨qb, 2, none⟩ (.int .i64 (shOf f.sp f.sh).s)).heap.size := by simpa using hqa
                replace hqb : qb < (((y5.setCell ⟨qb, 0, none⟩ (.int .i64 (shOf f.sp f.sh).m)).setCell ⟨qb, 1, none⟩ (.int .i64 (shOf f.sp f.sh).t)).setCell ⟨qb, 2, none⟩ (.int .i64 (shOf f.sp f.sh).s)).heap.size := by simpa using hqb
                generalize (((y5.setCell ⟨qb, 0, none⟩ (.int .i64 (shOf f.sp f.sh).m)).setCell ⟨qb, 1, none⟩ (.int .i64 (shOf f.sp f.sh).t)).setCell ⟨qb, 2, none⟩ (.int .i64 (shOf f.sp f.sh).s)) = y6 at hHeld HBN HOA HOD HQA HTA hqa HQB HTB hqb ⊢
                refine wpAnyH_done (by kernel_rfl) ?_ _
                refine NoPanic.normal ?_
                clear hHeld
                go_wp2_with fail
                go_meet
                exact ⟨qa, qb, A1, c1, D1, d1, rfl, rfl, HQA.out, HTA.out, HQB.out, HTB.out, HOA.out, HOD.out, HNQ.out, hBa, hBb, hqq, hqa, hqb, HBN.out⟩
              · have HBP := Lib.hid hHeld.1
                have HODB := Lib.hid (fun g (hg : (Value.slice D1 f.sh.length d1).ownBlock = some g) => (HOD.out.lt g hg).2)
                try go_simp
                (first | refine hK.out _ _ ?_ (fun hHeld1 => ?_) | (go_wp2_with fail; refine hK.out _ _ ?_ (fun hHeld1 => ?_)))
                · ((try dsimp only); exact KS (HBP.out.alloc HBP.out.size _))
                clear hK K hHeld
                have hHeld := hHeld1
                clear hHeld1
                try simp only [Act.put, List.setIfInBounds_toArray, List.set_cons_zero, List.set_cons_succ]
                have hb := below1 y2 (.cells #[.int .i64 0, .int .i64 0, .int .i64 0] 43)
                replace HOA := Lib.hid (own_keep HOA.out hb)
                replace HOD := Lib.hid (own_keep HOD.out hb)
                have HQB := Lib.hid (BoxF.new3 y2 (.int .i64 0) (.int .i64 0) (.int .i64 0) 43 y2.heap.size rfl)
                have HTB := Lib.hid (show Ty (y2.alloc (.cells #[.int .i64 0, .int .i64 0, .int .i64 0] 43)) y2.heap.size 43 from ⟨_, _, heap_alloc_new y2 _⟩)
                have hqb : y2.heap.size < (y2.alloc (.cells #[.int .i64 0, .int .i64 0, .int .i64 0] 43)).heap.size := by simp
                have hBb := HBP.out.size
                have HNQ : Hid ((Value.slice D1 f.sh.length d1).ownBlock ≠ some y2.heap.size) := Lib.hid (fun e => absurd (HODB.out _ e) (Nat.lt_irrefl _))
                clear hb HBP HODB
                generalize (y2.alloc (.cells #[.int .i64 0, .int .i64 0, .int .i64 0] 43)) = y3 at hHeld HOA HOD HQB HTB hqb hBb HNQ ⊢
                generalize y2.heap.size = qb at hHeld HOA HOD HQB HTB hqb hBb HNQ ⊢
                refine wpAnyH_ready (rs := [6]) (by kernel_rfl) (by simp) ?_
                refine AllReadyH.cons rfl (fun K hK => ?_) (AllReadyH.nil)
                have HBP := Lib.hid hHeld.1
                try go_simp
                (first | refine hK.out _ _ ?_ (fun hHeld1 => ?_) | (go_wp2_with fail; refine hK.out _ _ ?_ (fun hHeld1 => ?_)))
                · ((try dsimp only); exact KS (HBP.out.alloc HBP.out.size _))
                clear hK K hHeld
                have hHeld := hHeld1
                clear hHeld1
                try simp only [Act.put, List.setIfInBounds_toArray, List.set_cons_zero, List.set_cons_succ]
                have hqq : y3.heap.size ≠ qb := by omega
                have hb := below1 y3 (.cells #[.int .i64 0, .int .i64 0, .int .i64 0, .slice none 0 0, .slice none 0 0] 29)
                replace HOA := Lib.hid (own_keep HOA.out hb)
                replace HOD := Lib.hid (own_keep HOD.out hb)
                replace HQB := Lib.hid (HQB.out.below hb hqb)
                replace HTB := Lib.hid (HTB.out.below hb hqb)
                replace hqb := Nat.lt_of_lt_of_le hqb (hb).size
                have HQA := Lib.hid (BoxF.new5 y3 (.int .i64 0) (.int .i64 0) (.int .i64 0) (.slice none 0 0) (.slice none 0 0) 29 y3.heap.size rfl)
                have HTA := Lib.hid (show Ty (y3.alloc (.cells #[.int .i64 0, .int .i64 0, .int .i64 0, .slice none 0 0, .slice none 0 0] 29)) y3.heap.size 29 from ⟨_, _, heap_alloc_new y3 _⟩)
                have hqa : y3.heap.size < (y3.alloc (.cells #[.int .i64 0, .int .i64 0, .int .i64 0, .slice none 0 0, .slice none 0 0] 29)).heap.size := by simp
                have hBa := HBP.out.size
                clear hb HBP
                generalize (y3.alloc (.cells #[.int .i64 0, .int .i64 0, .int .i64 0, .slice none 0 0, .slice none 0 0] 29)) = y4 at hHeld HOA HOD HQA HTA hqa hBa HQB HTB hqb hBb HNQ hqq ⊢
                generalize y3.heap.size = qa at hHeld HOA HOD HQA HTA hqa hBa HQB HTB hqb hBb HNQ hqq ⊢
                refine wpAnyH_ready (rs := [8]) (by kernel_rfl) (by simp) ?_
                refine AllReadyH.cons rfl (fun K hK => ?_) (AllReadyH.nil)
                have HBP := Lib.hid hHeld.1
                have hsc : y4.setCells qa 0 (#[.int .i64 f.t, .int .i64 f.s, .int .i64 f.sp, .slice A1 f.wt.length c1, .slice D1 f.sh.length d1] : Array Value).toList = (((((y4.setCell ⟨qa, 0, none⟩ (.int .i64 f.t)).setCell ⟨qa, 1, none⟩ (.int .i64 f.s)).setCell ⟨qa, 2, none⟩ (.int .i64 f.sp)).setCell ⟨qa, 3, none⟩ (.slice A1 f.wt.length c1)).setCell ⟨qa, 4, none⟩ (.slice D1 f.sh.length d1)) := rfl
                rw [if_pos (by kernel_rfl)]
                refine wp_store_mid 29 _ _ (by rfl) qa 0 #[.int .i64 f.t, .int .i64 f.s, .int .i64 f.sp, .slice A1 f.wt.length c1, .slice D1 f.sh.length d1] (by rfl) (by rfl) HQA.out.there (by kernel_rfl) (by simp [Value.oneCell']) ?_
                rw [hsc]
                clear hsc
                (first | refine hK.out _ _ ?_ (fun hHeld1 => ?_) | (go_wp2_with fail; refine hK.out _ _ ?_ (fun hHeld1 => ?_)))
                · ((try dsimp only); exact KS ((((((HBP.out.setCell hBa _).setCell hBa _).setCell hBa _).setCell hBa _).setCell hBa _)))
                clear hK K hHeld
                have hHeld := hHeld1
                clear hHeld1
                try simp only [Act.put, List.setIfInBounds_toArray, List.set_cons_zero, List.set_cons_succ]
                have HBN := Lib.hid hHeld.1
                have hoa := HTA.out.off HOA.out (by decide)
                have hod := HTA.out.off HOD.out (by decide)
                replace HOA := Lib.hid (own_off5 HOA.out hoa (.int .i64 f.t) (.int .i64 f.s) (.int .i64 f.sp) (.slice A1 f.wt.length c1) (.slice D1 f.sh.length d1))
                replace HOD := Lib.hid (own_off5 HOD.out hod (.int .i64 f.t) (.int .i64 f.s) (.int .i64 f.sp) (.slice A1 f.wt.length c1) (.slice D1 f.sh.length d1))
                replace HQA := Lib.hid (HQA.out.set5 (.int .i64 f.t) (.int .i64 f.s) (.int .i64 f.sp) (.slice A1 f.wt.length c1) (.slice D1 f.sh.length d1))
                replace HTA := Lib.hid ((((((HTA.out.set ⟨qa, 0, none⟩ (.int .i64 f.t)).set ⟨qa, 1, none⟩ (.int .i64 f.s)).set ⟨qa, 2, none⟩ (.int .i64 f.sp)).set ⟨qa, 3, none⟩ (.slice A1 f.wt.length c1)).set ⟨qa, 4, none⟩ (.slice D1 f.sh.length d1)))
                replace HTB := Lib.hid ((((((HTB.out.set ⟨qa, 0, none⟩ (.int .i64 f.t)).set ⟨qa, 1, none⟩ (.int .i64 f.s)).set ⟨qa, 2, none⟩ (.int .i64 f.sp)).set ⟨qa, 3, none⟩ (.slice A1 f.wt.length c1)).set ⟨qa, 4, none⟩ (.slice D1 f.sh.length d1)))
                replace HQB := Lib.hid ((((((HQB.out.far ⟨qa, 0, none⟩ (.int .i64 f.t) (Ne.symm hqq)).far ⟨qa, 1, none⟩ (.int .i64 f.s) (Ne.symm hqq)).far ⟨qa, 2, none⟩ (.int .i64 f.sp) (Ne.symm hqq)).far ⟨qa, 3, none⟩ (.slice A1 f.wt.length c1) (Ne.symm hqq)).far ⟨qa, 4, none⟩ (.slice D1 f.sh.length d1) (Ne.symm hqq)))
                clear hoa hod HBP
                replace hqa : qa < (((((y4.setCell ⟨qa, 0, none⟩ (.int .i64 f.t)).setCell ⟨qa, 1, none⟩ (.int .i64 f.s)).setCell ⟨qa, 2, none⟩ (.int .i64 f.sp)).setCell ⟨qa, 3, none⟩ (.slice A1 f.wt.length c1)).setCell ⟨qa, 4, none⟩ (.slice D1 f.sh.length d1)).heap.size := by simpa using hqa
                replace hqb : qb < (((((y4.setCell ⟨qa, 0, none⟩ (.int .i64 f.t)).setCell ⟨qa, 1, none⟩ (.int .i64 f.s)).setCell ⟨qa, 2, none⟩ (.int .i64 f.sp)).setCell ⟨qa, 3, none⟩ (.slice A1 f.wt.length c1)).setCell ⟨qa, 4, none⟩ (.slice D1 f.sh.length d1)).heap.size := by simpa using hqb
                generalize (((((y4.setCell ⟨qa, 0, none⟩ (.int .i64 f.t)).setCell ⟨qa, 1, none⟩ (.int .i64 f.s)).setCell ⟨qa, 2, none⟩ (.int .i64 f.sp)).setCell ⟨qa, 3, none⟩ (.slice A1 f.wt.length c1)).setCell ⟨qa, 4, none⟩ (.slice D1 f.sh.length d1)) = y5 at hHeld HBN HOA HOD HQA HTA hqa HQB HTB hqb ⊢
                refine wpAnyH_ready (rs := [9]) (by kernel_rfl) (by simp) ?_
                refine AllReadyH.cons rfl (fun K hK => ?_) (AllReadyH.nil)
                have HBP := Lib.hid hHeld.1
                have hsc : y5.setCells qb 0 (#[.int .i64 (shOf f.sp f.sh).m, .int .i64 (shOf f.sp f.sh).t, .int .i64 (shOf f.sp f.sh).s] : Array Value).toList = (((y5.setCell ⟨qb, 0, none⟩ (.int .i64 (shOf f.sp f.sh).m)).setCell ⟨qb, 1, none⟩ (.int .i64 (shOf f.sp f.sh).t)).setCell ⟨qb, 2, none⟩ (.int .i64 (shOf f.sp f.sh).s)) := rfl
                rw [if_pos (by kernel_rfl)]
                refine wp_store_mid 43 _ _ (by rfl) qb 0 #[.int .i64 (shOf f.sp f.sh).m, .int .i64 (shOf f.sp f.sh).t, .int .i64 (shOf f.sp f.sh).s] (by rfl) (by rfl) HQB.out.there (by kernel_rfl) (by simp [Value.oneCell']) ?_
                rw [hsc]
                clear hsc
                (first | refine hK.out _ _ ?_ (fun hHeld1 => ?_) | (go_wp2_with fail; refine hK.out _ _ ?_ (fun hHeld1 => ?_)))
                · ((try dsimp only); exact KS ((((HBP.out.setCell hBb _).setCell hBb _).setCell hBb _)))
                clear hK K hHeld
                have hHeld := hHeld1
                clear hHeld1
                try simp only [Act.put, List.setIfInBounds_toArray, List.set_cons_zero, List.set_cons_succ]
                have HBN := Lib.hid hHeld.1
                have hoa := HTB.out.off HOA.out (by decide)
                have hod := HNQ.out
                replace HOA := Lib.hid (own_off3 HOA.out hoa (.int .i64 (shOf f.sp f.sh).m) (.int .i64 (shOf f.sp f.sh).t) (.int .i64 (shOf f.sp f.sh).s))
                replace HOD := Lib.hid (own_off3 HOD.out hod (.int .i64 (shOf f.sp f.sh).m) (.int .i64 (shOf f.sp f.sh).t) (.int .i64 (shOf f.sp f.sh).s))
                replace HQB := Lib.hid (HQB.out.set3 (.int .i64 (shOf f.sp f.sh).m) (.int .i64 (shOf f.sp f.sh).t) (.int .i64 (shOf f.sp f.sh).s))
                replace HTB := Lib.hid ((((HTB.out.set ⟨qb, 0, none⟩ (.int .i64 (shOf f.sp f.sh).m)).set ⟨qb, 1, none⟩ (.int .i64 (shOf f.sp f.sh).t)).set ⟨qb, 2, none⟩ (.int .i64 (shOf f.sp f.sh).s)))
                replace HTA := Lib.hid ((((HTA.out.set ⟨qb, 0, none⟩ (.int .i64 (shOf f.sp f.sh).m)).set ⟨qb, 1, none⟩ (.int .i64 (shOf f.sp f.sh).t)).set ⟨qb, 2, none⟩ (.int .i64 (shOf f.sp f.sh).s)))
                replace HQA := Lib.hid ((((HQA.out.far ⟨qb, 0, none⟩ (.int .i64 (shOf f.sp f.sh).m) hqq).far ⟨qb, 1, none⟩ (.int .i64 (shOf f.sp f.sh).t) hqq).far ⟨qb, 2, none⟩ (.int .i64 (shOf f.sp f.sh).s) hqq))
                clear hoa hod HBP
                replace hqa : qa < (((y5.setCell ⟨qb, 0, none⟩ (.int .i64 (shOf f.sp f.sh).m)).setCell ⟨qb, 1, none⟩ (.int .i64 (shOf f.sp f.sh).t)).setCell ⟨qb, 2, none⟩ (.int .i64 (shOf f.sp f.sh).s)).heap.size := by simpa using hqa
                replace hqb : qb < (((y5.setCell ⟨qb, 0, none⟩ (.int .i64 (shOf f.sp f.sh).m)).setCell ⟨qb, 1, none⟩ (.int .i64 (shOf f.sp f.sh).t)).setCell ⟨qb, 2, none⟩ (.int .i64 (shOf f.sp f.sh).s)).heap.size := by simpa using hqb
                generalize (((y5.setCell ⟨qb, 0, none⟩ (.int .i64 (shOf f.sp f.sh).m)).setCell ⟨qb, 1, none⟩ (.int .i64 (shOf f.sp f.sh).t)).setCell ⟨qb, 2, none⟩ (.int .i64 (shOf f.sp f.sh).s)) = y6 at hHeld HBN HOA HOD HQA HTA hqa HQB HTB hqb ⊢
                refine wpAnyH_done (by kernel_rfl) ?_ _
                refine NoPanic.normal ?_
                clear hHeld
                go_wp2_with fail
                go_meet
                exact ⟨qa, qb, A1, c1, D1, d1, rfl, rfl, HQA.out, HTA.out, HQB.out, HTB.out, HOA.out, HOD.out, HNQ.out, hBa, hBb, hqq, hqa, hqb, HBN.out⟩
            · have HBP := Lib.hid hHeld.1
              try go_simp
              (first | refine hK.out _ _ ?_ (fun hHeld1 => ?_) | (go_wp2_with fail; refine hK.out _ _ ?_ (fun hHeld1 => ?_)))
              · ((try dsimp only); exact KS (HBP.out.alloc HBP.out.size _))
              clear hK K hHeld
              have hHeld := hHeld1
              clear hHeld1
              try simp only [Act.put, List.setIfInBounds_toArray, List.set_cons_zero, List.set_cons_succ]
              have hb := below1 y1 (.cells #[.int .i64 0, .int .i64 0, .int .i64 0, .slice none 0 0, .slice none 0 0] 29)
              replace HOA := Lib.hid (own_keep HOA.out hb)
              replace HOD := Lib.hid (own_keep HOD.out hb)
              have HQA := Lib.hid (BoxF.new5 y1 (.int .i64 0) (.int .i64 0) (.int .i64 0) (.slice none 0 0) (.slice none 0 0) 29 y1.heap.size rfl)
              have HTA := Lib.hid (show Ty (y1.alloc (.cells #[.int .i64 0, .int .i64 0, .int .i64 0, .slice none 0 0, .slice none 0 0] 29)) y1.heap.size 29 from ⟨_, _, heap_alloc_new y1 _⟩)
              have hqa : y1.heap.size < (y1.alloc (.cells #[.int .i64 0, .int .i64 0, .int .i64 0, .slice none 0 0, .slice none 0 0] 29)).heap.size := by simp
              have hBa := HBP.out.size
              clear hb HBP
              generalize (y1.alloc (.cells #[.int .i64 0, .int .i64 0, .int .i64 0, .slice none 0 0, .slice none 0 0] 29)) = y2 at hHeld HOA HOD HQA HTA hqa hBa ⊢
              generalize y1.heap.size = qa at hHeld HOA HOD HQA HTA hqa hBa ⊢
              refine wpAnyH_ready (rs := [5, 7]) (by kernel_rfl) (by simp) ?_
              refine AllReadyH.cons rfl (fun K hK => ?_) (AllReadyH.cons rfl (fun K hK => ?_) (AllReadyH.nil))
              · go_simp
                (go_at_call 61; refine (shareOf_any A D c d f f.sp _ (HD1.out.below hHeld.1) hn).mono ?_; rintro e y3 ⟨rfl, hb⟩; have HBN := Lib.hid (after hHeld.1 hb); have HBC := Lib.hid hb; clear hb)
                (first | refine hK.out _ _ ?_ (fun hHeld1 => ?_) | (go_wp2_with fail; refine hK.out _ _ ?_ (fun hHeld1 => ?_)))
                · ((try dsimp only); exact KS HBN.out)
                clear hK K hHeld
                have hHeld := hHeld1
                clear hHeld1
                try simp only [Act.put, List.setIfInBounds_toArray, List.set_cons_zero, List.set_cons_succ]
                replace HOA := Lib.hid (own_keep HOA.out HBC.out)
                replace HOD := Lib.hid (own_keep HOD.out HBC.out)
                replace HQA := Lib.hid (HQA.out.below HBC.out hqa)
                replace HTA := Lib.hid (HTA.out.below HBC.out hqa)
                replace hqa := Nat.lt_of_lt_of_le hqa (HBC.out).size
                refine wpAnyH_ready (rs := [7]) (by kernel_rfl) (by simp) ?_
                refine AllReadyH.cons rfl (fun K hK => ?_) (AllReadyH.nil)
                have HBP := Lib.hid hHeld.1
                have HODB := Lib.hid (fun g (hg : (Value.slice D1 f.sh.length d1).ownBlock = some g) => (HOD.out.lt g hg).2)
                try go_simp
                (first | refine hK.out _ _ ?_ (fun hHeld1 => ?_) | (go_wp2_with fail; refine hK.out _ _ ?_ (fun hHeld1 => ?_)))
                · ((try dsimp only); exact KS (HBP.out.alloc HBP.out.size _))
                clear hK K hHeld
                have hHeld := hHeld1
                clear hHeld1
                try simp only [Act.put, List.setIfInBounds_toArray, List.set_cons_zero, List.set_cons_succ]
                have hqq : qa ≠ y3.heap.size := by omega
                have hb := below1 y3 (.cells #[.int .i64 0, .int .i64 0, .int .i64 0] 43)
                replace HOA := Lib.hid (own_keep HOA.out hb)
                replace HOD := Lib.hid (own_keep HOD.out hb)
                replace HQA := Lib.hid (HQA.out.below hb hqa)
                replace HTA := Lib.hid (HTA.out.below hb hqa)
                replace hqa := Nat.lt_of_lt_of_le hqa (hb).size
                have HQB := Lib.hid (BoxF.new3 y3 (.int .i64 0) (.int .i64 0) (.int .i64 0) 43 y3.heap.size rfl)
                have HTB := Lib.hid (show Ty (y3.alloc (.cells #[.int .i64 0, .int .i64 0, .int .i64 0] 43)) y3.heap.size 43 from ⟨_, _, heap_alloc_new y3 _⟩)
                have hqb : y3.heap.size < (y3.alloc (.cells #[.int .i64 0, .int .i64 0, .int .i64 0] 43)).heap.size := by simp
                have hBb := HBP.out.size
                have HNQ : Hid ((Value.slice D1 f.sh.length d1).ownBlock ≠ some y3.heap.size) := Lib.hid (fun e => absurd (HODB.out _ e) (Nat.lt_irrefl _))
                clear hb HBP HODB
                generalize (y3.alloc (.cells #[.int .i64 0, .int .i64 0, .int .i64 0] 43)) = y4 at hHeld HOA HOD HQA HTA hqa hBa HQB HTB hqb hBb HNQ hqq ⊢
                generalize y3.heap.size = qb at hHeld HOA HOD HQA HTA hqa hBa HQB HTB hqb hBb HNQ hqq ⊢
                refine wpAnyH_ready (rs := [8]) (by kernel_rfl) (by simp) ?_
                refine AllReadyH.cons rfl (fun K hK => ?_) (AllReadyH.nil)
                have HBP := Lib.hid hHeld.1
                have hsc : y4.setCells qa 0 (#[.int .i64 f.t, .int .i64 f.s, .int .i64 f.sp, .slice A1 f.wt.length c1, .slice D1 f.sh.length d1] : Array Value).toList = (((((y4.setCell ⟨qa, 0, none⟩ (.int .i64 f.t)).setCell ⟨qa, 1, none⟩ (.int .i64 f.s)).setCell ⟨qa, 2, none⟩ (.int .i64 f.sp)).setCell ⟨qa, 3, none⟩ (.slice A1 f.wt.length c1)).setCell ⟨qa, 4, none⟩ (.slice D1 f.sh.length d1)) := rfl
                rw [if_pos (by kernel_rfl)]
                refine wp_store_mid 29 _ _ (by rfl) qa 0 #[.int .i64 f.t, .int .i64 f.s, .int .i64 f.sp, .slice A1 f.wt.length c1, .slice D1 f.sh.length d1] (by rfl) (by rfl) HQA.out.there (by kernel_rfl) (by simp [Value.oneCell']) ?_
                rw [hsc]
                clear hsc
                (first | refine hK.out _ _ ?_ (fun hHeld1 => ?_) | (go_wp2_with fail; refine hK.out _ _ ?_ (fun hHeld1 => ?_)))
                · ((try dsimp only); exact KS ((((((HBP.out.setCell hBa _).setCell hBa _).setCell hBa _).setCell hBa _).setCell hBa _)))
                clear hK K hHeld
                have hHeld := hHeld1
                clear hHeld1
                try simp only [Act.put, List.setIfInBounds_toArray, List.set_cons_zero, List.set_cons_succ]
                have HBN := Lib.hid hHeld.1
                have hoa := HTA.out.off HOA.out (by decide)
                have hod := HTA.out.off HOD.out (by decide)
                replace HOA := Lib.hid (own_off5 HOA.out hoa (.int .i64 f.t) (.int .i64 f.s) (.int .i64 f.sp) (.slice A1 f.wt.length c1) (.slice D1 f.sh.length d1))
                replace HOD := Lib.hid (own_off5 HOD.out hod (.int .i64 f.t) (.int .i64 f.s) (.int .i64 f.sp) (.slice A1 f.wt.length c1) (.slice D1 f.sh.length d1))
                replace HQA := Lib.hid (HQA.out.set5 (.int .i64 f.t) (.int .i64 f.s) (.int .i64 f.sp) (.slice A1 f.wt.length c1) (.slice D1 f.sh.length d1))
                replace HTA := Lib.hid ((((((HTA.out.set ⟨qa, 0, none⟩ (.int .i64 f.t)).set ⟨qa, 1, none⟩ (.int .i64 f.s)).set ⟨qa, 2, none⟩ (.int .i64 f.sp)).set ⟨qa, 3, none⟩ (.slice A1 f.wt.length c1)).set ⟨qa, 4, none⟩ (.slice D1 f.sh.length d1)))
                replace HTB := Lib.hid ((((((HTB.out.set ⟨qa, 0, none⟩ (.int .i64 f.t)).set ⟨qa, 1, none⟩ (.int .i64 f.s)).set ⟨qa, 2, none⟩ (.int .i64 f.sp)).set ⟨qa, 3, none⟩ (.slice A1 f.wt.length c1)).set ⟨qa, 4, none⟩ (.slice D1 f.sh.length d1)))
                replace HQB := Lib.hid ((((((HQB.out.far ⟨qa, 0, none⟩ (.int .i64 f.t) (Ne.symm hqq)).far ⟨qa, 1, none⟩ (.int .i64 f.s) (Ne.symm hqq)).far ⟨qa, 2, none⟩ (.int .i64 f.sp) (Ne.symm hqq)).far ⟨qa, 3, none⟩ (.slice A1 f.wt.length c1) (Ne.symm hqq)).far ⟨qa, 4, none⟩ (.slice D1 f.sh.length d1) (Ne.symm hqq)))
                clear hoa hod HBP
                replace hqa : qa < (((((y4.setCell ⟨qa, 0, none⟩ (.int .i64 f.t)).setCell ⟨qa, 1, none⟩ (.int .i64 f.s)).setCell ⟨qa, 2, none⟩ (.int .i64 f.sp)).setCell ⟨qa, 3, none⟩ (.slice A1 f.wt.length c1)).setCell ⟨qa, 4, none⟩ (.slice D1 f.sh.length d1)).heap.size := by simpa using hqa
                replace hqb : qb < (((((y4.setCell ⟨qa, 0, none⟩ (.int .i64 f.t)).setCell ⟨qa, 1, none⟩ (.int .i64 f.s)).setCell ⟨qa, 2, none⟩ (.int .i64 f.sp)).setCell ⟨qa, 3, none⟩ (.slice A1 f.wt.length c1)).setCell ⟨qa, 4, none⟩ (.slice D1 f.sh.length d1)).heap.size := by simpa using hqb
                generalize (((((y4.setCell ⟨qa, 0, none⟩ (.int .i64 f.t)).setCell ⟨qa, 1, none⟩ (.int .i64 f.s)).setCell ⟨qa, 2, none⟩ (.int .i64 f.sp)).setCell ⟨qa, 3, none⟩ (.slice A1 f.wt.length c1)).setCell ⟨qa, 4, none⟩ (.slice D1 f.sh.length d1)) = y5 at hHeld HBN HOA HOD HQA HTA hqa HQB HTB hqb ⊢
                refine wpAnyH_ready (rs := [9]) (by kernel_rfl) (by simp) ?_
                refine AllReadyH.cons rfl (fun K hK => ?_) (AllReadyH.nil)
                have HBP := Lib.hid hHeld.1
                have hsc : y5.setCells qb 0 (#[.int .i64 (shOf f.sp f.sh).m, .int .i64 (shOf f.sp f.sh).t, .int .i64 (shOf f.sp f.sh).s] : Array Value).toList = (((y5.setCell ⟨qb, 0, none⟩ (.int .i64 (shOf f.sp f.sh).m)).setCell ⟨qb, 1, none⟩ (.int .i64 (shOf f.sp f.sh).t)).setCell ⟨qb, 2, none⟩ (.int .i64 (shOf f.sp f.sh).s)) := rfl
                rw [if_pos (by kernel_rfl)]
                refine wp_store_mid 43 _ _ (by rfl) qb 0 #[.int .i64 (shOf f.sp f.sh).m, .int .i64 (shOf f.sp f.sh).t, .int .i64 (shOf f.sp f.sh).s] (by rfl) (by rfl) HQB.out.there (by kernel_rfl) (by simp [Value.oneCell']) ?_
                rw [hsc]
                clear hsc
                (first | refine hK.out _ _ ?_ (fun hHeld1 => ?_) | (go_wp2_with fail; refine hK.out _ _ ?_ (fun hHeld1 => ?_)))
                · ((try dsimp only); exact KS ((((HBP.out.setCell hBb _).setCell hBb _).setCell hBb _)))
                clear hK K hHeld
                have hHeld := hHeld1
                clear hHeld1
                try simp only [Act.put, List.setIfInBounds_toArray, List.set_cons_zero, List.set_cons_succ]
                have HBN := Lib.hid hHeld.1
                have hoa := HTB.out.off HOA.out (by decide)
                have hod := HNQ.out
                replace HOA := Lib.hid (own_off3 HOA.out hoa (.int .i64 (shOf f.sp f.sh).m) (.int .i64 (shOf f.sp f.sh).t) (.int .i64 (shOf f.sp f.sh).s))
                replace HOD := Lib.hid (own_off3 HOD.out hod (.int .i64 (shOf f.sp f.sh).m) (.int .i64 (shOf f.sp f.sh).t) (.int .i64 (shOf f.sp f.sh).s))
                replace HQB := Lib.hid (HQB.out.set3 (.int .i64 (shOf f.sp f.sh).m) (.int .i64 (shOf f.sp f.sh).t) (.int .i64 (shOf f.sp f.sh).s))
                replace HTB := Lib.hid ((((HTB.out.set ⟨qb, 0, none⟩ (.int .i64 (shOf f.sp f.sh).m)).set ⟨qb, 1, none⟩ (.int .i64 (shOf f.sp f.sh).t)).set ⟨qb, 2, none⟩ (.int .i64 (shOf f.sp f.sh).s)))
                replace HTA := Lib.hid ((((HTA.out.set ⟨qb, 0, none⟩ (.int .i64 (shOf f.sp f.sh).m)).set ⟨qb, 1, none⟩ (.int .i64 (shOf f.sp f.sh).t)).set ⟨qb, 2, none⟩ (.int .i64 (shOf f.sp f.sh).s)))
                replace HQA := Lib.hid ((((HQA.out.far ⟨qb, 0, none⟩ (.int .i64 (shOf f.sp f.sh).m) hqq).far ⟨qb, 1, none⟩ (.int .i64 (shOf f.sp f.sh).t) hqq).far ⟨qb, 2, none⟩ (.int .i64 (shOf f.sp f.sh).s) hqq))
                clear hoa hod HBP
                replace hqa : qa < (((y5.setCell ⟨qb, 0, none⟩ (.int .i64 (shOf f.sp f.sh).m)).setCell ⟨qb, 1, none⟩ (.int .i64 (shOf f.sp f.sh).t)).setCell ⟨qb, 2, none⟩ (.int .i64 (shOf f.sp f.sh).s)).heap.size := by simpa using hqa
                replace hqb : qb < (((y5.setCell ⟨qb, 0, none⟩ (.int .i64 (shOf f.sp f.sh).m)).setCell ⟨qb, 1, none⟩ (.int .i64 (shOf f.sp f.sh).t)).setCell ⟨qb, 2, none⟩ (.int .i64 (shOf f.sp f.sh).s)).heap.size := by simpa using hqb
                generalize (((y5.setCell ⟨qb, 0, none⟩ (.int .i64 (shOf f.sp f.sh).m)).setCell ⟨qb, 1, none⟩ (.int .i64 (shOf f.sp f.sh).t)).setCell ⟨qb, 2, none⟩ (.int .i64 (shOf f.sp f.sh).s)) = y6 at hHeld HBN HOA HOD HQA HTA hqa HQB HTB hqb ⊢
                refine wpAnyH_done (by kernel_rfl) ?_ _
                refine NoPanic.normal ?_
                clear hHeld
                go_wp2_with fail
                go_meet
                exact ⟨qa, qb, A1, c1, D1, d1, rfl, rfl, HQA.out, HTA.out, HQB.out, HTB.out, HOA.out, HOD.out, HNQ.out, hBa, hBb, hqq, hqa, hqb, HBN.out⟩
              · have HBP := Lib.hid hHeld.1
                have HODB := Lib.hid (fun g (hg : (Value.slice D1 f.sh.length d1).ownBlock = some g) => (HOD.out.lt g hg).2)
                try go_simp
                (first | refine hK.out _ _ ?_ (fun hHeld1 => ?_) | (go_wp2_with fail; refine hK.out _ _ ?_ (fun hHeld1 => ?_)))
                · ((try dsimp only); exact KS (HBP.out.alloc HBP.out.size _))
                clear hK K hHeld
                have hHeld := hHeld1
                clear hHeld1
                try simp only [Act.put, List.setIfInBounds_toArray, List.set_cons_zero, List.set_cons_succ]
                have hqq : qa ≠ y2.heap.size := by omega
                have hb := below1 y2 (.cells #[.int .i64 0, .int .i64 0, .int .i64 0] 43)
                replace HOA := Lib.hid (own_keep HOA.out hb)
                replace HOD := Lib.hid (own_keep HOD.out hb)
                replace HQA := Lib.hid (HQA.out.below hb hqa)
                replace HTA := Lib.hid (HTA.out.below hb hqa)
                replace hqa := Nat.lt_of_lt_of_le hqa (hb).size
                have HQB := Lib.hid (BoxF.new3 y2 (.int .i64 0) (.int .i64 0) (.int .i64 0) 43 y2.heap.size rfl)
                have HTB := Lib.hid (show Ty (y2.alloc (.cells #[.int .i64 0, .int .i64 0, .int .i64 0] 43)) y2.heap.size 43 from ⟨_, _, heap_alloc_new y2 _⟩)
                have hqb : y2.heap.size < (y2.alloc (.cells #[.int .i64 0, .int .i64 0, .int .i64 0] 43)).heap.size := by simp
                have hBb := HBP.out.size
                have HNQ : Hid ((Value.slice D1 f.sh.length d1).ownBlock ≠ some y2.heap.size) := Lib.hid (fun e => absurd (HODB.out _ e) (Nat.lt_irrefl _))
                clear hb HBP HODB
                generalize (y2.alloc (.cells #[.int .i64 0, .int .i64 0, .int .i64 0] 43)) = y3 at hHeld HOA HOD HQA HTA hqa hBa HQB HTB hqb hBb HNQ hqq ⊢
                generalize y2.heap.size = qb at hHeld HOA HOD HQA HTA hqa hBa HQB HTB hqb hBb HNQ hqq ⊢
                refine wpAnyH_ready (rs := [5]) (by kernel_rfl) (by simp) ?_
                refine AllReadyH.cons rfl (fun K hK => ?_) (AllReadyH.nil)
                go_simp
                (go_at_call 61; refine (shareOf_any A D c d f f.sp _ (HD1.out.below hHeld.1) hn).mono ?_; rintro e y4 ⟨rfl, hb⟩; have HBN := Lib.hid (after hHeld.1 hb); have HBC := Lib.hid hb; clear hb)
                (first | refine hK.out _ _ ?_ (fun hHeld1 => ?_) | (go_wp2_with fail; refine hK.out _ _ ?_ (fun hHeld1 => ?_)))
                · ((try dsimp only); exact KS HBN.out)
                clear hK K hHeld
                have hHeld := hHeld1
                clear hHeld1
                try simp only [Act.put, List.setIfInBounds_toArray, List.set_cons_zero, List.set_cons_succ]
                replace HOA := Lib.hid (own_keep HOA.out HBC.out)
                replace HOD := Lib.hid (own_keep HOD.out HBC.out)
                replace HQA := Lib.hid (HQA.out.below HBC.out hqa)
                replace HTA := Lib.hid (HTA.out.below HBC.out hqa)
                replace hqa := Nat.lt_of_lt_of_le hqa (HBC.out).size
                replace HQB := Lib.hid (HQB.out.below HBC.out hqb)
                replace HTB := Lib.hid (HTB.out.below HBC.out hqb)
                replace hqb := Nat.lt_of_lt_of_le hqb (HBC.out).size
                refine wpAnyH_ready (rs := [8]) (by kernel_rfl) (by simp) ?_
                refine AllReadyH.cons rfl (fun K hK => ?_) (AllReadyH.nil)
                have HBP := Lib.hid hHeld.1
                have hsc : y4.setCells qa 0 (#[.int .i64 f.t, .int .i64 f.s, .int .i64 f.sp, .slice A1 f.wt.length c1, .slice D1 f.sh.length d1] : Array Value).toList = (((((y4.setCell ⟨qa, 0, none⟩ (.int .i64 f.t)).setCell ⟨qa, 1, none⟩ (.int .i64 f.s)).setCell ⟨qa, 2, none⟩ (.int .i64 f.sp)).setCell ⟨qa, 3, none⟩ (.slice A1 f.wt.length c1)).setCell ⟨qa, 4, none⟩ (.slice D1 f.sh.length d1)) := rfl
                rw [if_pos (by kernel_rfl)]
                refine wp_store_mid 29 _ _ (by rfl) qa 0 #[.int .i64 f.t, .int .i64 f.s, .int .i64 f.sp, .slice A1 f.wt.length c1, .slice D1 f.sh.length d1] (by rfl) (by rfl) HQA.out.there (by kernel_rfl) (by simp [Value.oneCell']) ?_
                rw [hsc]
                clear hsc
                (first | refine hK.out _ _ ?_ (fun hHeld1 => ?_) | (go_wp2_with fail; refine hK.out _ _ ?_ (fun hHeld1 => ?_)))
                · ((try dsimp only); exact KS ((((((HBP.out.setCell hBa _).setCell hBa _).setCell hBa _).setCell hBa _).setCell hBa _)))
                clear hK K hHeld
                have hHeld := hHeld1
                clear hHeld1
                try simp only [Act.put, List.setIfInBounds_toArray, List.set_cons_zero, List.set_cons_succ]
                have HBN := Lib.hid hHeld.1
                have hoa := HTA.out.off HOA.out (by decide)
                have hod := HTA.out.off HOD.out (by decide)
                replace HOA := Lib.hid (own_off5 HOA.out hoa (.int .i64 f.t) (.int .i64 f.s) (.int .i64 f.sp) (.slice A1 f.wt.length c1) (.slice D1 f.sh.length d1))
                replace HOD := Lib.hid (own_off5 HOD.out hod (.int .i64 f.t) (.int .i64 f.s) (.int .i64 f.sp) (.slice A1 f.wt.length c1) (.slice D1 f.sh.length d1))
                replace HQA := Lib.hid (HQA.out.set5 (.int .i64 f.t) (.int .i64 f.s) (.int .i64 f.sp) (.slice A1 f.wt.length c1) (.slice D1 f.sh.length d1))
                replace HTA := Lib.hid ((((((HTA.out.set ⟨qa, 0, none⟩ (.int .i64 f.t)).set ⟨qa, 1, none⟩ (.int .i64 f.s)).set ⟨qa, 2, none⟩ (.int .i64 f.sp)).set ⟨qa, 3, none⟩ (.slice A1 f.wt.length c1)).set ⟨qa, 4, none⟩ (.slice D1 f.sh.length d1)))
                replace HTB := Lib.hid ((((((HTB.out.set ⟨qa, 0, none⟩ (.int .i64 f.t)).set ⟨qa, 1, none⟩ (.int .i64 f.s)).set ⟨qa, 2, none⟩ (.int .i64 f.sp)).set ⟨qa, 3, none⟩ (.slice A1 f.wt.length c1)).set ⟨qa, 4, none⟩ (.slice D1 f.sh.length d1)))
                replace HQB := Lib.hid ((((((HQB.out.far ⟨qa, 0, none⟩ (.int .i64 f.t) (Ne.symm hqq)).far ⟨qa, 1, none⟩ (.int .i64 f.s) (Ne.symm hqq)).far ⟨qa, 2, none⟩ (.int .i64 f.sp) (Ne.symm hqq)).far ⟨qa, 3, none⟩ (.slice A1 f.wt.length c1) (Ne.symm hqq)).far ⟨qa, 4, none⟩ (.slice D1 f.sh.length d1) (Ne.symm hqq)))
                clear hoa hod HBP
                replace hqa : qa < (((((y4.setCell ⟨qa, 0, none⟩ (.int .i64 f.t)).setCell ⟨qa, 1, none⟩ (.int .i64 f.s)).setCell ⟨qa, 2, none⟩ (.int .i64 f.sp)).setCell ⟨qa, 3, none⟩ (.slice A1 f.wt.length c1)).setCell ⟨qa, 4, none⟩ (.slice D1 f.sh.length d1)).heap.size := by simpa using hqa
                replace hqb : qb < (((((y4.setCell ⟨qa, 0, none⟩ (.int .i64 f.t)).setCell ⟨qa, 1, none⟩ (.int .i64 f.s)).setCell ⟨qa, 2, none⟩ (.int .i64 f.sp)).setCell ⟨qa, 3, none⟩ (.slice A1 f.wt.length c1)).setCell ⟨qa, 4, none⟩ (.slice D1 f.sh.length d1)).heap.size := by simpa using hqb
                generalize (((((y4.setCell ⟨qa, 0, none⟩ (.int .i64 f.t)).setCell ⟨qa, 1, none⟩ (.int .i64 f.s)).setCell ⟨qa, 2, none⟩ (.int .i64 f.sp)).setCell ⟨qa, 3, none⟩ (.slice A1 f.wt.length c1)).setCell ⟨qa, 4, none⟩ (.slice D1 f.sh.length d1)) = y5 at hHeld HBN HOA HOD HQA HTA hqa HQB HTB hqb ⊢
                refine wpAnyH_ready (rs := [9]) (by kernel_rfl) (by simp) ?_
                refine AllReadyH.cons rfl (fun K hK => ?_) (AllReadyH.nil)
                have HBP := Lib.hid hHeld.1
                have hsc : y5.setCells qb 0 (#[.int .i64 (shOf f.sp f.sh).m, .int .i64 (shOf f.sp f.sh).t, .int .i64 (shOf f.sp f.sh).s] : Array Value).toList = (((y5.setCell ⟨qb, 0, none⟩ (.int .i64 (shOf f.sp f.sh).m)).setCell ⟨qb, 1, none⟩ (.int .i64 (shOf f.sp f.sh).t)).setCell ⟨qb, 2, none⟩ (.int .i64 (shOf f.sp f.sh).s)) := rfl
                rw [if_pos (by kernel_rfl)]
                refine wp_store_mid 43 _ _ (by rfl) qb 0 #[.int .i64 (shOf f.sp f.sh).m, .int .i64 (shOf f.sp f.sh).t, .int .i64 (shOf f.sp f.sh).s] (by rfl) (by rfl) HQB.out.there (by kernel_rfl) (by simp [Value.oneCell']) ?_
                rw [hsc]
                clear hsc
                (first | refine hK.out _ _ ?_ (fun hHeld1 => ?_) | (go_wp2_with fail; refine hK.out _ _ ?_ (fun hHeld1 => ?_)))
                · ((try dsimp only); exact KS ((((HBP.out.setCell hBb _).setCell hBb _).setCell hBb _)))
                clear hK K hHeld
                have hHeld := hHeld1
                clear hHeld1
                try simp only [Act.put, List.setIfInBounds_toArray, List.set_cons_zero, List.set_cons_succ]
                have HBN := Lib.hid hHeld.1
                have hoa := HTB.out.off HOA.out (by decide)
                have hod := HNQ.out
                replace HOA := Lib.hid (own_off3 HOA.out hoa (.int .i64 (shOf f.sp f.sh).m) (.int .i64 (shOf f.sp f.sh).t) (.int .i64 (shOf f.sp f.sh).s))
                replace HOD := Lib.hid (own_off3 HOD.out hod (.int .i64 (shOf f.sp f.sh).m) (.int .i64 (shOf f.sp f.sh).t) (.int .i64 (shOf f.sp f.sh).s))
                replace HQB := Lib.hid (HQB.out.set3 (.int .i64 (shOf f.sp f.sh).m) (.int .i64 (shOf f.sp f.sh).t) (.int .i64 (shOf f.sp f.sh).s))
                replace HTB := Lib.hid ((((HTB.out.set ⟨qb, 0, none⟩ (.int .i64 (shOf f.sp f.sh).m)).set ⟨qb, 1, none⟩ (.int .i64 (shOf f.sp f.sh).t)).set ⟨qb, 2, none⟩ (.int .i64 (shOf f.sp f.sh).s)))
                replace HTA := Lib.hid ((((HTA.out.set ⟨qb, 0, none⟩ (.int .i64 (shOf f.sp f.sh).m)).set ⟨qb, 1, none⟩ (.int .i64 (shOf f.sp f.sh).t)).set ⟨qb, 2, none⟩ (.int .i64 (shOf f.sp f.sh).s)))
                replace HQA := Lib.hid ((((HQA.out.far ⟨qb, 0, none⟩ (.int .i64 (shOf f.sp f.sh).m) hqq).far ⟨qb, 1, none⟩ (.int .i64 (shOf f.sp f.sh).t) hqq).far ⟨qb, 2, none⟩ (.int .i64 (shOf f.sp f.sh).s) hqq))
                clear hoa hod HBP
                replace hqa : qa < (((y5.setCell ⟨qb, 0, none⟩ (.int .i64 (shOf f.sp f.sh).m)).setCell ⟨qb, 1, none⟩ (.int .i64 (shOf f.sp f.sh).t)).setCell ⟨qb, 2, none⟩ (.int .i64 (shOf f.sp f.sh).s)).heap.size := by simpa using hqa
                replace hqb : qb < (((y5.setCell ⟨qb, 0, none⟩ (.int .i64 (shOf f.sp f.sh).m)).setCell ⟨qb, 1, none⟩ (.int .i64 (shOf f.sp f.sh).t)).setCell ⟨qb, 2, none⟩ (.int .i64 (shOf f.sp f.sh).s)).heap.size := by simpa using hqb
                generalize (((y5.setCell ⟨qb, 0, none⟩ (.int .i64 (shOf f.sp f.sh).m)).setCell ⟨qb, 1, none⟩ (.int .i64 (shOf f.sp f.sh).t)).setCell ⟨qb, 2, none⟩ (.int .i64 (shOf f.sp f.sh).s)) = y6 at hHeld HBN HOA HOD HQA HTA hqa HQB HTB hqb ⊢
                refine wpAnyH_done (by kernel_rfl) ?_ _
                refine NoPanic.normal ?_
                clear hHeld
                go_wp2_with fail
                go_meet
                exact ⟨qa, qb, A1, c1, D1, d1, rfl, rfl, HQA.out, HTA.out, HQB.out, HTB.out, HOA.out, HOD.out, HNQ.out, hBa, hBb, hqq, hqa, hqb, HBN.out⟩
            · have HBP := Lib.hid hHeld.1
              have HODB := Lib.hid (fun g (hg : (Value.slice D1 f.sh.length d1).ownBlock = some g) => (HOD.out.lt g hg).2)
              try go_simp
              (first | refine hK.out _ _ ?_ (fun hHeld1 => ?_) | (go_wp2_with fail; refine hK.out _ _ ?_ (fun hHeld1 => ?_)))
              · ((try dsimp only); exact KS (HBP.out.alloc HBP.out.size _))
              clear hK K hHeld
              have hHeld := hHeld1
              clear hHeld1
              try simp only [Act.put, List.setIfInBounds_toArray, List.set_cons_zero, List.set_cons_succ]
              have hb := below1 y1 (.cells #[.int .i64 0, .int .i64 0, .int .i64 0] 43)
              replace HOA := Lib.hid (own_keep HOA.out hb)
              replace HOD := Lib.hid (own_keep HOD.out hb)
              have HQB := Lib.hid (BoxF.new3 y1 (.int .i64 0) (.int .i64 0) (.int .i64 0) 43 y1.heap.size rfl)
              have HTB := Lib.hid (show Ty (y1.alloc (.cells #[.int .i64 0, .int .i64 0, .int .i64 0] 43)) y1.heap.size 43 from ⟨_, _, heap_alloc_new y1 _⟩)
              have hqb : y1.heap.size < (y1.alloc (.cells #[.int .i64 0, .int .i64 0, .int .i64 0] 43)).heap.size := by simp
              have hBb := HBP.out.size
              have HNQ : Hid ((Value.slice D1 f.sh.length d1).ownBlock ≠ some y1.heap.size) := Lib.hid (fun e => absurd (HODB.out _ e) (Nat.lt_irrefl _))
              clear hb HBP HODB
              generalize (y1.alloc (.cells #[.int .i64 0, .int .i64 0, .int .i64 0] 43)) = y2 at hHeld HOA HOD HQB HTB hqb hBb HNQ ⊢
              generalize y1.heap.size = qb at hHeld HOA HOD HQB HTB hqb hBb HNQ ⊢
              refine wpAnyH_ready (rs := [5, 6]) (by kernel_rfl) (by simp) ?_
              refine AllReadyH.cons rfl (fun K hK => ?_) (AllReadyH.cons rfl (fun K hK => ?_) (AllReadyH.nil))
              · go_simp
                (go_at_call 61; refine (shareOf_any A D c d f f.sp _ (HD1.out.below hHeld.1) hn).mono ?_; rintro e y3 ⟨rfl, hb⟩; have HBN := Lib.hid (after hHeld.1 hb); have HBC := Lib.hid hb; clear hb)
                (first | refine hK.out _ _ ?_ (fun hHeld1 => ?_) | (go_wp2_with fail; refine hK.out _ _ ?_ (fun hHeld1 => ?_)))
                · ((try dsimp only); exact KS HBN.out)
                clear hK K hHeld
                have hHeld := hHeld1
                clear hHeld1
                try simp only [Act.put, List.setIfInBounds_toArray, List.set_cons_zero, List.set_cons_succ]
                replace HOA := Lib.hid (own_keep HOA.out HBC.out)
                replace HOD := Lib.hid (own_keep HOD.out HBC.out)
                replace HQB := Lib.hid (HQB.out.below HBC.out hqb)
                replace HTB := Lib.hid (HTB.out.below HBC.out hqb)
                replace hqb := Nat.lt_of_lt_of_le hqb (HBC.out).size
                refine wpAnyH_ready (rs := [6]) (by kernel_rfl) (by simp) ?_
                refine AllReadyH.cons rfl (fun K hK => ?_) (AllReadyH.nil)
                have HBP := Lib.hid hHeld.1
                try go_simp
                (first | refine hK.out _ _ ?_ (fun hHeld1 => ?_) | (go_wp2_with fail; refine hK.out _ _ ?_ (fun hHeld1 => ?_)))
                · ((try dsimp only); exact KS (HBP.out.alloc HBP.out.size _))
                clear hK K hHeld
                have hHeld := hHeld1
                clear hHeld1
                try simp only [Act.put, List.setIfInBounds_toArray, List.set_cons_zero, List.set_cons_succ]
                have hqq : y3.heap.size ≠ qb := by omega
                have hb := below1 y3 (.cells #[.int .i64 0, .int .i64 0, .int .i64 0, .slice none 0 0, .slice none 0 0] 29)
                replace HOA := Lib.hid (own_keep HOA.out hb)
                replace HOD := Lib.hid (own_keep HOD.out hb)
                replace HQB := Lib.hid (HQB.out.below hb hqb)
                replace HTB := Lib.hid (HTB.out.below hb hqb)
                replace hqb := Nat.lt_of_lt_of_le hqb (hb).size
                have HQA := Lib.hid (BoxF.new5 y3 (.int .i64 0) (.int .i64 0) (.int .i64 0) (.slice none 0 0) (.slice none 0 0) 29 y3.heap.size rfl)
                have HTA := Lib.hid (show Ty (y3.alloc (.cells #[.int .i64 0, .int .i64 0, .int .i64 0, .slice none 0 0, .slice none 0 0] 29)) y3.heap.size 29 from ⟨_, _, heap_alloc_new y3 _⟩)
                have hqa : y3.heap.size < (y3.alloc (.cells #[.int .i64 0, .int .i64 0, .int .i64 0, .slice none 0 0, .slice none 0 0] 29)).heap.size := by simp
                have hBa := HBP.out.size
                clear hb HBP
                generalize (y3.alloc (.cells #[.int .i64 0, .int .i64 0, .int .i64 0, .slice none 0 0, .slice none 0 0] 29)) = y4 at hHeld HOA HOD HQA HTA hqa hBa HQB HTB hqb hBb HNQ hqq ⊢
                generalize y3.heap.size = qa at hHeld HOA HOD HQA HTA hqa hBa HQB HTB hqb hBb HNQ hqq ⊢
                refine wpAnyH_ready (rs := [8]) (by kernel_rfl) (by simp) ?_
                refine AllReadyH.cons rfl (fun K hK => ?_) (AllReadyH.nil)
                have HBP := Lib.hid hHeld.1
                have hsc : y4.setCells qa 0 (#[.int .i64 f.t, .int .i64 f.s, .int .i64 f.sp, .slice A1 f.wt.length c1, .slice D1 f.sh.length d1] : Array Value).toList = (((((y4.setCell ⟨qa, 0, none⟩ (.int .i64 f.t)).setCell ⟨qa, 1, none⟩ (.int .i64 f.s)).setCell ⟨qa, 2, none⟩ (.int .i64 f.sp)).setCell ⟨qa, 3, none⟩ (.slice A1 f.wt.length c1)).setCell ⟨qa, 4, none⟩ (.slice D1 f.sh.length d1)) := rfl
                rw [if_pos (by kernel_rfl)]
                refine wp_store_mid 29 _ _ (by rfl) qa 0 #[.int .i64 f.t, .int .i64 f.s, .int .i64 f.sp, .slice A1 f.wt.length c1, .slice D1 f.sh.length d1] (by rfl) (by rfl) HQA.out.there (by kernel_rfl) (by simp [Value.oneCell']) ?_
                rw [hsc]
                clear hsc
                (first | refine hK.out _ _ ?_ (fun hHeld1 => ?_) | (go_wp2_with fail; refine hK.out _ _ ?_ (fun hHeld1 => ?_)))
                · ((try dsimp only); exact KS ((((((HBP.out.setCell hBa _).setCell hBa _).setCell hBa _).setCell hBa _).setCell hBa _)))
                clear hK K hHeld
                have hHeld := hHeld1
                clear hHeld1
                try simp only [Act.put, List.setIfInBounds_toArray, List.set_cons_zero, List.set_cons_succ]
                have HBN := Lib.hid hHeld.1
                have hoa := HTA.out.off HOA.out (by decide)
                have hod := HTA.out.off HOD.out (by decide)
                replace HOA := Lib.hid (own_off5 HOA.out hoa (.int .i64 f.t) (.int .i64 f.s) (.int .i64 f.sp) (.slice A1 f.wt.length c1) (.slice D1 f.sh.length d1))
                replace HOD := Lib.hid (own_off5 HOD.out hod (.int .i64 f.t) (.int .i64 f.s) (.int .i64 f.sp) (.slice A1 f.wt.length c1) (.slice D1 f.sh.length d1))
                replace HQA := Lib.hid (HQA.out.set5 (.int .i64 f.t) (.int .i64 f.s) (.int .i64 f.sp) (.slice A1 f.wt.length c1) (.slice D1 f.sh.length d1))
                replace HTA := Lib.hid ((((((HTA.out.set ⟨qa, 0, none⟩ (.int .i64 f.t)).set ⟨qa, 1, none⟩ (.int .i64 f.s)).set ⟨qa, 2, none⟩ (.int .i64 f.sp)).set ⟨qa, 3, none⟩ (.slice A1 f.wt.length c1)).set ⟨qa, 4, none⟩ (.slice D1 f.sh.length d1)))
                replace HTB := Lib.hid ((((((HTB.out.set ⟨qa, 0, none⟩ (.int .i64 f.t)).set ⟨qa, 1, none⟩ (.int .i64 f.s)).set ⟨qa, 2, none⟩ (.int .i64 f.sp)).set ⟨qa, 3, none⟩ (.slice A1 f.wt.length c1)).set ⟨qa, 4, none⟩ (.slice D1 f.sh.length d1)))
                replace HQB := Lib.hid ((((((HQB.out.far ⟨qa, 0, none⟩ (.int .i64 f.t) (Ne.symm hqq)).far ⟨qa, 1, none⟩ (.int .i64 f.s) (Ne.symm hqq)).far ⟨qa, 2, none⟩ (.int .i64 f.sp) (Ne.symm hqq)).far ⟨qa, 3, none⟩ (.slice A1 f.wt.length c1) (Ne.symm hqq)).far ⟨qa, 4, none⟩ (.slice D1 f.sh.length d1) (Ne.symm hqq)))
                clear hoa hod HBP
                replace hqa : qa < (((((y4.setCell ⟨qa, 0, none⟩ (.int .i64 f.t)).setCell ⟨qa, 1, none⟩ (.int .i64 f.s)).setCell ⟨qa, 2, none⟩ (.int .i64 f.sp)).setCell ⟨qa, 3, none⟩ (.slice A1 f.wt.length c1)).setCell ⟨qa, 4, none⟩ (.slice D1 f.sh.length d1)).heap.size := by simpa using hqa
                replace hqb : qb < (((((y4.setCell ⟨qa, 0, none⟩ (.int .i64 f.t)).setCell ⟨qa, 1, none⟩ (.int .i64 f.s)).setCell ⟨qa, 2, none⟩ (.int .i64 f.sp)).setCell ⟨qa, 3, none⟩ (.slice A1 f.wt.length c1)).setCell ⟨qa, 4, none⟩ (.slice D1 f.sh.length d1)).heap.size := by simpa using hqb
                generalize (((((y4.setCell ⟨qa, 0, none⟩ (.int .i64 f.t)).setCell ⟨qa, 1, none⟩ (.int .i64 f.s)).setCell ⟨qa, 2, none⟩ (.int .i64 f.sp)).setCell ⟨qa, 3, none⟩ (.slice A1 f.wt.length c1)).setCell ⟨qa, 4, none⟩ (.slice D1 f.sh.length d1)) = y5 at hHeld HBN HOA HOD HQA HTA hqa HQB HTB hqb ⊢
                refine wpAnyH_ready (rs := [9]) (by kernel_rfl) (by simp) ?_
                refine AllReadyH.cons rfl (fun K hK => ?_) (AllReadyH.nil)
                have HBP := Lib.hid hHeld.1
                have hsc : y5.setCells qb 0 (#[.int .i64 (shOf f.sp f.sh).m, .int .i64 (shOf f.sp f.sh).t, .int .i64 (shOf f.sp f.sh).s] : Array Value).toList = (((y5.setCell ⟨qb, 0, none⟩ (.int .i64 (shOf f.sp f.sh).m)).setCell ⟨qb, 1, none⟩ (.int .i64 (shOf f.sp f.sh).t)).setCell ⟨qb, 2, none⟩ (.int .i64 (shOf f.sp f.sh).s)) := rfl
                rw [if_pos (by kernel_rfl)]
                refine wp_store_mid 43 _ _ (by rfl) qb 0 #[.int .i64 (shOf f.sp f.sh).m, .int .i64 (shOf f.sp f.sh).t, .int .i64 (shOf f.sp f.sh).s] (by rfl) (by rfl) HQB.out.there (by kernel_rfl) (by simp [Value.oneCell']) ?_
                rw [hsc]
                clear hsc
                (first | refine hK.out _ _ ?_ (fun hHeld1 => ?_) | (go_wp2_with fail; refine hK.out _ _ ?_ (fun hHeld1 => ?_)))
                · ((try dsimp only); exact KS ((((HBP.out.setCell hBb _).setCell hBb _).setCell hBb _)))
                clear hK K hHeld
                have hHeld := hHeld1
                clear hHeld1
                try simp only [Act.put, List.setIfInBounds_toArray, List.set_cons_zero, List.set_cons_succ]
                have HBN := Lib.hid hHeld.1
                have hoa := HTB.out.off HOA.out (by decide)
                have hod := HNQ.out
                replace HOA := Lib.hid (own_off3 HOA.out hoa (.int .i64 (shOf f.sp f.sh).m) (.int .i64 (shOf f.sp f.sh).t) (.int .i64 (shOf f.sp f.sh).s))
                replace HOD := Lib.hid (own_off3 HOD.out hod (.int .i64 (shOf f.sp f.sh).m) (.int .i64 (shOf f.sp f.sh).t) (.int .i64 (shOf f.sp f.sh).s))
                replace HQB := Lib.hid (HQB.out.set3 (.int .i64 (shOf f.sp f.sh).m) (.int .i64 (shOf f.sp f.sh).t) (.int .i64 (shOf f.sp f.sh).s))
                replace HTB := Lib.hid ((((HTB.out.set ⟨qb, 0, none⟩ (.int .i64 (shOf f.sp f.sh).m)).set ⟨qb, 1, none⟩ (.int .i64 (shOf f.sp f.sh).t)).set ⟨qb, 2, none⟩ (.int .i64 (shOf f.sp f.sh).s)))
                replace HTA := Lib.hid ((((HTA.out.set ⟨qb, 0, none⟩ (.int .i64 (shOf f.sp f.sh).m)).set ⟨qb, 1, none⟩ (.int .i64 (shOf f.sp f.sh).t)).set ⟨qb, 2, none⟩ (.int .i64 (shOf f.sp f.sh).s)))
                replace HQA := Lib.hid ((((HQA.out.far ⟨qb, 0, none⟩ (.int .i64 (shOf f.sp f.sh).m) hqq).far ⟨qb, 1, none⟩ (.int .i64 (shOf f.sp f.sh).t) hqq).far ⟨qb, 2, none⟩ (.int .i64 (shOf f.sp f.sh).s) hqq))
                clear hoa hod HBP
                replace hqa : qa < (((y5.setCell ⟨qb, 0, none⟩ (.int .i64 (shOf f.sp f.sh).m)).setCell ⟨qb, 1, none⟩ (.int .i64 (shOf f.sp f.sh).t)).setCell ⟨qb, 2, none⟩ (.int .i64 (shOf f.sp f.sh).s)).heap.size := by simpa using hqa
                replace hqb : qb < (((y5.setCell ⟨qb, 0, none⟩ (.int .i64 (shOf f.sp f.sh).m)).setCell ⟨qb, 1, none⟩ (.int .i64 (shOf f.sp f.sh).t)).setCell ⟨qb, 2, none⟩ (.int .i64 (shOf f.sp f.sh).s)).heap.size := by simpa using hqb
                generalize (((y5.setCell ⟨qb, 0, none⟩ (.int .i64 (shOf f.sp f.sh).m)).setCell ⟨qb, 1, none⟩ (.int .i64 (shOf f.sp f.sh).t)).setCell ⟨qb, 2, none⟩ (.int .i64 (shOf f.sp f.sh).s)) = y6 at hHeld HBN HOA HOD HQA HTA hqa HQB HTB hqb ⊢
                refine wpAnyH_done (by kernel_rfl) ?_ _
                refine NoPanic.normal ?_
                clear hHeld
                go_wp2_with fail
                go_meet
                exact ⟨qa, qb, A1, c1, D1, d1, rfl, rfl, HQA.out, HTA.out, HQB.out, HTB.out, HOA.out, HOD.out, HNQ.out, hBa, hBb, hqq, hqa, hqb, HBN.out⟩
              · have HBP := Lib.hid hHeld.1
                try go_simp
                (first | refine hK.out _ _ ?_ (fun hHeld1 => ?_) | (go_wp2_with fail; refine hK.out _ _ ?_ (fun hHeld1 => ?_)))
                · ((try dsimp only); exact KS (HBP.out.alloc HBP.out.size _))
                clear hK K hHeld
                have hHeld := hHeld1
                clear hHeld1
                try simp only [Act.put, List.setIfInBounds_toArray, List.set_cons_zero, List.set_cons_succ]
                have hqq : y2.heap.size ≠ qb := by omega
                have hb := below1 y2 (.cells #[.int .i64 0, .int .i64 0, .int .i64 0, .slice none 0 0, .slice none 0 0] 29)
                replace HOA := Lib.hid (own_keep HOA.out hb)
                replace HOD := Lib.hid (own_keep HOD.out hb)
                replace HQB := Lib.hid (HQB.out.below hb hqb)
                replace HTB := Lib.hid (HTB.out.below hb hqb)
                replace hqb := Nat.lt_of_lt_of_le hqb (hb).size
                have HQA := Lib.hid (BoxF.new5 y2 (.int .i64 0) (.int .i64 0) (.int .i64 0) (.slice none 0 0) (.slice none 0 0) 29 y2.heap.size rfl)
                have HTA := Lib.hid (show Ty (y2.alloc (.cells #[.int .i64 0, .int .i64 0, .int .i64 0, .slice none 0 0, .slice none 0 0] 29)) y2.heap.size 29 from ⟨_, _, heap_alloc_new y2 _⟩)
                have hqa : y2.heap.size < (y2.alloc (.cells #[.int .i64 0, .int .i64 0, .int .i64 0, .slice none 0 0, .slice none 0 0] 29)).heap.size := by simp
                have hBa := HBP.out.size
                clear hb HBP
                generalize (y2.alloc (.cells #[.int .i64 0, .int .i64 0, .int .i64 0, .slice none 0 0, .slice none 0 0] 29)) = y3 at hHeld HOA HOD HQA HTA hqa hBa HQB HTB hqb hBb HNQ hqq ⊢
                generalize y2.heap.size = qa at hHeld HOA HOD HQA HTA hqa hBa HQB HTB hqb hBb HNQ hqq ⊢
                refine wpAnyH_ready (rs := [5]) (by kernel_rfl) (by simp) ?_
                refine AllReadyH.cons rfl (fun K hK => ?_) (AllReadyH.nil)
                go_simp
                (go_at_call 61; refine (shareOf_any A D c d f f.sp _ (HD1.out.below hHeld.1) hn).mono ?_; rintro e y4 ⟨rfl, hb⟩; have HBN := Lib.hid (after hHeld.1 hb); have HBC := Lib.hid hb; clear hb)
                (first | refine hK.out _ _ ?_ (fun hHeld1 => ?_) | (go_wp2_with fail; refine hK.out _ _ ?_ (fun hHeld1 => ?_)))
                · ((try dsimp only); exact KS HBN.out)
                clear hK K hHeld
                have hHeld := hHeld1
                clear hHeld1
                try simp only [Act.put, List.setIfInBounds_toArray, List.set_cons_zero, List.set_cons_succ]
                replace HOA := Lib.hid (own_keep HOA.out HBC.out)
                replace HOD := Lib.hid (own_keep HOD.out HBC.out)
                replace HQA := Lib.hid (HQA.out.below HBC.out hqa)
                replace HTA := Lib.hid (HTA.out.below HBC.out hqa)
                replace hqa := Nat.lt_of_lt_of_le hqa (HBC.out).size
                replace HQB := Lib.hid (HQB.out.below HBC.out hqb)
                replace HTB := Lib.hid (HTB.out.below HBC.out hqb)
                replace hqb := Nat.lt_of_lt_of_le hqb (HBC.out).size
                refine wpAnyH_ready (rs := [8]) (by kernel_rfl) (by simp) ?_
                refine AllReadyH.cons rfl (fun K hK => ?_) (AllReadyH.nil)
                have HBP := Lib.hid hHeld.1
                have hsc : y4.setCells qa 0 (#[.int .i64 f.t, .int .i64 f.s, .int .i64 f.sp, .slice A1 f.wt.length c1, .slice D1 f.sh.length d1] : Array Value).toList = (((((y4.setCell ⟨qa, 0, none⟩ (.int .i64 f.t)).setCell ⟨qa, 1, none⟩ (.int .i64 f.s)).setCell ⟨qa, 2, none⟩ (.int .i64 f.sp)).setCell ⟨qa, 3, none⟩ (.slice A1 f.wt.length c1)).setCell ⟨qa, 4, none⟩ (.slice D1 f.sh.length d1)) := rfl
                rw [if_pos (by kernel_rfl)]
                refine wp_store_mid 29 _ _ (by rfl) qa 0 #[.int .i64 f.t, .int .i64 f.s, .int .i64 f.sp, .slice A1 f.wt.length c1, .slice D1 f.sh.length d1] (by rfl) (by rfl) HQA.out.there (by kernel_rfl) (by simp [Value.oneCell']) ?_
                rw [hsc]
                clear hsc
                (first | refine hK.out _ _ ?_ (fun hHeld1 => ?_) | (go_wp2_with fail; refine hK.out _ _ ?_ (fun hHeld1 => ?_)))
                · ((try dsimp only); exact KS ((((((HBP.out.setCell hBa _).setCell hBa _).setCell hBa _).setCell hBa _).setCell hBa _)))
                clear hK K hHeld
                have hHeld := hHeld1
                clear hHeld1
                try simp only [Act.put, List.setIfInBounds_toArray, List.set_cons_zero, List.set_cons_succ]
                have HBN := Lib.hid hHeld.1
                have hoa := HTA.out.off HOA.out (by decide)
                have hod := HTA.out.off HOD.out (by decide)
                replace HOA := Lib.hid (own_off5 HOA.out hoa (.int .i64 f.t) (.int .i64 f.s) (.int .i64 f.sp) (.slice A1 f.wt.length c1) (.slice D1 f.sh.length d1))
                replace HOD := Lib.hid (own_off5 HOD.out hod (.int .i64 f.t) (.int .i64 f.s) (.int .i64 f.sp) (.slice A1 f.wt.length c1) (.slice D1 f.sh.length d1))
                replace HQA := Lib.hid (HQA.out.set5 (.int .i64 f.t) (.int .i64 f.s) (.int .i64 f.sp) (.slice A1 f.wt.length c1) (.slice D1 f.sh.length d1))
                replace HTA := Lib.hid ((((((HTA.out.set ⟨qa, 0, none⟩ (.int .i64 f.t)).set ⟨qa, 1, none⟩ (.int .i64 f.s)).set ⟨qa, 2, none⟩ (.int .i64 f.sp)).set ⟨qa, 3, none⟩ (.slice A1 f.wt.length c1)).set ⟨qa, 4, none⟩ (.slice D1 f.sh.length d1)))
                replace HTB := Lib.hid ((((((HTB.out.set ⟨qa, 0, none⟩ (.int .i64 f.t)).set ⟨qa, 1, none⟩ (.int .i64 f.s)).set ⟨qa, 2, none⟩ (.int .i64 f.sp)).set ⟨qa, 3, none⟩ (.slice A1 f.wt.length c1)).set ⟨qa, 4, none⟩ (.slice D1 f.sh.length d1)))
                replace HQB := Lib.hid ((((((HQB.out.far ⟨qa, 0, none⟩ (.int .i64 f.t) (Ne.symm hqq)).far ⟨qa, 1, none⟩ (.int .i64 f.s) (Ne.symm hqq)).far ⟨qa, 2, none⟩ (.int .i64 f.sp) (Ne.symm hqq)).far ⟨qa, 3, none⟩ (.slice A1 f.wt.length c1) (Ne.symm hqq)).far ⟨qa, 4, none⟩ (.slice D1 f.sh.length d1) (Ne.symm hqq)))
                clear hoa hod HBP
                replace hqa : qa < (((((y4.setCell ⟨qa, 0, none⟩ (.int .i64 f.t)).setCell ⟨qa, 1, none⟩ (.int .i64 f.s)).setCell ⟨qa, 2, none⟩ (.int .i64 f.sp)).setCell ⟨qa, 3, none⟩ (.slice A1 f.wt.length c1)).setCell ⟨qa, 4, none⟩ (.slice D1 f.sh.length d1)).heap.size := by simpa using hqa
                replace hqb : qb < (((((y4.setCell ⟨qa, 0, none⟩ (.int .i64 f.t)).setCell ⟨qa, 1, none⟩ (.int .i64 f.s)).setCell ⟨qa, 2, none⟩ (.int .i64 f.sp)).setCell ⟨qa, 3, none⟩ (.slice A1 f.wt.length c1)).setCell ⟨qa, 4, none⟩ (.slice D1 f.sh.length d1)).heap.size := by simpa using hqb
                generalize (((((y4.setCell ⟨qa, 0, none⟩ (.int .i64 f.t)).setCell ⟨qa, 1, none⟩ (.int .i64 f.s)).setCell ⟨qa, 2, none⟩ (.int .i64 f.sp)).setCell ⟨qa, 3, none⟩ (.slice A1 f.wt.length c1)).setCell ⟨qa, 4, none⟩ (.slice D1 f.sh.length d1)) = y5 at hHeld HBN HOA HOD HQA HTA hqa HQB HTB hqb ⊢
                refine wpAnyH_ready (rs := [9]) (by kernel_rfl) (by simp) ?_
                refine AllReadyH.cons rfl (fun K hK => ?_) (AllReadyH.nil)
                have HBP := Lib.hid hHeld.1
                have hsc : y5.setCells qb 0 (#[.int .i64 (shOf f.sp f.sh).m, .int .i64 (shOf f.sp f.sh).t, .int .i64 (shOf f.sp f.sh).s] : Array Value).toList = (((y5.setCell ⟨qb, 0, none⟩ (.int .i64 (shOf f.sp f.sh).m)).setCell ⟨qb, 1, none⟩ (.int .i64 (shOf f.sp f.sh).t)).setCell ⟨qb, 2, none⟩ (.int .i64 (shOf f.sp f.sh).s)) := rfl
                rw [if_pos (by kernel_rfl)]
                refine wp_store_mid 43 _ _ (by rfl) qb 0 #[.int .i64 (shOf f.sp f.sh).m, .int .i64 (shOf f.sp f.sh).t, .int .i64 (shOf f.sp f.sh).s] (by rfl) (by rfl) HQB.out.there (by kernel_rfl) (by simp [Value.oneCell']) ?_
                rw [hsc]
                clear hsc
                (first | refine hK.out _ _ ?_ (fun hHeld1 => ?_) | (go_wp2_with fail; refine hK.out _ _ ?_ (fun hHeld1 => ?_)))
                · ((try dsimp only); exact KS ((((HBP.out.setCell hBb _).setCell hBb _).setCell hBb _)))
                clear hK K hHeld
                have hHeld := hHeld1
                clear hHeld1
                try simp only [Act.put, List.setIfInBounds_toArray, List.set_cons_zero, List.set_cons_succ]
                have HBN := Lib.hid hHeld.1
                have hoa := HTB.out.off HOA.out (by decide)
                have hod := HNQ.out
                replace HOA := Lib.hid (own_off3 HOA.out hoa (.int .i64 (shOf f.sp f.sh).m) (.int .i64 (shOf f.sp f.sh).t) (.int .i64 (shOf f.sp f.sh).s))
                replace HOD := Lib.hid (own_off3 HOD.out hod (.int .i64 (shOf f.sp f.sh).m) (.int .i64 (shOf f.sp f.sh).t) (.int .i64 (shOf f.sp f.sh).s))
                replace HQB := Lib.hid (HQB.out.set3 (.int .i64 (shOf f.sp f.sh).m) (.int .i64 (shOf f.sp f.sh).t) (.int .i64 (shOf f.sp f.sh).s))
                replace HTB := Lib.hid ((((HTB.out.set ⟨qb, 0, none⟩ (.int .i64 (shOf f.sp f.sh).m)).set ⟨qb, 1, none⟩ (.int .i64 (shOf f.sp f.sh).t)).set ⟨qb, 2, none⟩ (.int .i64 (shOf f.sp f.sh).s)))
                replace HTA := Lib.hid ((((HTA.out.set ⟨qb, 0, none⟩ (.int .i64 (shOf f.sp f.sh).m)).set ⟨qb, 1, none⟩ (.int .i64 (shOf f.sp f.sh).t)).set ⟨qb, 2, none⟩ (.int .i64 (shOf f.sp f.sh).s)))
                replace HQA := Lib.hid ((((HQA.out.far ⟨qb, 0, none⟩ (.int .i64 (shOf f.sp f.sh).m) hqq).far ⟨qb, 1, none⟩ (.int .i64 (shOf f.sp f.sh).t) hqq).far ⟨qb, 2, none⟩ (.int .i64 (shOf f.sp f.sh).s) hqq))
                clear hoa hod HBP
                replace hqa : qa < (((y5.setCell ⟨qb, 0, none⟩ (.int .i64 (shOf f.sp f.sh).m)).setCell ⟨qb, 1, none⟩ (.int .i64 (shOf f.sp f.sh).t)).setCell ⟨qb, 2, none⟩ (.int .i64 (shOf f.sp f.sh).s)).heap.size := by simpa using hqa
                replace hqb : qb < (((y5.setCell ⟨qb, 0, none⟩ (.int .i64 (shOf f.sp f.sh).m)).setCell ⟨qb, 1, none⟩ (.int .i64 (shOf f.sp f.sh).t)).setCell ⟨qb, 2, none⟩ (.int .i64 (shOf f.sp f.sh).s)).heap.size := by simpa using hqb
                generalize (((y5.setCell ⟨qb, 0, none⟩ (.int .i64 (shOf f.sp f.sh).m)).setCell ⟨qb, 1, none⟩ (.int .i64 (shOf f.sp f.sh).t)).setCell ⟨qb, 2, none⟩ (.int .i64 (shOf f.sp f.sh).s)) = y6 at hHeld HBN HOA HOD HQA HTA hqa HQB HTB hqb ⊢
                refine wpAnyH_done (by kernel_rfl) ?_ _
                refine NoPanic.normal ?_
                clear hHeld
                go_wp2_with fail
                go_meet
                exact ⟨qa, qb, A1, c1, D1, d1, rfl, rfl, HQA.out, HTA.out, HQB.out, HTB.out, HOA.out, HOD.out, HNQ.out, hBa, hBb, hqq, hqa, hqb, HBN.out⟩
          · have HBP := Lib.hid hHeld.1
            try go_simp
            (first | refine hK.out _ _ ?_ (fun hHeld1 => ?_) | (go_wp2_with fail; refine hK.out _ _ ?_ (fun hHeld1 => ?_)))
            · ((try dsimp only); exact KS (HBP.out.alloc HBP.out.size _))
            clear hK K hHeld
            have hHeld := hHeld1
            clear hHeld1
            try simp only [Act.put, List.setIfInBounds_toArray, List.set_cons_zero, List.set_cons_succ]
            have hb := below1 ud (.cells #[.int .i64 0, .int .i64 0, .int .i64 0, .slice none 0 0, .slice none 0 0] 29)
            have HQA := Lib.hid (BoxF.new5 ud (.int .i64 0) (.int .i64 0) (.int .i64 0) (.slice none 0 0) (.slice none 0 0) 29 ud.heap.size rfl)
            have HTA := Lib.hid (show Ty (ud.alloc (.cells #[.int .i64 0, .int .i64 0, .int .i64 0, .slice none 0 0, .slice none 0 0] 29)) ud.heap.size 29 from ⟨_, _, heap_alloc_new ud _⟩)
            have hqa : ud.heap.size < (ud.alloc (.cells #[.int .i64 0, .int .i64 0, .int .i64 0, .slice none 0 0, .slice none 0 0] 29)).heap.size := by simp
            have hBa := HBP.out.size
            clear hb HBP
            generalize (ud.alloc (.cells #[.int .i64 0, .int .i64 0, .int .i64 0, .slice none 0 0, .slice none 0 0] 29)) = y1 at hHeld HQA HTA hqa hBa ⊢
            generalize ud.heap.size = qa at hHeld HQA HTA hqa hBa ⊢
            refine wpAnyH_ready (rs := [1, 7]) (by kernel_rfl) (by simp) ?_
            refine AllReadyH.cons rfl (fun K hK => ?_) (AllReadyH.cons rfl (fun K hK => ?_) (AllReadyH.nil))
            · go_simp
              (go_at_call 48; refine (newFloor_any A D c d f _ (HA1.out.below hHeld.1) hm0 (HD1.out.below hHeld.1) hn).mono ?_; rintro e y2 ⟨A1, c1, D1, d1, rfl, o1, o2, hb⟩; have hlw := hHeld.1.size; have HBN := Lib.hid (after hHeld.1 hb); have HBC := Lib.hid hb; have HOA := Lib.hid (show World.ownsRow y2 w1.heap.size 3 1 (.slice A1 f.wt.length c1) f.wt.length (IntK.row f.wt) from own_mono o1.1 hlw); have HOD := Lib.hid (show World.ownsRow y2 w1.heap.size 43 3 (.slice D1 f.sh.length d1) f.sh.length (ShareK.row f.sh) from own_mono o2.1 hlw); have HDL := Lib.hid (fun g hg => (o2.1.lt g hg).1); clear hb o1 o2)
              (first | refine hK.out _ _ ?_ (fun hHeld1 => ?_) | (go_wp2_with fail; refine hK.out _ _ ?_ (fun hHeld1 => ?_)))
              · ((try dsimp only); exact KS HBN.out)
              clear hK K hHeld
              have hHeld := hHeld1
              clear hHeld1
              try simp only [Act.put, List.setIfInBounds_toArray, List.set_cons_zero, List.set_cons_succ]
              replace HQA := Lib.hid (HQA.out.below HBC.out hqa)
              replace HTA := Lib.hid (HTA.out.below HBC.out hqa)
              replace hqa := Nat.lt_of_lt_of_le hqa (HBC.out).size
              refine wpAnyH_ready (rs := [5, 7]) (by kernel_rfl) (by simp) ?_
              refine AllReadyH.cons rfl (fun K hK => ?_) (AllReadyH.cons rfl (fun K hK => ?_) (AllReadyH.nil))
              · go_simp
                (go_at_call 61; refine (shareOf_any A D c d f f.sp _ (HD1.out.below hHeld.1) hn).mono ?_; rintro e y3 ⟨rfl, hb⟩; have HBN := Lib.hid (after hHeld.1 hb); have HBC := Lib.hid hb; clear hb)
                (first | refine hK.out _ _ ?_ (fun hHeld1 => ?_) | (go_wp2_with fail; refine hK.out _ _ ?_ (fun hHeld1 => ?_)))
                · ((try dsimp only); exact KS HBN.out)
                clear hK K hHeld
                have hHeld := hHeld1
                clear hHeld1
                try simp only [Act.put, List.setIfInBounds_toArray, List.set_cons_zero, List.set_cons_succ]
                replace HOA := Lib.hid (own_keep HOA.out HBC.out)
                replace HOD := Lib.hid (own_keep HOD.out HBC.out)
                replace HQA := Lib.hid (HQA.out.below HBC.out hqa)
                replace HTA := Lib.hid (HTA.out.below HBC.out hqa)
                replace hqa := Nat.lt_of_lt_of_le hqa (HBC.out).size
                refine wpAnyH_ready (rs := [7]) (by kernel_rfl) (by simp) ?_
                refine AllReadyH.cons rfl (fun K hK => ?_) (AllReadyH.nil)
                have HBP := Lib.hid hHeld.1
                have HODB := Lib.hid (fun g (hg : (Value.slice D1 f.sh.length d1).ownBlock = some g) => (HOD.out.lt g hg).2)
                try go_simp
                (first | refine hK.out _ _ ?_ (fun hHeld1 => ?_) | (go_wp2_with fail; refine hK.out _ _ ?_ (fun hHeld1 => ?_)))
                · ((try dsimp only); exact KS (HBP.out.alloc HBP.out.size _))
                clear hK K hHeld
                have hHeld := hHeld1
                clear hHeld1
                try simp only [Act.put, List.setIfInBounds_toArray, List.set_cons_zero, List.set_cons_succ]
                have hqq : qa ≠ y3.heap.size := by omega
                have hb := below1 y3 (.cells #[.int .i64 0, .int .i64 0, .int .i64 0] 43)
                replace HOA := Lib.hid (own_keep HOA.out hb)
                replace HOD := Lib.hid (own_keep HOD.out hb)
                replace HQA := Lib.hid (HQA.out.below hb hqa)
                replace HTA := Lib.hid (HTA.out.below hb hqa)
                replace hqa := Nat.lt_of_lt_of_le hqa (hb).size
                have HQB := Lib.hid (BoxF.new3 y3 (.int .i64 0) (.int .i64 0) (.int .i64 0) 43 y3.heap.size rfl)
                have HTB := Lib.hid (show Ty (y3.alloc (.cells #[.int .i64 0, .int .i64 0, .int .i64 0] 43)) y3.heap.size 43 from ⟨_, _, heap_alloc_new y3 _⟩)
                have hqb : y3.heap.size < (y3.alloc (.cells #[.int .i64 0, .int .i64 0, .int .i64 0] 43)).heap.size := by simp
                have hBb := HBP.out.size
                have HNQ : Hid ((Value.slice D1 f.sh.length d1).ownBlock ≠ some y3.heap.size) := Lib.hid (fun e => absurd (HODB.out _ e) (Nat.lt_irrefl _))
                clear hb HBP HODB
                generalize (y3.alloc (.cells #[.int .i64 0, .int .i64 0, .int .i64 0] 43)) = y4 at hHeld HOA HOD HQA HTA hqa hBa HQB HTB hqb hBb HNQ hqq ⊢
                generalize y3.heap.size = qb at hHeld HOA HOD HQA HTA hqa hBa HQB HTB hqb hBb HNQ hqq ⊢
                refine wpAnyH_ready (rs := [8]) (by kernel_rfl) (by simp) ?_
                refine AllReadyH.cons rfl (fun K hK => ?_) (AllReadyH.nil)
                have HBP := Lib.hid hHeld.1
                have hsc : y4.setCells qa 0 (#[.int .i64 f.t, .int .i64 f.s, .int .i64 f.sp, .slice A1 f.wt.length c1, .slice D1 f.sh.length d1] : Array Value).toList = (((((y4.setCell ⟨qa, 0, none⟩ (.int .i64 f.t)).setCell ⟨qa, 1, none⟩ (.int .i64 f.s)).setCell ⟨qa, 2, none⟩ (.int .i64 f.sp)).setCell ⟨qa, 3, none⟩ (.slice A1 f.wt.length c1)).setCell ⟨qa, 4, none⟩ (.slice D1 f.sh.length d1)) := rfl
                rw [if_pos (by kernel_rfl)]
                refine wp_store_mid 29 _ _ (by rfl) qa 0 #[.int .i64 f.t, .int .i64 f.s, .int .i64 f.sp, .slice A1 f.wt.length c1, .slice D1 f.sh.length d1] (by rfl) (by rfl) HQA.out.there (by kernel_rfl) (by simp [Value.oneCell']) ?_
                rw [hsc]
                clear hsc
                (first | refine hK.out _ _ ?_ (fun hHeld1 => ?_) | (go_wp2_with fail; refine hK.out _ _ ?_ (fun hHeld1 => ?_)))
                · ((try dsimp only); exact KS ((((((HBP.out.setCell hBa _).setCell hBa _).setCell hBa _).setCell hBa _).setCell hBa _)))
                clear hK K hHeld
                have hHeld := hHeld1
                clear hHeld1
                try simp only [Act.put, List.setIfInBounds_toArray, List.set_cons_zero, List.set_cons_succ]
                have HBN := Lib.hid hHeld.1
                have hoa := HTA.out.off HOA.out (by decide)
                have hod := HTA.out.off HOD.out (by decide)
                replace HOA := Lib.hid (own_off5 HOA.out hoa (.int .i64 f.t) (.int .i64 f.s) (.int .i64 f.sp) (.slice A1 f.wt.length c1) (.slice D1 f.sh.length d1))
                replace HOD := Lib.hid (own_off5 HOD.out hod (.int .i64 f.t) (.int .i64 f.s) (.int .i64 f.sp) (.slice A1 f.wt.length c1) (.slice D1 f.sh.length d1))
                replace HQA := Lib.hid (HQA.out.set5 (.int .i64 f.t) (.int .i64 f.s) (.int .i64 f.sp) (.slice A1 f.wt.length c1) (.slice D1 f.sh.length d1))
                replace HTA := Lib.hid ((((((HTA.out.set ⟨qa, 0, none⟩ (.int .i64 f.t)).set ⟨qa, 1, none⟩ (.int .i64 f.s)).set ⟨qa, 2, none⟩ (.int .i64 f.sp)).set ⟨qa, 3, none⟩ (.slice A1 f.wt.length c1)).set ⟨qa, 4, none⟩ (.slice D1 f.sh.length d1)))
                replace HTB := Lib.hid ((((((HTB.out.set ⟨qa, 0, none⟩ (.int .i64 f.t)).set ⟨qa, 1, none⟩ (.int .i64 f.s)).set ⟨qa, 2, none⟩ (.int .i64 f.sp)).set ⟨qa, 3, none⟩ (.slice A1 f.wt.length c1)).set ⟨qa, 4, none⟩ (.slice D1 f.sh.length d1)))
                replace HQB := Lib.hid ((((((HQB.out.far ⟨qa, 0, none⟩ (.int .i64 f.t) (Ne.symm hqq)).far ⟨qa, 1, none⟩ (.int .i64 f.s) (Ne.symm hqq)).far ⟨qa, 2, none⟩ (.int .i64 f.sp) (Ne.symm hqq)).far ⟨qa, 3, none⟩ (.slice A1 f.wt.length c1) (Ne.symm hqq)).far ⟨qa, 4, none⟩ (.slice D1 f.sh.length d1) (Ne.symm hqq)))
                clear hoa hod HBP
                replace hqa : qa < (((((y4.setCell ⟨qa, 0, none⟩ (.int .i64 f.t)).setCell ⟨qa, 1, none⟩ (.int .i64 f.s)).setCell ⟨qa, 2, none⟩ (.int .i64 f.sp)).setCell ⟨qa, 3, none⟩ (.slice A1 f.wt.length c1)).setCell ⟨qa, 4, none⟩ (.slice D1 f.sh.length d1)).heap.size := by simpa using hqa
                replace hqb : qb < (((((y4.setCell ⟨qa, 0, none⟩ (.int .i64 f.t)).setCell ⟨qa, 1, none⟩ (.int .i64 f.s)).setCell ⟨qa, 2, none⟩ (.int .i64 f.sp)).setCell ⟨qa, 3, none⟩ (.slice A1 f.wt.length c1)).setCell ⟨qa, 4, none⟩ (.slice D1 f.sh.length d1)).heap.size := by simpa using hqb
                generalize (((((y4.setCell ⟨qa, 0, none⟩ (.int .i64 f.t)).setCell ⟨qa, 1, none⟩ (.int .i64 f.s)).setCell ⟨qa, 2, none⟩ (.int .i64 f.sp)).setCell ⟨qa, 3, none⟩ (.slice A1 f.wt.length c1)).setCell ⟨qa, 4, none⟩ (.slice D1 f.sh.length d1)) = y5 at hHeld HBN HOA HOD HQA HTA hqa HQB HTB hqb ⊢
                refine wpAnyH_ready (rs := [9]) (by kernel_rfl) (by simp) ?_
                refine AllReadyH.cons rfl (fun K hK => ?_) (AllReadyH.nil)
                have HBP := Lib.hid hHeld.1
                have hsc : y5.setCells qb 0 (#[.int .i64 (shOf f.sp f.sh).m, .int .i64 (shOf f.sp f.sh).t, .int .i64 (shOf f.sp f.sh).s] : Array Value).toList = (((y5.setCell ⟨qb, 0, none⟩ (.int .i64 (shOf f.sp f.sh).m)).setCell ⟨qb, 1, none⟩ (.int .i64 (shOf f.sp f.sh).t)).setCell ⟨qb, 2, none⟩ (.int .i64 (shOf f.sp f.sh).s)) := rfl
                rw [if_pos (by kernel_rfl)]
                refine wp_store_mid 43 _ _ (by rfl) qb 0 #[.int .i64 (shOf f.sp f.sh).m, .int .i64 (shOf f.sp f.sh).t, .int .i64 (shOf f.sp f.sh).s] (by rfl) (by rfl) HQB.out.there (by kernel_rfl) (by simp [Value.oneCell']) ?_
                rw [hsc]
                clear hsc
                (first | refine hK.out _ _ ?_ (fun hHeld1 => ?_) | (go_wp2_with fail; refine hK.out _ _ ?_ (fun hHeld1 => ?_)))
                · ((try dsimp only); exact KS ((((HBP.out.setCell hBb _).setCell hBb _).setCell hBb _)))
                clear hK K hHeld
                have hHeld := hHeld1
                clear hHeld1
                try simp only [Act.put, List.setIfInBounds_toArray, List.set_cons_zero, List.set_cons_succ]
                have HBN := Lib.hid hHeld.1
                have hoa := HTB.out.off HOA.out (by decide)
                have hod := HNQ.out
                replace HOA := Lib.hid (own_off3 HOA.out hoa (.int .i64 (shOf f.sp f.sh).m) (.int .i64 (shOf f.sp f.sh).t) (.int .i64 (shOf f.sp f.sh).s))
                replace HOD := Lib.hid (own_off3 HOD.out hod (.int .i64 (shOf f.sp f.sh).m) (.int .i64 (shOf f.sp f.sh).t) (.int .i64 (shOf f.sp f.sh).s))
                replace HQB := Lib.hid (HQB.out.set3 (.int .i64 (shOf f.sp f.sh).m) (.int .i64 (shOf f.sp f.sh).t) (.int .i64 (shOf f.sp f.sh).s))
                replace HTB := Lib.hid ((((HTB.out.set ⟨qb, 0, none⟩ (.int .i64 (shOf f.sp f.sh).m)).set ⟨qb, 1, none⟩ (.int .i64 (shOf f.sp f.sh).t)).set ⟨qb, 2, none⟩ (.int .i64 (shOf f.sp f.sh).s)))
                replace HTA := Lib.hid ((((HTA.out.set ⟨qb, 0, none⟩ (.int .i64 (shOf f.sp f.sh).m)).set ⟨qb, 1, none⟩ (.int .i64 (shOf f.sp f.sh).t)).set ⟨qb, 2, none⟩ (.int .i64 (shOf f.sp f.sh).s)))
                replace HQA := Lib.hid ((((HQA.out.far ⟨qb, 0, none⟩ (.int .i64 (shOf f.sp f.sh).m) hqq).far ⟨qb, 1, none⟩ (.int .i64 (shOf f.sp f.sh).t) hqq).far ⟨qb, 2, none⟩ (.int .i64 (shOf f.sp f.sh).s) hqq))
                clear hoa hod HBP
                replace hqa : qa < (((y5.setCell ⟨qb, 0, none⟩ (.int .i64 (shOf f.sp f.sh).m)).setCell ⟨qb, 1, none⟩ (.int .i64 (shOf f.sp f.sh).t)).setCell ⟨qb, 2, none⟩ (.int .i64 (shOf f.sp f.sh).s)).heap.size := by simpa using hqa
                replace hqb : qb < (((y5.setCell ⟨qb, 0, none⟩ (.int .i64 (shOf f.sp f.sh).m)).setCell ⟨qb, 1, none⟩ (.int .i64 (shOf f.sp f.sh).t)).setCell ⟨qb, 2, none⟩ (.int .i64 (shOf f.sp f.sh).s)).heap.size := by simpa using hqb
                generalize (((y5.setCell ⟨qb, 0, none⟩ (.int .i64 (shOf f.sp f.sh).m)).setCell ⟨qb, 1, none⟩ (.int .i64 (shOf f.sp f.sh).t)).setCell ⟨qb, 2, none⟩ (.int .i64 (shOf f.sp f.sh).s)) = y6 at hHeld HBN HOA HOD HQA HTA hqa HQB HTB hqb ⊢
                refine wpAnyH_done (by kernel_rfl) ?_ _
                refine NoPanic.normal ?_
                clear hHeld
                go_wp2_with fail
                go_meet
                exact ⟨qa, qb, A1, c1, D1, d1, rfl, rfl, HQA.out, HTA.out, HQB.out, HTB.out, HOA.out, HOD.out, HNQ.out, hBa, hBb, hqq, hqa, hqb, HBN.out⟩
              · have HBP := Lib.hid hHeld.1
                have HODB := Lib.hid (fun g (hg : (Value.slice D1 f.sh.length d1).ownBlock = some g) => (HOD.out.lt g hg).2)
                try go_simp
                (first | refine hK.out _ _ ?_ (fun hHeld1 => ?_) | (go_wp2_with fail; refine hK.out _ _ ?_ (fun hHeld1 => ?_)))
                · ((try dsimp only); exact KS (HBP.out.alloc HBP.out.size _))
                clear hK K hHeld
                have hHeld := hHeld1
                clear hHeld1
                try simp only [Act.put, List.setIfInBounds_toArray, List.set_cons_zero, List.set_cons_succ]
                have hqq : qa ≠ y2.heap.size := by omega
                have hb := below1 y2 (.cells #[.int .i64 0, .int .i64 0, .int .i64 0] 43)
                replace HOA := Lib.hid (own_keep HOA.out hb)
                replace HOD := Lib.hid (own_keep HOD.out hb)
                replace HQA := Lib.hid (HQA.out.below hb hqa)
                replace HTA := Lib.hid (HTA.out.below hb hqa)
                replace hqa := Nat.lt_of_lt_of_le hqa (hb).size
                have HQB := Lib.hid (BoxF.new3 y2 (.int .i64 0) (.int .i64 0) (.int .i64 0) 43 y2.heap.size rfl)
                have HTB := Lib.hid (show Ty (y2.alloc (.cells #[.int .i64 0, .int .i64 0, .int .i64 0] 43)) y2.heap.size 43 from ⟨_, _, heap_alloc_new y2 _⟩)
                have hqb : y2.heap.size < (y2.alloc (.cells #[.int .i64 0, .int .i64 0, .int .i64 0] 43)).heap.size := by simp
                have hBb := HBP.out.size
                have HNQ : Hid ((Value.slice D1 f.sh.length d1).ownBlock ≠ some y2.heap.size) := Lib.hid (fun e => absurd (HODB.out _ e) (Nat.lt_irrefl _))
                clear hb HBP HODB
                generalize (y2.alloc (.cells #[.int .i64 0, .int .i64 0, .int .i64 0] 43)) = y3 at hHeld HOA HOD HQA HTA hqa hBa HQB HTB hqb hBb HNQ hqq ⊢
                generalize y2.heap.size = qb at hHeld HOA HOD HQA HTA hqa hBa HQB HTB hqb hBb HNQ hqq ⊢
                refine wpAnyH_ready (rs := [5]) (by kernel_rfl) (by simp) ?_
                refine AllReadyH.cons rfl (fun K hK => ?_) (AllReadyH.nil)
                go_simp
                (go_at_call 61; refine (shareOf_any A D c d f f.sp _ (HD1.out.below hHeld.1) hn).mono ?_; rintro e y4 ⟨rfl, hb⟩; have HBN := Lib.hid (after hHeld.1 hb); have HBC := Lib.hid hb; clear hb)
                (first | refine hK.out _ _ ?_ (fun hHeld1 => ?_) | (go_wp2_with fail; refine hK.out _ _ ?_ (fun hHeld1 => ?_)))
                · ((try dsimp only); exact KS HBN.out)
                clear hK K hHeld
                have hHeld := hHeld1
                clear hHeld1
                try simp only [Act.put, List.setIfInBounds_toArray, List.set_cons_zero, List.set_cons_succ]
                replace HOA := Lib.hid (own_keep HOA.out HBC.out)
                replace HOD := Lib.hid (own_keep HOD.out HBC.out)
                replace HQA := Lib.hid (HQA.out.below HBC.out hqa)
                replace HTA := Lib.hid (HTA.out.below HBC.out hqa)
                replace hqa := Nat.lt_of_lt_of_le hqa (HBC.out).size
                replace HQB := Lib.hid (HQB.out.below HBC.out hqb)
                replace HTB := Lib.hid (HTB.out.below HBC.out hqb)
                replace hqb := Nat.lt_of_lt_of_le hqb (HBC.out).size
                refine wpAnyH_ready (rs := [8]) (by kernel_rfl) (by simp) ?_
                refine AllReadyH.cons rfl (fun K hK => ?_) (AllReadyH.nil)
                have HBP := Lib.hid hHeld.1
                have hsc : y4.setCells qa 0 (#[.int .i64 f.t, .int .i64 f.s, .int .i64 f.sp, .slice A1 f.wt.length c1, .slice D1 f.sh.length d1] : Array Value).toList = (((((y4.setCell ⟨qa, 0, none⟩ (.int .i64 f.t)).setCell ⟨qa, 1, none⟩ (.int .i64 f.s)).setCell ⟨qa, 2, none⟩ (.int .i64 f.sp)).setCell ⟨qa, 3, none⟩ (.slice A1 f.wt.length c1)).setCell ⟨qa, 4, none⟩ (.slice D1 f.sh.length d1)) := rfl
                rw [if_pos (by kernel_rfl)]
                refine wp_store_mid 29 _ _ (by rfl) qa 0 #[.int .i64 f.t, .int .i64 f.s, .int .i64 f.sp, .slice A1 f.wt.length c1, .slice D1 f.sh.length d1] (by rfl) (by rfl) HQA.out.there (by kernel_rfl) (by simp [Value.oneCell']) ?_
                rw [hsc]
                clear hsc
                (first | refine hK.out _ _ ?_ (fun hHeld1 => ?_) | (go_wp2_with fail; refine hK.out _ _ ?_ (fun hHeld1 => ?_)))
                · ((try dsimp only); exact KS ((((((HBP.out.setCell hBa _).setCell hBa _).setCell hBa _).setCell hBa _).setCell hBa _)))
                clear hK K hHeld
                have hHeld := hHeld1
                clear hHeld1
                try simp only [Act.put, List.setIfInBounds_toArray, List.set_cons_zero, List.set_cons_succ]
                have HBN := Lib.hid hHeld.1
                have hoa := HTA.out.off HOA.out (by decide)
                have hod := HTA.out.off HOD.out (by decide)
                replace HOA := Lib.hid (own_off5 HOA.out hoa (.int .i64 f.t) (.int .i64 f.s) (.int .i64 f.sp) (.slice A1 f.wt.length c1) (.slice D1 f.sh.length d1))
                replace HOD := Lib.hid (own_off5 HOD.out hod (.int .i64 f.t) (.int .i64 f.s) (.int .i64 f.sp) (.slice A1 f.wt.length c1) (.slice D1 f.sh.length d1))
                replace HQA := Lib.hid (HQA.out.set5 (.int .i64 f.t) (.int .i64 f.s) (.int .i64 f.sp) (.slice A1 f.wt.length c1) (.slice D1 f.sh.length d1))
                replace HTA := Lib.hid ((((((HTA.out.set ⟨qa, 0, none⟩ (.int .i64 f.t)).set ⟨qa, 1, none⟩ (.int .i64 f.s)).set ⟨qa, 2, none⟩ (.int .i64 f.sp)).set ⟨qa, 3, none⟩ (.slice A1 f.wt.length c1)).set ⟨qa, 4, none⟩ (.slice D1 f.sh.length d1)))
                replace HTB := Lib.hid ((((((HTB.out.set ⟨qa, 0, none⟩ (.int .i64 f.t)).set ⟨qa, 1, none⟩ (.int .i64 f.s)).set ⟨qa, 2, none⟩ (.int .i64 f.sp)).set ⟨qa, 3, none⟩ (.slice A1 f.wt.length c1)).set ⟨qa, 4, none⟩ (.slice D1 f.sh.length d1)))
                replace HQB := Lib.hid ((((((HQB.out.far ⟨qa, 0, none⟩ (.int .i64 f.t) (Ne.symm hqq)).far ⟨qa, 1, none⟩ (.int .i64 f.s) (Ne.symm hqq)).far ⟨qa, 2, none⟩ (.int .i64 f.sp) (Ne.symm hqq)).far ⟨qa, 3, none⟩ (.slice A1 f.wt.length c1) (Ne.symm hqq)).far ⟨qa, 4, none⟩ (.slice D1 f.sh.length d1) (Ne.symm hqq)))
                clear hoa hod HBP
                replace hqa : qa < (((((y4.setCell ⟨qa, 0, none⟩ (.int .i64 f.t)).setCell ⟨qa, 1, none⟩ (.int .i64 f.s)).setCell ⟨qa, 2, none⟩ (.int .i64 f.sp)).setCell ⟨qa, 3, none⟩ (.slice A1 f.wt.length c1)).setCell ⟨qa, 4, none⟩ (.slice D1 f.sh.length d1)).heap.size := by simpa using hqa
                replace hqb : qb < (((((y4.setCell ⟨qa, 0, none⟩ (.int .i64 f.t)).setCell ⟨qa, 1, none⟩ (.int .i64 f.s)).setCell ⟨qa, 2, none⟩ (.int .i64 f.sp)).setCell ⟨qa, 3, none⟩ (.slice A1 f.wt.length c1)).setCell ⟨qa, 4, none⟩ (.slice D1 f.sh.length d1)).heap.size := by simpa using hqb
                generalize (((((y4.setCell ⟨qa, 0, none⟩ (.int .i64 f.t)).setCell ⟨qa, 1, none⟩ (.int .i64 f.s)).setCell ⟨qa, 2, none⟩ (.int .i64 f.sp)).setCell ⟨qa, 3, none⟩ (.slice A1 f.wt.length c1)).setCell ⟨qa, 4, none⟩ (.slice D1 f.sh.length d1)) = y5 at hHeld HBN HOA HOD HQA HTA hqa HQB HTB hqb ⊢
                refine wpAnyH_ready (rs := [9]) (by kernel_rfl) (by simp) ?_
                refine AllReadyH.cons rfl (fun K hK => ?_) (AllReadyH.nil)
                have HBP := Lib.hid hHeld.1
                have hsc : y5.setCells qb 0 (#[.int .i64 (shOf f.sp f.sh).m, .int .i64 (shOf f.sp f.sh).t, .int .i64 (shOf f.sp f.sh).s] : Array Value).toList = (((y5.setCell ⟨qb, 0, none⟩ (.int .i64 (shOf f.sp f.sh).m)).setCell ⟨qb, 1, none⟩ (.int .i64 (shOf f.sp f.sh).t)).setCell ⟨qb, 2, none⟩ (.int .i64 (shOf f.sp f.sh).s)) := rfl
                rw [if_pos (by kernel_rfl)]
                refine wp_store_mid 43 _ _ (by rfl) qb 0 #[.int .i64 (shOf f.sp f.sh).m, .int .i64 (shOf f.sp f.sh).t, .int .i64 (shOf f.sp f.sh).s] (by rfl) (by rfl) HQB.out.there (by kernel_rfl) (by simp [Value.oneCell']) ?_
                rw [hsc]
                clear hsc
                (first | refine hK.out _ _ ?_ (fun hHeld1 => ?_) | (go_wp2_with fail; refine hK.out _ _ ?_ (fun hHeld1 => ?_)))
                · ((try dsimp only); exact KS ((((HBP.out.setCell hBb _).setCell hBb _).setCell hBb _)))
                clear hK K hHeld
                have hHeld := hHeld1
                clear hHeld1
                try simp only [Act.put, List.setIfInBounds_toArray, List.set_cons_zero, List.set_cons_succ]
                have HBN := Lib.hid hHeld.1
                have hoa := HTB.out.off HOA.out (by decide)
                have hod := HNQ.out
                replace HOA := Lib.hid (own_off3 HOA.out hoa (.int .i64 (shOf f.sp f.sh).m) (.int .i64 (shOf f.sp f.sh).t) (.int .i64 (shOf f.sp f.sh).s))
                replace HOD := Lib.hid (own_off3 HOD.out hod (.int .i64 (shOf f.sp f.sh).m) (.int .i64 (shOf f.sp f.sh).t) (.int .i64 (shOf f.sp f.sh).s))
                replace HQB := Lib.hid (HQB.out.set3 (.int .i64 (shOf f.sp f.sh).m) (.int .i64 (shOf f.sp f.sh).t) (.int .i64 (shOf f.sp f.sh).s))
                replace HTB := Lib.hid ((((HTB.out.set ⟨qb, 0, none⟩ (.int .i64 (shOf f.sp f.sh).m)).set ⟨qb, 1, none⟩ (.int .i64 (shOf f.sp f.sh).t)).set ⟨qb, 2, none⟩ (.int .i64 (shOf f.sp f.sh).s)))
                replace HTA := Lib.hid ((((HTA.out.set ⟨qb, 0, none⟩ (.int .i64 (shOf f.sp f.sh).m)).set ⟨qb, 1, none⟩ (.int .i64 (shOf f.sp f.sh).t)).set ⟨qb, 2, none⟩ (.int .i64 (shOf f.sp f.sh).s)))
                replace HQA := Lib.hid ((((HQA.out.far ⟨qb, 0, none⟩ (.int .i64 (shOf f.sp f.sh).m) hqq).far ⟨qb, 1, none⟩ (.int .i64 (shOf f.sp f.sh).t) hqq).far ⟨qb, 2, none⟩ (.int .i64 (shOf f.sp f.sh).s) hqq))
                clear hoa hod HBP
                replace hqa : qa < (((y5.setCell ⟨qb, 0, none⟩ (.int .i64 (shOf f.sp f.sh).m)).setCell ⟨qb, 1, none⟩ (.int .i64 (shOf f.sp f.sh).t)).setCell ⟨qb, 2, none⟩ (.int .i64 (shOf f.sp f.sh).s)).heap.size := by simpa using hqa
                replace hqb : qb < (((y5.setCell ⟨qb, 0, none⟩ (.int .i64 (shOf f.sp f.sh).m)).setCell ⟨qb, 1, none⟩ (.int .i64 (shOf f.sp f.sh).t)).setCell ⟨qb, 2, none⟩ (.int .i64 (shOf f.sp f.sh).s)).heap.size := by simpa using hqb
                generalize (((y5.setCell ⟨qb, 0, none⟩ (.int .i64 (shOf f.sp f.sh).m)).setCell ⟨qb, 1, none⟩ (.int .i64 (shOf f.sp f.sh).t)).setCell ⟨qb, 2, none⟩ (.int .i64 (shOf f.sp f.sh).s)) = y6 at hHeld HBN HOA HOD HQA HTA hqa HQB HTB hqb ⊢
                refine wpAnyH_done (by kernel_rfl) ?_ _
                refine NoPanic.normal ?_
                clear hHeld
                go_wp2_with fail
                go_meet
                exact ⟨qa, qb, A1, c1, D1, d1, rfl, rfl, HQA.out, HTA.out, HQB.out, HTB.out, HOA.out, HOD.out, HNQ.out, hBa, hBb, hqq, hqa, hqb, HBN.out⟩
            · have HBP := Lib.hid hHeld.1
              try go_simp
              (first | refine hK.out _ _ ?_ (fun hHeld1 => ?_) | (go_wp2_with fail; refine hK.out _ _ ?_ (fun hHeld1 => ?_)))
              · ((try dsimp only); exact KS (HBP.out.alloc HBP.out.size _))
              clear hK K hHeld
              have hHeld := hHeld1
              clear hHeld1
              try simp only [Act.put, List.setIfInBounds_toArray, List.set_cons_zero, List.set_cons_succ]
              have hqq : qa ≠ y1.heap.size := by omega
              have hb := below1 y1 (.cells #[.int .i64 0, .int .i64 0, .int .i64 0] 43)
              replace HQA := Lib.hid (HQA.out.below hb hqa)
              replace HTA := Lib.hid (HTA.out.below hb hqa)
              replace hqa := Nat.lt_of_lt_of_le hqa (hb).size
              have HQB := Lib.hid (BoxF.new3 y1 (.int .i64 0) (.int .i64 0) (.int .i64 0) 43 y1.heap.size rfl)
              have HTB := Lib.hid (show Ty (y1.alloc (.cells #[.int .i64 0, .int .i64 0, .int .i64 0] 43)) y1.heap.size 43 from ⟨_, _, heap_alloc_new y1 _⟩)
              have hqb : y1.heap.size < (y1.alloc (.cells #[.int .i64 0, .int .i64 0, .int .i64 0] 43)).heap.size := by simp
              have hBb := HBP.out.size
              clear hb HBP
              generalize (y1.alloc (.cells #[.int .i64 0, .int .i64 0, .int .i64 0] 43)) = y2 at hHeld HQA HTA hqa hBa HQB HTB hqb hBb hqq ⊢
              generalize y1.heap.size = qb at hHeld HQA HTA hqa hBa HQB HTB hqb hBb hqq ⊢
              refine wpAnyH_ready (rs := [1]) (by kernel_rfl) (by simp) ?_
              refine AllReadyH.cons rfl (fun K hK => ?_) (AllReadyH.nil)
              go_simp
              (go_at_call 48; refine (newFloor_any A D c d f _ (HA1.out.below hHeld.1) hm0 (HD1.out.below hHeld.1) hn).mono ?_; rintro e y3 ⟨A1, c1, D1, d1, rfl, o1, o2, hb⟩; have hlw := hHeld.1.size; have HBN := Lib.hid (after hHeld.1 hb); have HBC := Lib.hid hb; have HOA := Lib.hid (show World.ownsRow y3 w1.heap.size 3 1 (.slice A1 f.wt.length c1) f.wt.length (IntK.row f.wt) from own_mono o1.1 hlw); have HOD := Lib.hid (show World.ownsRow y3 w1.heap.size 43 3 (.slice D1 f.sh.length d1) f.sh.length (ShareK.row f.sh) from own_mono o2.1 hlw); have HDL := Lib.hid (fun g hg => (o2.1.lt g hg).1); clear hb o1 o2)
              (first | refine hK.out _ _ ?_ (fun hHeld1 => ?_) | (go_wp2_with fail; refine hK.out _ _ ?_ (fun hHeld1 => ?_)))
              · ((try dsimp only); exact KS HBN.out)
              clear hK K hHeld
              have hHeld := hHeld1
              clear hHeld1
              try simp only [Act.put, List.setIfInBounds_toArray, List.set_cons_zero, List.set_cons_succ]
              have HNQ : Hid ((Value.slice D1 f.sh.length d1).ownBlock ≠ some qb) := Lib.hid (fun e => by have := HDL.out _ e; omega)
              replace HQA := Lib.hid (HQA.out.below HBC.out hqa)
              replace HTA := Lib.hid (HTA.out.below HBC.out hqa)
              replace hqa := Nat.lt_of_lt_of_le hqa (HBC.out).size
              replace HQB := Lib.hid (HQB.out.below HBC.out hqb)
              replace HTB := Lib.hid (HTB.out.below HBC.out hqb)
              replace hqb := Nat.lt_of_lt_of_le hqb (HBC.out).size
              refine wpAnyH_ready (rs := [5]) (by kernel_rfl) (by simp) ?_
              refine AllReadyH.cons rfl (fun K hK => ?_) (AllReadyH.nil)
              go_simp
              (go_at_call 61; refine (shareOf_any A D c d f f.sp _ (HD1.out.below hHeld.1) hn).mono ?_; rintro e y4 ⟨rfl, hb⟩; have HBN := Lib.hid (after hHeld.1 hb); have HBC := Lib.hid hb; clear hb)
              (first | refine hK.out _ _ ?_ (fun hHeld1 => ?_) | (go_wp2_with fail; refine hK.out _ _ ?_ (fun hHeld1 => ?_)))
              · ((try dsimp only); exact KS HBN.out)
              clear hK K hHeld
              have hHeld := hHeld1
              clear hHeld1
              try simp only [Act.put, List.setIfInBounds_toArray, List.set_cons_zero, List.set_cons_succ]
              replace HOA := Lib.hid (own_keep HOA.out HBC.out)
              replace HOD := Lib.hid (own_keep HOD.out HBC.out)
              replace HQA := Lib.hid (HQA.out.below HBC.out hqa)
              replace HTA := Lib.hid (HTA.out.below HBC.out hqa)
              replace hqa := Nat.lt_of_lt_of_le hqa (HBC.out).size
              replace HQB := Lib.hid (HQB.out.below HBC.out hqb)
              replace HTB := Lib.hid (HTB.out.below HBC.out hqb)
              replace hqb := Nat.lt_of_lt_of_le hqb (HBC.out).size
              refine wpAnyH_ready (rs := [8]) (by kernel_rfl) (by simp) ?_
              refine AllReadyH.cons rfl (fun K hK => ?_) (AllReadyH.nil)
              have HBP := Lib.hid hHeld.1
              have hsc : y4.setCells qa 0 (#[.int .i64 f.t, .int .i64 f.s, .int .i64 f.sp, .slice A1 f.wt.length c1, .slice D1 f.sh.length d1] : Array Value).toList = (((((y4.setCell ⟨qa, 0, none⟩ (.int .i64 f.t)).setCell ⟨qa, 1, none⟩ (.int .i64 f.s)).setCell ⟨qa, 2, none⟩ (.int .i64 f.sp)).setCell ⟨qa, 3, none⟩ (.slice A1 f.wt.length c1)).setCell ⟨qa, 4, none⟩ (.slice D1 f.sh.length d1)) := rfl
              rw [if_pos (by kernel_rfl)]
              refine wp_store_mid 29 _ _ (by rfl) qa 0 #[.int .i64 f.t, .int .i64 f.s, .int .i64 f.sp, .slice A1 f.wt.length c1, .slice D1 f.sh.length d1] (by rfl) (by rfl) HQA.out.there (by kernel_rfl) (by simp [Value.oneCell']) ?_
              rw [hsc]
              clear hsc
              (first | refine hK.out _ _ ?_ (fun hHeld1 => ?_) | (go_wp2_with fail; refine hK.out _ _ ?_ (fun hHeld1 => ?_)))
              · ((try dsimp only); exact KS ((((((HBP.out.setCell hBa _).setCell hBa _).setCell hBa _).setCell hBa _).setCell hBa _)))
              clear hK K hHeld
              have hHeld := hHeld1
              clear hHeld1
              try simp only [Act.put, List.setIfInBounds_toArray, List.set_cons_zero, List.set_cons_succ]
              have HBN := Lib.hid hHeld.1
              have hoa := HTA.out.off HOA.out (by decide)
              have hod := HTA.out.off HOD.out (by decide)
              replace HOA := Lib.hid (own_off5 HOA.out hoa (.int .i64 f.t) (.int .i64 f.s) (.int .i64 f.sp) (.slice A1 f.wt.length c1) (.slice D1 f.sh.length d1))
              replace HOD := Lib.hid (own_off5 HOD.out hod (.int .i64 f.t) (.int .i64 f.s) (.int .i64 f.sp) (.slice A1 f.wt.length c1) (.slice D1 f.sh.length d1))
              replace HQA := Lib.hid (HQA.out.set5 (.int .i64 f.t) (.int .i64 f.s) (.int .i64 f.sp) (.slice A1 f.wt.length c1) (.slice D1 f.sh.length d1))
              replace HTA := Lib.hid ((((((HTA.out.set ⟨qa, 0, none⟩ (.int .i64 f.t)).set ⟨qa, 1, none⟩ (.int .i64 f.s)).set ⟨qa, 2, none⟩ (.int .i64 f.sp)).set ⟨qa, 3, none⟩ (.slice A1 f.wt.length c1)).set ⟨qa, 4, none⟩ (.slice D1 f.sh.length d1)))
              replace HTB := Lib.hid ((((((HTB.out.set ⟨qa, 0, none⟩ (.int .i64 f.t)).set ⟨qa, 1, none⟩ (.int .i64 f.s)).set ⟨qa, 2, none⟩ (.int .i64 f.sp)).set ⟨qa, 3, none⟩ (.slice A1 f.wt.length c1)).set ⟨qa, 4, none⟩ (.slice D1 f.sh.length d1)))
              replace HQB := Lib.hid ((((((HQB.out.far ⟨qa, 0, none⟩ (.int .i64 f.t) (Ne.symm hqq)).far ⟨qa, 1, none⟩ (.int .i64 f.s) (Ne.symm hqq)).far ⟨qa, 2, none⟩ (.int .i64 f.sp) (Ne.symm hqq)).far ⟨qa, 3, none⟩ (.slice A1 f.wt.length c1) (Ne.symm hqq)).far ⟨qa, 4, none⟩ (.slice D1 f.sh.length d1) (Ne.symm hqq)))
              clear hoa hod HBP
              replace hqa : qa < (((((y4.setCell ⟨qa, 0, none⟩ (.int .i64 f.t)).setCell ⟨qa, 1, none⟩ (.int .i64 f.s)).setCell ⟨qa, 2, none⟩ (.int .i64 f.sp)).setCell ⟨qa, 3, none⟩ (.slice A1 f.wt.length c1)).setCell ⟨qa, 4, none⟩ (.slice D1 f.sh.length d1)).heap.size := by simpa using hqa
              replace hqb : qb < (((((y4.setCell ⟨qa, 0, none⟩ (.int .i64 f.t)).setCell ⟨qa, 1, none⟩ (.int .i64 f.s)).setCell ⟨qa, 2, none⟩ (.int .i64 f.sp)).setCell ⟨qa, 3, none⟩ (.slice A1 f.wt.length c1)).setCell ⟨qa, 4, none⟩ (.slice D1 f.sh.length d1)).heap.size := by simpa using hqb
              generalize (((((y4.setCell ⟨qa, 0, none⟩ (.int .i64 f.t)).setCell ⟨qa, 1, none⟩ (.int .i64 f.s)).setCell ⟨qa, 2, none⟩ (.int .i64 f.sp)).setCell ⟨qa, 3, none⟩ (.slice A1 f.wt.length c1)).setCell ⟨qa, 4, none⟩ (.slice D1 f.sh.length d1)) = y5 at hHeld HBN HOA HOD HQA HTA hqa HQB HTB hqb ⊢
              refine wpAnyH_ready (rs := [9]) (by kernel_rfl) (by simp) ?_
              refine AllReadyH.cons rfl (fun K hK => ?_) (AllReadyH.nil)
              have HBP := Lib.hid hHeld.1
              have hsc : y5.setCells qb 0 (#[.int .i64 (shOf f.sp f.sh).m, .int .i64 (shOf f.sp f.sh).t, .int .i64 (shOf f.sp f.sh).s] : Array Value).toList = (((y5.setCell ⟨qb, 0, none⟩ (.int .i64 (shOf f.sp f.sh).m)).setCell ⟨qb, 1, none⟩ (.int .i64 (shOf f.sp f.sh).t)).setCell ⟨qb, 2, none⟩ (.int .i64 (shOf f.sp f.sh).s)) := rfl
              rw [if_pos (by kernel_rfl)]
              refine wp_store_mid 43 _ _ (by rfl) qb 0 #[.int .i64 (shOf f.sp f.sh).m, .int .i64 (shOf f.sp f.sh).t, .int .i64 (shOf f.sp f.sh).s] (by rfl) (by rfl) HQB.out.there (by kernel_rfl) (by simp [Value.oneCell']) ?_
              rw [hsc]
              clear hsc
              (first | refine hK.out _ _ ?_ (fun hHeld1 => ?_) | (go_wp2_with fail; refine hK.out _ _ ?_ (fun hHeld1 => ?_)))
              · ((try dsimp only); exact KS ((((HBP.out.setCell hBb _).setCell hBb _).setCell hBb _)))
              clear hK K hHeld
              have hHeld := hHeld1
              clear hHeld1
              try simp only [Act.put, List.setIfInBounds_toArray, List.set_cons_zero, List.set_cons_succ]
              have HBN := Lib.hid hHeld.1
              have hoa := HTB.out.off HOA.out (by decide)
              have hod := HNQ.out
              replace HOA := Lib.hid (own_off3 HOA.out hoa (.int .i64 (shOf f.sp f.sh).m) (.int .i64 (shOf f.sp f.sh).t) (.int .i64 (shOf f.sp f.sh).s))
              replace HOD := Lib.hid (own_off3 HOD.out hod (.int .i64 (shOf f.sp f.sh).m) (.int .i64 (shOf f.sp f.sh).t) (.int .i64 (shOf f.sp f.sh).s))
              replace HQB := Lib.hid (HQB.out.set3 (.int .i64 (shOf f.sp f.sh).m) (.int .i64 (shOf f.sp f.sh).t) (.int .i64 (shOf f.sp f.sh).s))
              replace HTB := Lib.hid ((((HTB.out.set ⟨qb, 0, none⟩ (.int .i64 (shOf f.sp f.sh).m)).set ⟨qb, 1, none⟩ (.int .i64 (shOf f.sp f.sh).t)).set ⟨qb, 2, none⟩ (.int .i64 (shOf f.sp f.sh).s)))
              replace HTA := Lib.hid ((((HTA.out.set ⟨qb, 0, none⟩ (.int .i64 (shOf f.sp f.sh).m)).set ⟨qb, 1, none⟩ (.int .i64 (shOf f.sp f.sh).t)).set ⟨qb, 2, none⟩ (.int .i64 (shOf f.sp f.sh).s)))
              replace HQA := Lib.hid ((((HQA.out.far ⟨qb, 0, none⟩ (.int .i64 (shOf f.sp f.sh).m) hqq).far ⟨qb, 1, none⟩ (.int .i64 (shOf f.sp f.sh).t) hqq).far ⟨qb, 2, none⟩ (.int .i64 (shOf f.sp f.sh).s) hqq))
              clear hoa hod HBP
              replace hqa : qa < (((y5.setCell ⟨qb, 0, none⟩ (.int .i64 (shOf f.sp f.sh).m)).setCell ⟨qb, 1, none⟩ (.int .i64 (shOf f.sp f.sh).t)).setCell ⟨qb, 2, none⟩ (.int .i64 (shOf f.sp f.sh).s)).heap.size := by simpa using hqa
              replace hqb : qb < (((y5.setCell ⟨qb, 0, none⟩ (.int .i64 (shOf f.sp f.sh).m)).setCell ⟨qb, 1, none⟩ (.int .i64 (shOf f.sp f.sh).t)).setCell ⟨qb, 2, none⟩ (.int .i64 (shOf f.sp f.sh).s)).heap.size := by simpa using hqb
              generalize (((y5.setCell ⟨qb, 0, none⟩ (.int .i64 (shOf f.sp f.sh).m)).setCell ⟨qb, 1, none⟩ (.int .i64 (shOf f.sp f.sh).t)).setCell ⟨qb, 2, none⟩ (.int .i64 (shOf f.sp f.sh).s)) = y6 at hHeld HBN HOA HOD HQA HTA hqa HQB HTB hqb ⊢
              refine wpAnyH_done (by kernel_rfl) ?_ _
              refine NoPanic.normal ?_
              clear hHeld
              go_wp2_with fail
              go_meet
              exact ⟨qa, qb, A1, c1, D1, d1, rfl, rfl, HQA.out, HTA.out, HQB.out, HTB.out, HOA.out, HOD.out, HNQ.out, hBa, hBb, hqq, hqa, hqb, HBN.out⟩
          · have HBP := Lib.hid hHeld.1
            try go_simp
            (first | refine hK.out _ _ ?_ (fun hHeld1 => ?_) | (go_wp2_with fail; refine hK.out _ _ ?_ (fun hHeld1 => ?_)))
            · ((try dsimp only); exact KS (HBP.out.alloc HBP.out.size _))
            clear hK K hHeld
            have hHeld := hHeld1
            clear hHeld1
            try simp only [Act.put, List.setIfInBounds_toArray, List.set_cons_zero, List.set_cons_succ]
            have hb := below1 ud (.cells #[.int .i64 0, .int .i64 0, .int .i64 0] 43)
            have HQB := Lib.hid (BoxF.new3 ud (.int .i64 0) (.int .i64 0) (.int .i64 0) 43 ud.heap.size rfl)
            have HTB := Lib.hid (show Ty (ud.alloc (.cells #[.int .i64 0, .int .i64 0, .int .i64 0] 43)) ud.heap.size 43 from ⟨_, _, heap_alloc_new ud _⟩)
            have hqb : ud.heap.size < (ud.alloc (.cells #[.int .i64 0, .int .i64 0, .int .i64 0] 43)).heap.size := by simp
            have hBb := HBP.out.size
            clear hb HBP
            generalize (ud.alloc (.cells #[.int .i64 0, .int .i64 0, .int .i64 0] 43)) = y1 at hHeld HQB HTB hqb hBb ⊢
            generalize ud.heap.size = qb at hHeld HQB HTB hqb hBb ⊢
            refine wpAnyH_ready (rs := [1, 6]) (by kernel_rfl) (by simp) ?_
            refine AllReadyH.cons rfl (fun K hK => ?_) (AllReadyH.cons rfl (fun K hK => ?_) (AllReadyH.nil))
            · go_simp
              (go_at_call 48; refine (newFloor_any A D c d f _ (HA1.out.below hHeld.1) hm0 (HD1.out.below hHeld.1) hn).mono ?_; rintro e y2 ⟨A1, c1, D1, d1, rfl, o1, o2, hb⟩; have hlw := hHeld.1.size; have HBN := Lib.hid (after hHeld.1 hb); have HBC := Lib.hid hb; have HOA := Lib.hid (show World.ownsRow y2 w1.heap.size 3 1 (.slice A1 f.wt.length c1) f.wt.length (IntK.row f.wt) from own_mono o1.1 hlw); have HOD := Lib.hid (show World.ownsRow y2 w1.heap.size 43 3 (.slice D1 f.sh.length d1) f.sh.length (ShareK.row f.sh) from own_mono o2.1 hlw); have HDL := Lib.hid (fun g hg => (o2.1.lt g hg).1); clear hb o1 o2)
              (first | refine hK.out _ _ ?_ (fun hHeld1 => ?_) | (go_wp2_with fail; refine hK.out _ _ ?_ (fun hHeld1 => ?_)))
              · ((try dsimp only); exact KS HBN.out)
              clear hK K hHeld
              have hHeld := hHeld1
              clear hHeld1
              try simp only [Act.put, List.setIfInBounds_toArray, List.set_cons_zero, List.set_cons_succ]
              have HNQ : Hid ((Value.slice D1 f.sh.length d1).ownBlock ≠ some qb) := Lib.hid (fun e => by have := HDL.out _ e; omega)
              replace HQB := Lib.hid (HQB.out.below HBC.out hqb)
              replace HTB := Lib.hid (HTB.out.below HBC.out hqb)
              replace hqb := Nat.lt_of_lt_of_le hqb (HBC.out).size
              refine wpAnyH_ready (rs := [5, 6]) (by kernel_rfl) (by simp) ?_
              refine AllReadyH.cons rfl (fun K hK => ?_) (AllReadyH.cons rfl (fun K hK => ?_) (AllReadyH.nil))
              · go_simp
                (go_at_call 61; refine (shareOf_any A D c d f f.sp _ (HD1.out.below hHeld.1) hn).mono ?_; rintro e y3 ⟨rfl, hb⟩; have HBN := Lib.hid (after hHeld.1 hb); have HBC := Lib.hid hb; clear hb)
                (first | refine hK.out _ _ ?_ (fun hHeld1 => ?_) | (go_wp2_with fail; refine hK.out _ _ ?_ (fun hHeld1 => ?_)))
                · ((try dsimp only); exact KS HBN.out)
                clear hK K hHeld
                have hHeld := hHeld1
                clear hHeld1
                try simp only [Act.put, List.setIfInBounds_toArray, List.set_cons_zero, List.set_cons_succ]
                replace HOA := Lib.hid (own_keep HOA.out HBC.out)
                replace HOD := Lib.hid (own_keep HOD.out HBC.out)
                replace HQB := Lib.hid (HQB.out.below HBC.out hqb)
                replace HTB := Lib.hid (HTB.out.below HBC.out hqb)
                replace hqb := Nat.lt_of_lt_of_le hqb (HBC.out).size
                refine wpAnyH_ready (rs := [6]) (by kernel_rfl) (by simp) ?_
                refine AllReadyH.cons rfl (fun K hK => ?_) (AllReadyH.nil)
                have HBP := Lib.hid hHeld.1
                try go_simp
                (first | refine hK.out _ _ ?_ (fun hHeld1 => ?_) | (go_wp2_with fail; refine hK.out _ _ ?_ (fun hHeld1 => ?_)))
                · ((try dsimp only); exact KS (HBP.out.alloc HBP.out.size _))
                clear hK K hHeld
                have hHeld := hHeld1
                clear hHeld1
                try simp only [Act.put, List.setIfInBounds_toArray, List.set_cons_zero, List.set_cons_succ]
                have hqq : y3.heap.size ≠ qb := by omega
                have hb := below1 y3 (.cells #[.int .i64 0, .int .i64 0, .int .i64 0, .slice none 0 0, .slice none 0 0] 29)
                replace HOA := Lib.hid (own_keep HOA.out hb)
                replace HOD := Lib.hid (own_keep HOD.out hb)
                replace HQB := Lib.hid (HQB.out.below hb hqb)
                replace HTB := Lib.hid (HTB.out.below hb hqb)
                replace hqb := Nat.lt_of_lt_of_le hqb (hb).size
                have HQA := Lib.hid (BoxF.new5 y3 (.int .i64 0) (.int .i64 0) (.int .i64 0) (.slice none 0 0) (.slice none 0 0) 29 y3.heap.size rfl)
                have HTA := Lib.hid (show Ty (y3.alloc (.cells #[.int .i64 0, .int .i64 0, .int .i64 0, .slice none 0 0, .slice none 0 0] 29)) y3.heap.size 29 from ⟨_, _, heap_alloc_new y3 _⟩)
                have hqa : y3.heap.size < (y3.alloc (.cells #[.int .i64 0, .int .i64 0, .int .i64 0, .slice none 0 0, .slice none 0 0] 29)).heap.size := by simp
                have hBa := HBP.out.size
                clear hb HBP
                generalize (y3.alloc (.cells #[.int .i64 0, .int .i64 0, .int .i64 0, .slice none 0 0, .slice none 0 0] 29)) = y4 at hHeld HOA HOD HQA HTA hqa hBa HQB HTB hqb hBb HNQ hqq ⊢
                generalize y3.heap.size = qa at hHeld HOA HOD HQA HTA hqa hBa HQB HTB hqb hBb HNQ hqq ⊢
                refine wpAnyH_ready (rs := [8]) (by kernel_rfl) (by simp) ?_
                refine AllReadyH.cons rfl (fun K hK => ?_) (AllReadyH.nil)
                have HBP := Lib.hid hHeld.1
                have hsc : y4.setCells qa 0 (#[.int .i64 f.t, .int .i64 f.s, .int .i64 f.sp, .slice A1 f.wt.length c1, .slice D1 f.sh.length d1] : Array Value).toList = (((((y4.setCell ⟨qa, 0, none⟩ (.int .i64 f.t)).setCell ⟨qa, 1, none⟩ (.int .i64 f.s)).setCell ⟨qa, 2, none⟩ (.int .i64 f.sp)).setCell ⟨qa, 3, none⟩ (.slice A1 f.wt.length c1)).setCell ⟨qa, 4, none⟩ (.slice D1 f.sh.length d1)) := rfl
                rw [if_pos (by kernel_rfl)]
                refine wp_store_mid 29 _ _ (by rfl) qa 0 #[.int .i64 f.t, .int .i64 f.s, .int .i64 f.sp, .slice A1 f.wt.length c1, .slice D1 f.sh.length d1] (by rfl) (by rfl) HQA.out.there (by kernel_rfl) (by simp [Value.oneCell']) ?_
                rw [hsc]
                clear hsc
                (first | refine hK.out _ _ ?_ (fun hHeld1 => ?_) | (go_wp2_with fail; refine hK.out _ _ ?_ (fun hHeld1 => ?_)))
                · ((try dsimp only); exact KS ((((((HBP.out.setCell hBa _).setCell hBa _).setCell hBa _).setCell hBa _).setCell hBa _)))
                clear hK K hHeld
                have hHeld := hHeld1
                clear hHeld1
                try simp only [Act.put, List.setIfInBounds_toArray, List.set_cons_zero, List.set_cons_succ]
                have HBN := Lib.hid hHeld.1
                have hoa := HTA.out.off HOA.out (by decide)
                have hod := HTA.out.off HOD.out (by decide)
                replace HOA := Lib.hid (own_off5 HOA.out hoa (.int .i64 f.t) (.int .i64 f.s) (.int .i64 f.sp) (.slice A1 f.wt.length c1) (.slice D1 f.sh.length d1))
                replace HOD := Lib.hid (own_off5 HOD.out hod (.int .i64 f.t) (.int .i64 f.s) (.int .i64 f.sp) (.slice A1 f.wt.length c1) (.slice D1 f.sh.length d1))
                replace HQA := Lib.hid (HQA.out.set5 (.int .i64 f.t) (.int .i64 f.s) (.int .i64 f.sp) (.slice A1 f.wt.length c1) (.slice D1 f.sh.length d1))
                replace HTA := Lib.hid ((((((HTA.out.set ⟨qa, 0, none⟩ (.int .i64 f.t)).set ⟨qa, 1, none⟩ (.int .i64 f.s)).set ⟨qa, 2, none⟩ (.int .i64 f.sp)).set ⟨qa, 3, none⟩ (.slice A1 f.wt.length c1)).set ⟨qa, 4, none⟩ (.slice D1 f.sh.length d1)))
                replace HTB := Lib.hid ((((((HTB.out.set ⟨qa, 0, none⟩ (.int .i64 f.t)).set ⟨qa, 1, none⟩ (.int .i64 f.s)).set ⟨qa, 2, none⟩ (.int .i64 f.sp)).set ⟨qa, 3, none⟩ (.slice A1 f.wt.length c1)).set ⟨qa, 4, none⟩ (.slice D1 f.sh.length d1)))
                replace HQB := Lib.hid ((((((HQB.out.far ⟨qa, 0, none⟩ (.int .i64 f.t) (Ne.symm hqq)).far ⟨qa, 1, none⟩ (.int .i64 f.s) (Ne.symm hqq)).far ⟨qa, 2, none⟩ (.int .i64 f.sp) (Ne.symm hqq)).far ⟨qa, 3, none⟩ (.slice A1 f.wt.length c1) (Ne.symm hqq)).far ⟨qa, 4, none⟩ (.slice D1 f.sh.length d1) (Ne.symm hqq)))
                clear hoa hod HBP
                replace hqa : qa < (((((y4.setCell ⟨qa, 0, none⟩ (.int .i64 f.t)).setCell ⟨qa, 1, none⟩ (.int .i64 f.s)).setCell ⟨qa, 2, none⟩ (.int .i64 f.sp)).setCell ⟨qa, 3, none⟩ (.slice A1 f.wt.length c1)).setCell ⟨qa, 4, none⟩ (.slice D1 f.sh.length d1)).heap.size := by simpa using hqa
                replace hqb : qb < (((((y4.setCell ⟨qa, 0, none⟩ (.int .i64 f.t)).setCell ⟨qa, 1, none⟩ (.int .i64 f.s)).setCell ⟨qa, 2, none⟩ (.int .i64 f.sp)).setCell ⟨qa, 3, none⟩ (.slice A1 f.wt.length c1)).setCell ⟨qa, 4, none⟩ (.slice D1 f.sh.length d1)).heap.size := by simpa using hqb
                generalize (((((y4.setCell ⟨qa, 0, none⟩ (.int .i64 f.t)).setCell ⟨qa, 1, none⟩ (.int .i64 f.s)).setCell ⟨qa, 2, none⟩ (.int .i64 f.sp)).setCell ⟨qa, 3, none⟩ (.slice A1 f.wt.length c1)).setCell ⟨qa, 4, none⟩ (.slice D1 f.sh.length d1)) = y5 at hHeld HBN HOA HOD HQA HTA hqa HQB HTB hqb ⊢
                refine wpAnyH_ready (rs := [9]) (by kernel_rfl) (by simp) ?_
                refine AllReadyH.cons rfl (fun K hK => ?_) (AllReadyH.nil)
                have HBP := Lib.hid hHeld.1
                have hsc : y5.setCells qb 0 (#[.int .i64 (shOf f.sp f.sh).m, .int .i64 (shOf f.sp f.sh).t, .int .i64 (shOf f.sp f.sh).s] : Array Value).toList = (((y5.setCell ⟨qb, 0, none⟩ (.int .i64 (shOf f.sp f.sh).m)).setCell ⟨qb, 1, none⟩ (.int .i64 (shOf f.sp f.sh).t)).setCell ⟨qb, 2, none⟩ (.int .i64 (shOf f.sp f.sh).s)) := rfl
                rw [if_pos (by kernel_rfl)]
                refine wp_store_mid 43 _ _ (by rfl) qb 0 #[.int .i64 (shOf f.sp f.sh).m, .int .i64 (shOf f.sp f.sh).t, .int .i64 (shOf f.sp f.sh).s] (by rfl) (by rfl) HQB.out.there (by kernel_rfl) (by simp [Value.oneCell']) ?_
                rw [hsc]
                clear hsc
                (first | refine hK.out _ _ ?_ (fun hHeld1 => ?_) | (go_wp2_with fail; refine hK.out _ _ ?_ (fun hHeld1 => ?_)))
                · ((try dsimp only); exact KS ((((HBP.out.setCell hBb _).setCell hBb _).setCell hBb _)))
                clear hK K hHeld
                have hHeld := hHeld1
                clear hHeld1
                try simp only [Act.put, List.setIfInBounds_toArray, List.set_cons_zero, List.set_cons_succ]
                have HBN := Lib.hid hHeld.1
                have hoa := HTB.out.off HOA.out (by decide)
                have hod := HNQ.out
                replace HOA := Lib.hid (own_off3 HOA.out hoa (.int .i64 (shOf f.sp f.sh).m) (.int .i64 (shOf f.sp f.sh).t) (.int .i64 (shOf f.sp f.sh).s))
                replace HOD := Lib.hid (own_off3 HOD.out hod (.int .i64 (shOf f.sp f.sh).m) (.int .i64 (shOf f.sp f.sh).t) (.int .i64 (shOf f.sp f.sh).s))
                replace HQB := Lib.hid (HQB.out.set3 (.int .i64 (shOf f.sp f.sh).m) (.int .i64 (shOf f.sp f.sh).t) (.int .i64 (shOf f.sp f.sh).s))
                replace HTB := Lib.hid ((((HTB.out.set ⟨qb, 0, none⟩ (.int .i64 (shOf f.sp f.sh).m)).set ⟨qb, 1, none⟩ (.int .i64 (shOf f.sp f.sh).t)).set ⟨qb, 2, none⟩ (.int .i64 (shOf f.sp f.sh).s)))
                replace HTA := Lib.hid ((((HTA.out.set ⟨qb, 0, none⟩ (.int .i64 (shOf f.sp f.sh).m)).set ⟨qb, 1, none⟩ (.int .i64 (shOf f.sp f.sh).t)).set ⟨qb, 2, none⟩ (.int .i64 (shOf f.sp f.sh).s)))
                replace HQA := Lib.hid ((((HQA.out.far ⟨qb, 0, none⟩ (.int .i64 (shOf f.sp f.sh).m) hqq).far ⟨qb, 1, none⟩ (.int .i64 (shOf f.sp f.sh).t) hqq).far ⟨qb, 2, none⟩ (.int .i64 (shOf f.sp f.sh).s) hqq))
                clear hoa hod HBP
                replace hqa : qa < (((y5.setCell ⟨qb, 0, none⟩ (.int .i64 (shOf f.sp f.sh).m)).setCell ⟨qb, 1, none⟩ (.int .i64 (shOf f.sp f.sh).t)).setCell ⟨qb, 2, none⟩ (.int .i64 (shOf f.sp f.sh).s)).heap.size := by simpa using hqa
                replace hqb : qb < (((y5.setCell ⟨qb, 0, none⟩ (.int .i64 (shOf f.sp f.sh).m)).setCell ⟨qb, 1, none⟩ (.int .i64 (shOf f.sp f.sh).t)).setCell ⟨qb, 2, none⟩ (.int .i64 (shOf f.sp f.sh).s)).heap.size := by simpa using hqb
                generalize (((y5.setCell ⟨qb, 0, none⟩ (.int .i64 (shOf f.sp f.sh).m)).setCell ⟨qb, 1, none⟩ (.int .i64 (shOf f.sp f.sh).t)).setCell ⟨qb, 2, none⟩ (.int .i64 (shOf f.sp f.sh).s)) = y6 at hHeld HBN HOA HOD HQA HTA hqa HQB HTB hqb ⊢
                refine wpAnyH_done (by kernel_rfl) ?_ _
                refine NoPanic.normal ?_
                clear hHeld
                go_wp2_with fail
                go_meet
                exact ⟨qa, qb, A1, c1, D1, d1, rfl, rfl, HQA.out, HTA.out, HQB.out, HTB.out, HOA.out, HOD.out, HNQ.out, hBa, hBb, hqq, hqa, hqb, HBN.out⟩
              · have HBP := Lib.hid hHeld.1
                try go_simp
                (first | refine hK.out _ _ ?_ (fun hHeld1 => ?_) | (go_wp2_with fail; refine hK.out _ _ ?_ (fun hHeld1 => ?_)))
                · ((try dsimp only); exact KS (HBP.out.alloc HBP.out.size _))
                clear hK K hHeld
                have hHeld := hHeld1
                clear hHeld1
                try simp only [Act.put, List.setIfInBounds_toArray, List.set_cons_zero, List.set_cons_succ]
                have hqq : y2.heap.size ≠ qb := by omega
                have hb := below1 y2 (.cells #[.int .i64 0, .int .i64 0, .int .i64 0, .slice none 0 0, .slice none 0 0] 29)
                replace HOA := Lib.hid (own_keep HOA.out hb)
                replace HOD := Lib.hid (own_keep HOD.out hb)
                replace HQB := Lib.hid (HQB.out.below hb hqb)
                replace HTB := Lib.hid (HTB.out.below hb hqb)
                replace hqb := Nat.lt_of_lt_of_le hqb (hb).size
                have HQA := Lib.hid (BoxF.new5 y2 (.int .i64 0) (.int .i64 0) (.int .i64 0) (.slice none 0 0) (.slice none 0 0) 29 y2.heap.size rfl)
                have HTA := Lib.hid (show Ty (y2.alloc (.cells #[.int .i64 0, .int .i64 0, .int .i64 0, .slice none 0 0, .slice none 0 0] 29)) y2.heap.size 29 from ⟨_, _, heap_alloc_new y2 _⟩)
                have hqa : y2.heap.size < (y2.alloc (.cells #[.int .i64 0, .int .i64 0, .int .i64 0, .slice none 0 0, .slice none 0 0] 29)).heap.size := by simp
                have hBa := HBP.out.size
                clear hb HBP
                generalize (y2.alloc (.cells #[.int .i64 0, .int .i64 0, .int .i64 0, .slice none 0 0, .slice none 0 0] 29)) = y3 at hHeld HOA HOD HQA HTA hqa hBa HQB HTB hqb hBb HNQ hqq ⊢
                generalize y2.heap.size = qa at hHeld HOA HOD HQA HTA hqa hBa HQB HTB hqb hBb HNQ hqq ⊢
                refine wpAnyH_ready (rs := [5]) (by kernel_rfl) (by simp) ?_
                refine AllReadyH.cons rfl (fun K hK => ?_) (AllReadyH.nil)
                go_simp
                (go_at_call 61; refine (shareOf_any A D c d f f.sp _ (HD1.out.below hHeld.1) hn).mono ?_; rintro e y4 ⟨rfl, hb⟩; have HBN := Lib.hid (after hHeld.1 hb); have HBC := Lib.hid hb; clear hb)
                (first | refine hK.out _ _ ?_ (fun hHeld1 => ?_) | (go_wp2_with fail; refine hK.out _ _ ?_ (fun hHeld1 => ?_)))
                · ((try dsimp only); exact KS HBN.out)
                clear hK K hHeld
                have hHeld := hHeld1
                clear hHeld1
                try simp only [Act.put, List.setIfInBounds_toArray, List.set_cons_zero, List.set_cons_succ]
                replace HOA := Lib.hid (own_keep HOA.out HBC.out)
                replace HOD := Lib.hid (own_keep HOD.out HBC.out)
                replace HQA := Lib.hid (HQA.out.below HBC.out hqa)
                replace HTA := Lib.hid (HTA.out.below HBC.out hqa)
                replace hqa := Nat.lt_of_lt_of_le hqa (HBC.out).size
                replace HQB := Lib.hid (HQB.out.below HBC.out hqb)
                replace HTB := Lib.hid (HTB.out.below HBC.out hqb)
                replace hqb := Nat.lt_of_lt_of_le hqb (HBC.out).size
                refine wpAnyH_ready (rs := [8]) (by kernel_rfl) (by simp) ?_
                refine AllReadyH.cons rfl (fun K hK => ?_) (AllReadyH.nil)
                have HBP := Lib.hid hHeld.1
                have hsc : y4.setCells qa 0 (#[.int .i64 f.t, .int .i64 f.s, .int .i64 f.sp, .slice A1 f.wt.length c1, .slice D1 f.sh.length d1] : Array Value).toList = (((((y4.setCell ⟨qa, 0, none⟩ (.int .i64 f.t)).setCell ⟨qa, 1, none⟩ (.int .i64 f.s)).setCell ⟨qa, 2, none⟩ (.int .i64 f.sp)).setCell ⟨qa, 3, none⟩ (.slice A1 f.wt.length c1)).setCell ⟨qa, 4, none⟩ (.slice D1 f.sh.length d1)) := rfl
                rw [if_pos (by kernel_rfl)]
                refine wp_store_mid 29 _ _ (by rfl) qa 0 #[.int .i64 f.t, .int .i64 f.s, .int .i64 f.sp, .slice A1 f.wt.length c1, .slice D1 f.sh.length d1] (by rfl) (by rfl) HQA.out.there (by kernel_rfl) (by simp [Value.oneCell']) ?_
                rw [hsc]
                clear hsc
                (first | refine hK.out _ _ ?_ (fun hHeld1 => ?_) | (go_wp2_with fail; refine hK.out _ _ ?_ (fun hHeld1 => ?_)))
                · ((try dsimp only); exact KS ((((((HBP.out.setCell hBa _).setCell hBa _).setCell hBa _).setCell hBa _).setCell hBa _)))
                clear hK K hHeld
                have hHeld := hHeld1
                clear hHeld1
                try simp only [Act.put, List.setIfInBounds_toArray, List.set_cons_zero, List.set_cons_succ]
                have HBN := Lib.hid hHeld.1
                have hoa := HTA.out.off HOA.out (by decide)
                have hod := HTA.out.off HOD.out (by decide)
                replace HOA := Lib.hid (own_off5 HOA.out hoa (.int .i64 f.t) (.int .i64 f.s) (.int .i64 f.sp) (.slice A1 f.wt.length c1) (.slice D1 f.sh.length d1))
                replace HOD := Lib.hid (own_off5 HOD.out hod (.int .i64 f.t) (.int .i64 f.s) (.int .i64 f.sp) (.slice A1 f.wt.length c1) (.slice D1 f.sh.length d1))
                replace HQA := Lib.hid (HQA.out.set5 (.int .i64 f.t) (.int .i64 f.s) (.int .i64 f.sp) (.slice A1 f.wt.length c1) (.slice D1 f.sh.length d1))
                replace HTA := Lib.hid ((((((HTA.out.set ⟨qa, 0, none⟩ (.int .i64 f.t)).set ⟨qa, 1, none⟩ (.int .i64 f.s)).set ⟨qa, 2, none⟩ (.int .i64 f.sp)).set ⟨qa, 3, none⟩ (.slice A1 f.wt.length c1)).set ⟨qa, 4, none⟩ (.slice D1 f.sh.length d1)))
                replace HTB := Lib.hid ((((((HTB.out.set ⟨qa, 0, none⟩ (.int .i64 f.t)).set ⟨qa, 1, none⟩ (.int .i64 f.s)).set ⟨qa, 2, none⟩ (.int .i64 f.sp)).set ⟨qa, 3, none⟩ (.slice A1 f.wt.length c1)).set ⟨qa, 4, none⟩ (.slice D1 f.sh.length d1)))
                replace HQB := Lib.hid ((((((HQB.out.far ⟨qa, 0, none⟩ (.int .i64 f.t) (Ne.symm hqq)).far ⟨qa, 1, none⟩ (.int .i64 f.s) (Ne.symm hqq)).far ⟨qa, 2, none⟩ (.int .i64 f.sp) (Ne.symm hqq)).far ⟨qa, 3, none⟩ (.slice A1 f.wt.length c1) (Ne.symm hqq)).far ⟨qa, 4, none⟩ (.slice D1 f.sh.length d1) (Ne.symm hqq)))
                clear hoa hod HBP
                replace hqa : qa < (((((y4.setCell ⟨qa, 0, none⟩ (.int .i64 f.t)).setCell ⟨qa, 1, none⟩ (.int .i64 f.s)).setCell ⟨qa, 2, none⟩ (.int .i64 f.sp)).setCell ⟨qa, 3, none⟩ (.slice A1 f.wt.length c1)).setCell ⟨qa, 4, none⟩ (.slice D1 f.sh.length d1)).heap.size := by simpa using hqa
                replace hqb : qb < (((((y4.setCell ⟨qa, 0, none⟩ (.int .i64 f.t)).setCell ⟨qa, 1, none⟩ (.int .i64 f.s)).setCell ⟨qa, 2, none⟩ (.int .i64 f.sp)).setCell ⟨qa, 3, none⟩ (.slice A1 f.wt.length c1)).setCell ⟨qa, 4, none⟩ (.slice D1 f.sh.length d1)).heap.size := by simpa using hqb
                generalize (((((y4.setCell ⟨qa, 0, none⟩ (.int .i64 f.t)).setCell ⟨qa, 1, none⟩ (.int .i64 f.s)).setCell ⟨qa, 2, none⟩ (.int .i64 f.sp)).setCell ⟨qa, 3, none⟩ (.slice A1 f.wt.length c1)).setCell ⟨qa, 4, none⟩ (.slice D1 f.sh.length d1)) = y5 at hHeld HBN HOA HOD HQA HTA hqa HQB HTB hqb ⊢
                refine wpAnyH_ready (rs := [9]) (by kernel_rfl) (by simp) ?_
                refine AllReadyH.cons rfl (fun K hK => ?_) (AllReadyH.nil)
                have HBP := Lib.hid hHeld.1
                have hsc : y5.setCells qb 0 (#[.int .i64 (shOf f.sp f.sh).m, .int .i64 (shOf f.sp f.sh).t, .int .i64 (shOf f.sp f.sh).s] : Array Value).toList = (((y5.setCell ⟨qb, 0, none⟩ (.int .i64 (shOf f.sp f.sh).m)).setCell ⟨qb, 1, none⟩ (.int .i64 (shOf f.sp f.sh).t)).setCell ⟨qb, 2, none⟩ (.int .i64 (shOf f.sp f.sh).s)) := rfl
                rw [if_pos (by kernel_rfl)]
                refine wp_store_mid 43 _ _ (by rfl) qb 0 #[.int .i64 (shOf f.sp f.sh).m, .int .i64 (shOf f.sp f.sh).t, .int .i64 (shOf f.sp f.sh).s] (by rfl) (by rfl) HQB.out.there (by kernel_rfl) (by simp [Value.oneCell']) ?_
                rw [hsc]
                clear hsc
                (first | refine hK.out _ _ ?_ (fun hHeld1 => ?_) | (go_wp2_with fail; refine hK.out _ _ ?_ (fun hHeld1 => ?_)))
                · ((try dsimp only); exact KS ((((HBP.out.setCell hBb _).setCell hBb _).setCell hBb _)))
                clear hK K hHeld
                have hHeld := hHeld1
                clear hHeld1
                try simp only [Act.put, List.setIfInBounds_toArray, List.set_cons_zero, List.set_cons_succ]
                have HBN := Lib.hid hHeld.1
                have hoa := HTB.out.off HOA.out (by decide)
                have hod := HNQ.out
                replace HOA := Lib.hid (own_off3 HOA.out hoa (.int .i64 (shOf f.sp f.sh).m) (.int .i64 (shOf f.sp f.sh).t) (.int .i64 (shOf f.sp f.sh).s))
                replace HOD := Lib.hid (own_off3 HOD.out hod (.int .i64 (shOf f.sp f.sh).m) (.int .i64 (shOf f.sp f.sh).t) (.int .i64 (shOf f.sp f.sh).s))
                replace HQB := Lib.hid (HQB.out.set3 (.int .i64 (shOf f.sp f.sh).m) (.int .i64 (shOf f.sp f.sh).t) (.int .i64 (shOf f.sp f.sh).s))
                replace HTB := Lib.hid ((((HTB.out.set ⟨qb, 0, none⟩ (.int .i64 (shOf f.sp f.sh).m)).set ⟨qb, 1, none⟩ (.int .i64 (shOf f.sp f.sh).t)).set ⟨qb, 2, none⟩ (.int .i64 (shOf f.sp f.sh).s)))
                replace HTA := Lib.hid ((((HTA.out.set ⟨qb, 0, none⟩ (.int .i64 (shOf f.sp f.sh).m)).set ⟨qb, 1, none⟩ (.int .i64 (shOf f.sp f.sh).t)).set ⟨qb, 2, none⟩ (.int .i64 (shOf f.sp f.sh).s)))
                replace HQA := Lib.hid ((((HQA.out.far ⟨qb, 0, none⟩ (.int .i64 (shOf f.sp f.sh).m) hqq).far ⟨qb, 1, none⟩ (.int .i64 (shOf f.sp f.sh).t) hqq).far ⟨qb, 2, none⟩ (.int .i64 (shOf f.sp f.sh).s) hqq))
                clear hoa hod HBP
                replace hqa : qa < (((y5.setCell ⟨qb, 0, none⟩ (.int .i64 (shOf f.sp f.sh).m)).setCell ⟨qb, 1, none⟩ (.int .i64 (shOf f.sp f.sh).t)).setCell ⟨qb, 2, none⟩ (.int .i64 (shOf f.sp f.sh).s)).heap.size := by simpa using hqa
                replace hqb : qb < (((y5.setCell ⟨qb, 0, none⟩ (.int .i64 (shOf f.sp f.sh).m)).setCell ⟨qb, 1, none⟩ (.int .i64 (shOf f.sp f.sh).t)).setCell ⟨qb, 2, none⟩ (.int .i64 (shOf f.sp f.sh).s)).heap.size := by simpa using hqb
                generalize (((y5.setCell ⟨qb, 0, none⟩ (.int .i64 (shOf f.sp f.sh).m)).setCell ⟨qb, 1, none⟩ (.int .i64 (shOf f.sp f.sh).t)).setCell ⟨qb, 2, none⟩ (.int .i64 (shOf f.sp f.sh).s)) = y6 at hHeld HBN HOA HOD HQA HTA hqa HQB HTB hqb ⊢
                refine wpAnyH_done (by kernel_rfl) ?_ _
                refine NoPanic.normal ?_
                clear hHeld
                go_wp2_with fail
                go_meet
                exact ⟨qa, qb, A1, c1, D1, d1, rfl, rfl, HQA.out, HTA.out, HQB.out, HTB.out, HOA.out, HOD.out, HNQ.out, hBa, hBb, hqq, hqa, hqb, HBN.out⟩
            · have HBP := Lib.hid hHeld.1
              try go_simp
              (first | refine hK.out _ _ ?_ (fun hHeld1 => ?_) | (go_wp2_with fail; refine hK.out _ _ ?_ (fun hHeld1 => ?_)))
              · ((try dsimp only); exact KS (HBP.out.alloc HBP.out.size _))
              clear hK K hHeld
              have hHeld := hHeld1
              clear hHeld1
              try simp only [Act.put, List.setIfInBounds_toArray, List.set_cons_zero, List.set_cons_succ]
              have hqq : y1.heap.size ≠ qb := by omega
              have hb := below1 y1 (.cells #[.int .i64 0, .int .i64 0, .int .i64 0, .slice none 0 0, .slice none 0 0] 29)
              replace HQB := Lib.hid (HQB.out.below hb hqb)
              replace HTB := Lib.hid (HTB.out.below hb hqb)
              replace hqb := Nat.lt_of_lt_of_le hqb (hb).size
              have HQA := Lib.hid (BoxF.new5 y1 (.int .i64 0) (.int .i64 0) (.int .i64 0) (.slice none 0 0) (.slice none 0 0) 29 y1.heap.size rfl)
              have HTA := Lib.hid (show Ty (y1.alloc (.cells #[.int .i64 0, .int .i64 0, .int .i64 0, .slice none 0 0, .slice none 0 0] 29)) y1.heap.size 29 from ⟨_, _, heap_alloc_new y1 _⟩)
              have hqa : y1.heap.size < (y1.alloc (.cells #[.int .i64 0, .int .i64 0, .int .i64 0, .slice none 0 0, .slice none 0 0] 29)).heap.size := by simp
              have hBa := HBP.out.size
              clear hb HBP
              generalize (y1.alloc (.cells #[.int .i64 0, .int .i64 0, .int .i64 0, .slice none 0 0, .slice none 0 0] 29)) = y2 at hHeld HQA HTA hqa hBa HQB HTB hqb hBb hqq ⊢
              generalize y1.heap.size = qa at hHeld HQA HTA hqa hBa HQB HTB hqb hBb hqq ⊢
              refine wpAnyH_ready (rs := [1]) (by kernel_rfl) (by simp) ?_
              refine AllReadyH.cons rfl (fun K hK => ?_) (AllReadyH.nil)
              go_simp
              (go_at_call 48; refine (newFloor_any A D c d f _ (HA1.out.below hHeld.1) hm0 (HD1.out.below hHeld.1) hn).mono ?_; rintro e y3 ⟨A1, c1, D1, d1, rfl, o1, o2, hb⟩; have hlw := hHeld.1.size; have HBN := Lib.hid (after hHeld.1 hb); have HBC := Lib.hid hb; have HOA := Lib.hid (show World.ownsRow y3 w1.heap.size 3 1 (.slice A1 f.wt.length c1) f.wt.length (IntK.row f.wt) from own_mono o1.1 hlw); have HOD := Lib.hid (show World.ownsRow y3 w1.heap.size 43 3 (.slice D1 f.sh.length d1) f.sh.length (ShareK.row f.sh) from own_mono o2.1 hlw); have HDL := Lib.hid (fun g hg => (o2.1.lt g hg).1); clear hb o1 o2)
              (first | refine hK.out _ _ ?_ (fun hHeld1 => ?_) | (go_wp2_with fail; refine hK.out _ _ ?_ (fun hHeld1 => ?_)))
              · ((try dsimp only); exact KS HBN.out)
              clear hK K hHeld
              have hHeld := hHeld1
              clear hHeld1
              try simp only [Act.put, List.setIfInBounds_toArray, List.set_cons_zero, List.set_cons_succ]
              have HNQ : Hid ((Value.slice D1 f.sh.length d1).ownBlock ≠ some qb) := Lib.hid (fun e => by have := HDL.out _ e; omega)
              replace HQA := Lib.hid (HQA.out.below HBC.out hqa)
              replace HTA := Lib.hid (HTA.out.below HBC.out hqa)
              replace hqa := Nat.lt_of_lt_of_le hqa (HBC.out).size
              replace HQB := Lib.hid (HQB.out.below HBC.out hqb)
              replace HTB := Lib.hid (HTB.out.below HBC.out hqb)
              replace hqb := Nat.lt_of_lt_of_le hqb (HBC.out).size
              refine wpAnyH_ready (rs := [5]) (by kernel_rfl) (by simp) ?_
              refine AllReadyH.cons rfl (fun K hK => ?_) (AllReadyH.nil)
              go_simp
              (go_at_call 61; refine (shareOf_any A D c d f f.sp _ (HD1.out.below hHeld.1) hn).mono ?_; rintro e y4 ⟨rfl, hb⟩; have HBN := Lib.hid (after hHeld.1 hb); have HBC := Lib.hid hb; clear hb)
              (first | refine hK.out _ _ ?_ (fun hHeld1 => ?_) | (go_wp2_with fail; refine hK.out _ _ ?_ (fun hHeld1 => ?_)))
              · ((try dsimp only); exact KS HBN.out)
              clear hK K hHeld
              have hHeld := hHeld1
              clear hHeld1
              try simp only [Act.put, List.setIfInBounds_toArray, List.set_cons_zero, List.set_cons_succ]
              replace HOA := Lib.hid (own_keep HOA.out HBC.out)
              replace HOD := Lib.hid (own_keep HOD.out HBC.out)
              replace HQA := Lib.hid (HQA.out.below HBC.out hqa)
              replace HTA := Lib.hid (HTA.out.below HBC.out hqa)
              replace hqa := Nat.lt_of_lt_of_le hqa (HBC.out).size
              replace HQB := Lib.hid (HQB.out.below HBC.out hqb)
              replace HTB := Lib.hid (HTB.out.below HBC.out hqb)
              replace hqb := Nat.lt_of_lt_of_le hqb (HBC.out).size
              refine wpAnyH_ready (rs := [8]) (by kernel_rfl) (by simp) ?_
              refine AllReadyH.cons rfl (fun K hK => ?_) (AllReadyH.nil)
              have HBP := Lib.hid hHeld.1
              have hsc : y4.setCells qa 0 (#[.int .i64 f.t, .int .i64 f.s, .int .i64 f.sp, .slice A1 f.wt.length c1, .slice D1 f.sh.length d1] : Array Value).toList = (((((y4.setCell ⟨qa, 0, none⟩ (.int .i64 f.t)).setCell ⟨qa, 1, none⟩ (.int .i64 f.s)).setCell ⟨qa, 2, none⟩ (.int .i64 f.sp)).setCell ⟨qa, 3, none⟩ (.slice A1 f.wt.length c1)).setCell ⟨qa, 4, none⟩ (.slice D1 f.sh.length d1)) := rfl
              rw [if_pos (by kernel_rfl)]
              refine wp_store_mid 29 _ _ (by rfl) qa 0 #[.int .i64 f.t, .int .i64 f.s, .int .i64 f.sp, .slice A1 f.wt.length c1, .slice D1 f.sh.length d1] (by rfl) (by rfl) HQA.out.there (by kernel_rfl) (by simp [Value.oneCell']) ?_
              rw [hsc]
              clear hsc
              (first | refine hK.out _ _ ?_ (fun hHeld1 => ?_) | (go_wp2_with fail; refine hK.out _ _ ?_ (fun hHeld1 => ?_)))
              · ((try dsimp only); exact KS ((((((HBP.out.setCell hBa _).setCell hBa _).setCell hBa _).setCell hBa _).setCell hBa _)))
              clear hK K hHeld
              have hHeld := hHeld1
              clear hHeld1
              try simp only [Act.put, List.setIfInBounds_toArray, List.set_cons_zero, List.set_cons_succ]
              have HBN := Lib.hid hHeld.1
              have hoa := HTA.out.off HOA.out (by decide)
              have hod := HTA.out.off HOD.out (by decide)
              replace HOA := Lib.hid (own_off5 HOA.out hoa (.int .i64 f.t) (.int .i64 f.s) (.int .i64 f.sp) (.slice A1 f.wt.length c1) (.slice D1 f.sh.length d1))
              replace HOD := Lib.hid (own_off5 HOD.out hod (.int .i64 f.t) (.int .i64 f.s) (.int .i64 f.sp) (.slice A1 f.wt.length c1) (.slice D1 f.sh.length d1))
              replace HQA := Lib.hid (HQA.out.set5 (.int .i64 f.t) (.int .i64 f.s) (.int .i64 f.sp) (.slice A1 f.wt.length c1) (.slice D1 f.sh.length d1))
              replace HTA := Lib.hid ((((((HTA.out.set ⟨qa, 0, none⟩ (.int .i64 f.t)).set ⟨qa, 1, none⟩ (.int .i64 f.s)).set ⟨qa, 2, none⟩ (.int .i64 f.sp)).set ⟨qa, 3, none⟩ (.slice A1 f.wt.length c1)).set ⟨qa, 4, none⟩ (.slice D1 f.sh.length d1)))
              replace HTB := Lib.hid ((((((HTB.out.set ⟨qa, 0, none⟩ (.int .i64 f.t)).set ⟨qa, 1, none⟩ (.int .i64 f.s)).set ⟨qa, 2, none⟩ (.int .i64 f.sp)).set ⟨qa, 3, none⟩ (.slice A1 f.wt.length c1)).set ⟨qa, 4, none⟩ (.slice D1 f.sh.length d1)))
              replace HQB := Lib.hid ((((((HQB.out.far ⟨qa, 0, none⟩ (.int .i64 f.t) (Ne.symm hqq)).far ⟨qa, 1, none⟩ (.int .i64 f.s) (Ne.symm hqq)).far ⟨qa, 2, none⟩ (.int .i64 f.sp) (Ne.symm hqq)).far ⟨qa, 3, none⟩ (.slice A1 f.wt.length c1) (Ne.symm hqq)).far ⟨qa, 4, none⟩ (.slice D1 f.sh.length d1) (Ne.symm hqq)))
              clear hoa hod HBP
              replace hqa : qa < (((((y4.setCell ⟨qa, 0, none⟩ (.int .i64 f.t)).setCell ⟨qa, 1, none⟩ (.int .i64 f.s)).setCell ⟨qa, 2, none⟩ (.int .i64 f.sp)).setCell ⟨qa, 3, none⟩ (.slice A1 f.wt.length c1)).setCell ⟨qa, 4, none⟩ (.slice D1 f.sh.length d1)).heap.size := by simpa using hqa
              replace hqb : qb < (((((y4.setCell ⟨qa, 0, none⟩ (.int .i64 f.t)).setCell ⟨qa, 1, none⟩ (.int .i64 f.s)).setCell ⟨qa, 2, none⟩ (.int .i64 f.sp)).setCell ⟨qa, 3, none⟩ (.slice A1 f.wt.length c1)).setCell ⟨qa, 4, none⟩ (.slice D1 f.sh.length d1)).heap.size := by simpa using hqb
              generalize (((((y4.setCell ⟨qa, 0, none⟩ (.int .i64 f.t)).setCell ⟨qa, 1, none⟩ (.int .i64 f.s)).setCell ⟨qa, 2, none⟩ (.int .i64 f.sp)).setCell ⟨qa, 3, none⟩ (.slice A1 f.wt.length c1)).setCell ⟨qa, 4, none⟩ (.slice D1 f.sh.length d1)) = y5 at hHeld HBN HOA HOD HQA HTA hqa HQB HTB hqb ⊢
              refine wpAnyH_ready (rs := [9]) (by kernel_rfl) (by simp) ?_
              refine AllReadyH.cons rfl (fun K hK => ?_) (AllReadyH.nil)
              have HBP := Lib.hid hHeld.1
              have hsc : y5.setCells qb 0 (#[.int .i64 (shOf f.sp f.sh).m, .int .i64 (shOf f.sp f.sh).t, .int .i64 (shOf f.sp f.sh).s] : Array Value).toList = (((y5.setCell ⟨qb, 0, none⟩ (.int .i64 (shOf f.sp f.sh).m)).setCell ⟨qb, 1, none⟩ (.int .i64 (shOf f.sp f.sh).t)).setCell ⟨qb, 2, none⟩ (.int .i64 (shOf f.sp f.sh).s)) := rfl
              rw [if_pos (by kernel_rfl)]
              refine wp_store_mid 43 _ _ (by rfl) qb 0 #[.int .i64 (shOf f.sp f.sh).m, .int .i64 (shOf f.sp f.sh).t, .int .i64 (shOf f.sp f.sh).s] (by rfl) (by rfl) HQB.out.there (by kernel_rfl) (by simp [Value.oneCell']) ?_
              rw [hsc]
              clear hsc
              (first | refine hK.out _ _ ?_ (fun hHeld1 => ?_) | (go_wp2_with fail; refine hK.out _ _ ?_ (fun hHeld1 => ?_)))
              · ((try dsimp only); exact KS ((((HBP.out.setCell hBb _).setCell hBb _).setCell hBb _)))
              clear hK K hHeld
              have hHeld := hHeld1
              clear hHeld1
              try simp only [Act.put, List.setIfInBounds_toArray, List.set_cons_zero, List.set_cons_succ]
              have HBN := Lib.hid hHeld.1
              have hoa := HTB.out.off HOA.out (by decide)
              have hod := HNQ.out
              replace HOA := Lib.hid (own_off3 HOA.out hoa (.int .i64 (shOf f.sp f.sh).m) (.int .i64 (shOf f.sp f.sh).t) (.int .i64 (shOf f.sp f.sh).s))
              replace HOD := Lib.hid (own_off3 HOD.out hod (.int .i64 (shOf f.sp f.sh).m) (.int .i64 (shOf f.sp f.sh).t) (.int .i64 (shOf f.sp f.sh).s))
              replace HQB := Lib.hid (HQB.out.set3 (.int .i64 (shOf f.sp f.sh).m) (.int .i64 (shOf f.sp f.sh).t) (.int .i64 (shOf f.sp f.sh).s))
              replace HTB := Lib.hid ((((HTB.out.set ⟨qb, 0, none⟩ (.int .i64 (shOf f.sp f.sh).m)).set ⟨qb, 1, none⟩ (.int .i64 (shOf f.sp f.sh).t)).set ⟨qb, 2, none⟩ (.int .i64 (shOf f.sp f.sh).s)))
              replace HTA := Lib.hid ((((HTA.out.set ⟨qb, 0, none⟩ (.int .i64 (shOf f.sp f.sh).m)).set ⟨qb, 1, none⟩ (.int .i64 (shOf f.sp f.sh).t)).set ⟨qb, 2, none⟩ (.int .i64 (shOf f.sp f.sh).s)))
              replace HQA := Lib.hid ((((HQA.out.far ⟨qb, 0, none⟩ (.int .i64 (shOf f.sp f.sh).m) hqq).far ⟨qb, 1, none⟩ (.int .i64 (shOf f.sp f.sh).t) hqq).far ⟨qb, 2, none⟩ (.int .i64 (shOf f.sp f.sh).s) hqq))
              clear hoa hod HBP
              replace hqa : qa < (((y5.setCell ⟨qb, 0, none⟩ (.int .i64 (shOf f.sp f.sh).m)).setCell ⟨qb, 1, none⟩ (.int .i64 (shOf f.sp f.sh).t)).setCell ⟨qb, 2, none⟩ (.int .i64 (shOf f.sp f.sh).s)).heap.size := by simpa using hqa
              replace hqb : qb < (((y5.setCell ⟨qb, 0, none⟩ (.int .i64 (shOf f.sp f.sh).m)).setCell ⟨qb, 1, none⟩ (.int .i64 (shOf f.sp f.sh).t)).setCell ⟨qb, 2, none⟩ (.int .i64 (shOf f.sp f.sh).s)).heap.size := by simpa using hqb
              generalize (((y5.setCell ⟨qb, 0, none⟩ (.int .i64 (shOf f.sp f.sh).m)).setCell ⟨qb, 1, none⟩ (.int .i64 (shOf f.sp f.sh).t)).setCell ⟨qb, 2, none⟩ (.int .i64 (shOf f.sp f.sh).s)) = y6 at hHeld HBN HOA HOD HQA HTA hqa HQB HTB hqb ⊢
              refine wpAnyH_done (by kernel_rfl) ?_ _
              refine NoPanic.normal ?_
              clear hHeld
              go_wp2_with fail
              go_meet
              exact ⟨qa, qb, A1, c1, D1, d1, rfl, rfl, HQA.out, HTA.out, HQB.out, HTB.out, HOA.out, HOD.out, HNQ.out, hBa, hBb, hqq, hqa, hqb, HBN.out⟩
        case rest =>
          obtain ⟨qa, qb, A1, c1, D1, d1, rfl, rfl, ha, hta, hbq, htb, hoa, hod, hnq, hBa, hBb, hqq, hqa, hqb, hbx⟩ := hcut
          obtain ⟨v, hwc⟩ : ∃ x : World, x = wc := ⟨_, rfl⟩
          subst hwc
          replace N0 := Lib.hid (N0.out.below hbx (by omega))
          replace N2 := Lib.hid (N2.out.below hbx (by omega))
          replace HB := Lib.hid (HB.out.trans (hbx.mono (by omega)))
          have hsx := hbx.size
          clear hbx KS HA1 HD1
          have e1 : (if f.s - (shOf f.sp f.sh).s < k then f.s - (shOf f.sp f.sh).s else k) = spkN f k := by unfold spkN; split <;> split <;> omega
          have e3 : min k (f.s - (shOf f.sp f.sh).s) = spkN f k := by unfold spkN; rw [Int.min_def]; split <;> split <;> omega
          have t1 : IntKind.i64.wrap (f.s - (shOf f.sp f.sh).s) = f.s - (shOf f.sp f.sh).s := by have := HBD.out; rw [IntKind.wrap_i64]; omega
          have t2 : IntKind.i64.wrap ((shOf f.sp f.sh).s + spkN f k) = (shOf f.sp f.sh).s + spkN f k := by have := HBD.out; have := HSN.out; rw [IntKind.wrap_i64]; omega
          have x2 := hbq.1 2 _ rfl
          have z2 := hbq.2 2
          have e01 := N0.out.1 1 _ rfl
          have HQB := Lib.hid (hbq.set (k := 2) (by simp) (.int .i64 ((shOf f.sp f.sh).s + spkN f k)))
          have HQA := Lib.hid (ha.far ⟨qb, 2, none⟩ (.int .i64 ((shOf f.sp f.sh).s + spkN f k)) hqq)
          have HTA := Lib.hid (hta.set ⟨qb, 2, none⟩ (.int .i64 ((shOf f.sp f.sh).s + spkN f k)))
          have HOA := Lib.hid (ownsRow_setCell_other hoa (a := ⟨qb, 2, none⟩) (htb.off hoa (by decide)) (.int .i64 ((shOf f.sp f.sh).s + spkN f k)))
          have HOD := Lib.hid (ownsRow_setCell_other hod (a := ⟨qb, 2, none⟩) hnq (.int .i64 ((shOf f.sp f.sh).s + spkN f k)))
          have HNQ := Lib.hid hnq
          have hb : Below w1.heap.size v (v.setCell ⟨qb, 2, none⟩ (.int .i64 ((shOf f.sp f.sh).s + spkN f k))) := (Below.refl _ _).setCell hBb _
          replace N0 := Lib.hid (N0.out.below hb (by omega))
          replace N2 := Lib.hid (N2.out.below hb (by omega))
          replace HB := Lib.hid (HB.out.trans (hb.mono (by omega)))
          have hsx2 := Nat.le_trans hsx hb.size
          replace hqa : qa < (v.setCell ⟨qb, 2, none⟩ (.int .i64 ((shOf f.sp f.sh).s + spkN f k))).heap.size := by simpa using hqa
          replace hqb : qb < (v.setCell ⟨qb, 2, none⟩ (.int .i64 ((shOf f.sp f.sh).s + spkN f k))).heap.size := by simpa using hqb
          clear ha hta hbq htb hoa hod hnq hb hsx
          go_upto_region 6 with fail
          clear x2 z2 e01
          generalize (v.setCell ⟨qb, 2, none⟩ (.int .i64 ((shOf f.sp f.sh).s + spkN f k))) = v1 at *
          have x0 := HQB.out.1 0 _ rfl
          have x1 := HQB.out.1 1 _ rfl
          have x2 := HQB.out.1 2 _ rfl
          go_wp2_with fail
          refine (setShare_any qa w1.heap.size D1 d1 _ _ _ _ f.sh ⟨(shOf f.sp f.sh).m, (shOf f.sp f.sh).t, (shOf f.sp f.sh).s + spkN f k⟩ _ HQA.out HTA.out HOD.out (by have := HSL.out; omega) hsx2).mono ?_
          rintro e v2 ⟨D2, d2, rfl, hb3, ht3, own3, tw3⟩
          clear x0 x1 x2
          have hoff := HTA.out.off HOA.out (by decide)
          have hb := tw3.below (B := w1.heap.size) (by omega) (fun q hq => (HOD.out.lt q hq).1) (by omega)
          have HOA := Lib.hid (tw3.row HOA.out hoff (fun g hg hx => own_apart HOA.out HOD.out (by decide) g hg hx))
          have HQB := Lib.hid (HQB.out.two hqb tw3 (Ne.symm hqq) (fun e => HNQ.out e.symm))
          have HQA := Lib.hid hb3
          have HTA := Lib.hid ht3
          have HOD := Lib.hid own3
          replace N0 := Lib.hid (N0.out.below hb (by omega))
          replace N2 := Lib.hid (N2.out.below hb (by omega))
          replace HB := Lib.hid (HB.out.trans (hb.mono (by omega)))
          have hsx3 := Nat.le_trans hsx2 hb.size
          clear hoff hb3 ht3 own3 tw3 hb
          have x2 := HQB.out.1 2 _ rfl
          have e01 := N0.out.1 1 _ rfl
          by_cases hc : (shOf f.sp f.sh).s + spkN f k = f.s
          · have hc2 : ((shOf f.sp f.sh).s + spkN f k == f.s) = true := by simp [hc]
            have HLV := Lib.hid (show sfF f k = yieF (spkG f k) by rw [HLV.out, if_pos hc])
            clear hc
            go_wp2_with fail
            refine (yield_any qa w1.heap.size A1 c1 D2 d2 (spkG f k) _ HQA.out HTA.out HOD.out (by have := spk_len f k; have := HSL.out; omega) hsx3 HST.out.1 (by have := HST.out.2; show (shOf f.sp _).t ≤ _; omega)).mono ?_
            rintro e w3 ⟨D2, d2, rfl, hb3, ht3, own3, tw3⟩
            clear x2 e01 hc2
            have HO1 := HOA
            have HO2 := HOD
            have HT6 := HTA
            have hoff := HT6.out.off HO1.out (by decide)
            have hb := tw3.below (B := w1.heap.size) (by omega) (fun q hq => (HO2.out.lt q hq).1) (by omega)
            have HO1 := Lib.hid (tw3.row HO1.out hoff (fun g hg hx => own_apart HO1.out HO2.out (by decide) g hg hx))
            have N6 := Lib.hid hb3
            have HT6 := Lib.hid ht3
            have HO2 := Lib.hid own3
            clear hoff hb3 ht3 own3 tw3
            have N2 := Lib.hid (N2.out.below hb (by omega))
            have HB := Lib.hid (HB.out.trans (hb.mono (by omega)))
            have hV3 := hb.size
            clear hb
            have e20 := N2.out.1 0 _ rfl
            have e21 := N2.out.1 1 _ rfl
            have e22 := N2.out.1 2 _ rfl
            have e23 := N2.out.1 3 _ rfl
            have e24 := N2.out.1 4 _ rfl
            have f20 := N2.out.2 0
            have f21 := N2.out.2 1
            have f22 := N2.out.2 2
            have f23 := N2.out.2 3
            have f24 := N2.out.2 4
            have e60 := N6.out.1 0 _ rfl
            have e61 := N6.out.1 1 _ rfl
            have e62 := N6.out.1 2 _ rfl
            have e63 := N6.out.1 3 _ rfl
            have e64 := N6.out.1 4 _ rfl
            have f60 := N6.out.2 0
            have f61 := N6.out.2 1
            have f62 := N6.out.2 2
            have f63 := N6.out.2 3
            have f64 := N6.out.2 4
            go_wp2
            clear e20 e21 e22 e23 e24 e60 e61 e62 e63 e64 f20 f21 f22 f23 f24 f60 f61 f62 f63 f64
            have KS := N2.out.set5 (.int .i64 (yieF (spkG f k)).t) (.int .i64 (yieF (spkG f k)).s) (.int .i64 (yieF (spkG f k)).sp) (.slice A1 (yieF (spkG f k)).wt.length c1) (.slice D2 (yieF (spkG f k)).sh.length d2)
            have k0 := KS.1 0 _ rfl
            have k1 := KS.1 1 _ rfl
            have k2 := KS.1 2 _ rfl
            have k3 := KS.1 3 _ rfl
            have k4 := KS.1 4 _ rfl
            clear KS
            have G1 := Lib.hid (show World.ownsRow (((((w3.setCell ⟨w.heap.size + 1, 0, none⟩ (.int .i64 (yieF (spkG f k)).t)).setCell ⟨w.heap.size + 1, 1, none⟩ (.int .i64 (yieF (spkG f k)).s)).setCell ⟨w.heap.size + 1, 2, none⟩ (.int .i64 (yieF (spkG f k)).sp)).setCell ⟨w.heap.size + 1, 3, none⟩ (.slice A1 (yieF (spkG f k)).wt.length c1)).setCell ⟨w.heap.size + 1, 4, none⟩ (.slice D2 (yieF (spkG f k)).sh.length d2)) w.heap.size 3 IntK.sz (.slice A1 (yieF (spkG f k)).wt.length c1) (yieF (spkG f k)).wt.length (IntK.row (yieF (spkG f k)).wt) from own_fin_old5 (L := w.heap.size) HO1.out (by omega) (show w.heap.size + 1 < w1.heap.size by omega) (.int .i64 (yieF (spkG f k)).t) (.int .i64 (yieF (spkG f k)).s) (.int .i64 (yieF (spkG f k)).sp) (.slice A1 (yieF (spkG f k)).wt.length c1) (.slice D2 (yieF (spkG f k)).sh.length d2))
            have G2 := Lib.hid (show World.ownsRow (((((w3.setCell ⟨w.heap.size + 1, 0, none⟩ (.int .i64 (yieF (spkG f k)).t)).setCell ⟨w.heap.size + 1, 1, none⟩ (.int .i64 (yieF (spkG f k)).s)).setCell ⟨w.heap.size + 1, 2, none⟩ (.int .i64 (yieF (spkG f k)).sp)).setCell ⟨w.heap.size + 1, 3, none⟩ (.slice A1 (yieF (spkG f k)).wt.length c1)).setCell ⟨w.heap.size + 1, 4, none⟩ (.slice D2 (yieF (spkG f k)).sh.length d2)) w.heap.size 43 ShareK.sz (.slice D2 (yieF (spkG f k)).sh.length d2) (yieF (spkG f k)).sh.length (ShareK.row (yieF (spkG f k)).sh) from own_fin_old5 (L := w.heap.size) HO2.out (by omega) (show w.heap.size + 1 < w1.heap.size by omega) (.int .i64 (yieF (spkG f k)).t) (.int .i64 (yieF (spkG f k)).s) (.int .i64 (yieF (spkG f k)).sp) (.slice A1 (yieF (spkG f k)).wt.length c1) (.slice D2 (yieF (spkG f k)).sh.length d2))
            have G3 := Lib.hid (show Below w.heap.size w (((((w3.setCell ⟨w.heap.size + 1, 0, none⟩ (.int .i64 (yieF (spkG f k)).t)).setCell ⟨w.heap.size + 1, 1, none⟩ (.int .i64 (yieF (spkG f k)).s)).setCell ⟨w.heap.size + 1, 2, none⟩ (.int .i64 (yieF (spkG f k)).sp)).setCell ⟨w.heap.size + 1, 3, none⟩ (.slice A1 (yieF (spkG f k)).wt.length c1)).setCell ⟨w.heap.size + 1, 4, none⟩ (.slice D2 (yieF (spkG f k)).sh.length d2)) from below_set5 HB.out (show w.heap.size ≤ w.heap.size + 1 by omega) (.int .i64 (yieF (spkG f k)).t) (.int .i64 (yieF (spkG f k)).s) (.int .i64 (yieF (spkG f k)).sp) (.slice A1 (yieF (spkG f k)).wt.length c1) (.slice D2 (yieF (spkG f k)).sh.length d2))
            have G4 : (yieF (spkG f k)).sh.length ≤ 1048576 := by have := putS_len ⟨(shOf (spkG f k).sp (spkG f k).sh).m, (shOf (spkG f k).sp (spkG f k).sh).t + 1, (shOf (spkG f k).sp (spkG f k).sh).s⟩ (spkG f k).sh; have := spk_len f k; have := HSL.out; show (putS _ _).length ≤ _; omega
            have G5 : (yieF (spkG f k)).wt.length ≤ 1048576 := by show f.wt.length ≤ _; omega
            generalize (((((w3.setCell ⟨w.heap.size + 1, 0, none⟩ (.int .i64 (yieF (spkG f k)).t)).setCell ⟨w.heap.size + 1, 1, none⟩ (.int .i64 (yieF (spkG f k)).s)).setCell ⟨w.heap.size + 1, 2, none⟩ (.int .i64 (yieF (spkG f k)).sp)).setCell ⟨w.heap.size + 1, 3, none⟩ (.slice A1 (yieF (spkG f k)).wt.length c1)).setCell ⟨w.heap.size + 1, 4, none⟩ (.slice D2 (yieF (spkG f k)).sh.length d2)) = W9 at k0 k1 k2 k3 k4 G1 G2 G3 ⊢
            refine bodyPost_ret (v := .tuple #[.agg #[.int .i64 (yieF (spkG f k)).t, .int .i64 (yieF (spkG f k)).s, .int .i64 (yieF (spkG f k)).sp, .slice A1 (yieF (spkG f k)).wt.length c1, .slice D2 (yieF (spkG f k)).sh.length d2], .int .i64 (spkN f k), .bool true]) (by rw [results_cell_tmp2 Try.results15]; simp [go_sem, k0, k1, k2, k3, k4]) rfl ?_
            clear k0 k1 k2 k3 k4
            rw [HLN.out, HLB.out, HLV.out]
            refine ⟨A1, c1, D2, d2, rfl, ?_, ?_, ?_⟩
            · exact Ow.mk (K := IntK) G1.out G5 (fun _ _ => trivial)
            · exact Ow.mk (K := ShareK) G2.out G4 (fun _ _ => trivial)
            · exact G3.out
          · have hc2 : ((shOf f.sp f.sh).s + spkN f k == f.s) = false := by simp [hc]
            have HLV := Lib.hid (show sfF f k = spkG f k by rw [HLV.out, if_neg hc])
            clear hc
            have HO1 := HOA
            have HO2 := Lib.hid (show v2.ownsRow w1.heap.size 43 3 (.slice D2 (spkG f k).sh.length d2) (spkG f k).sh.length (ShareK.row (spkG f k).sh) from HOD.out)
            have HT6 := HTA
            have N6 := Lib.hid (show BoxF v2 qa [.int .i64 (spkG f k).t, .int .i64 (spkG f k).s, .int .i64 (spkG f k).sp, .slice A1 (spkG f k).wt.length c1, .slice D2 (spkG f k).sh.length d2] from HQA.out)
            have e20 := N2.out.1 0 _ rfl
            have e21 := N2.out.1 1 _ rfl
            have e22 := N2.out.1 2 _ rfl
            have e23 := N2.out.1 3 _ rfl
            have e24 := N2.out.1 4 _ rfl
            have f20 := N2.out.2 0
            have f21 := N2.out.2 1
            have f22 := N2.out.2 2
            have f23 := N2.out.2 3
            have f24 := N2.out.2 4
            have e60 := N6.out.1 0 _ rfl
            have e61 := N6.out.1 1 _ rfl
            have e62 := N6.out.1 2 _ rfl
            have e63 := N6.out.1 3 _ rfl
            have e64 := N6.out.1 4 _ rfl
            have f60 := N6.out.2 0
            have f61 := N6.out.2 1
            have f62 := N6.out.2 2
            have f63 := N6.out.2 3
            have f64 := N6.out.2 4
            go_wp2
            clear e20 e21 e22 e23 e24 e60 e61 e62 e63 e64 f20 f21 f22 f23 f24 f60 f61 f62 f63 f64
            have KS := N2.out.set5 (.int .i64 (spkG f k).t) (.int .i64 (spkG f k).s) (.int .i64 (spkG f k).sp) (.slice A1 (spkG f k).wt.length c1) (.slice D2 (spkG f k).sh.length d2)
            have k0 := KS.1 0 _ rfl
            have k1 := KS.1 1 _ rfl
            have k2 := KS.1 2 _ rfl
            have k3 := KS.1 3 _ rfl
            have k4 := KS.1 4 _ rfl
            clear KS
            have G1 := Lib.hid (show World.ownsRow (((((v2.setCell ⟨w.heap.size + 1, 0, none⟩ (.int .i64 (spkG f k).t)).setCell ⟨w.heap.size + 1, 1, none⟩ (.int .i64 (spkG f k).s)).setCell ⟨w.heap.size + 1, 2, none⟩ (.int .i64 (spkG f k).sp)).setCell ⟨w.heap.size + 1, 3, none⟩ (.slice A1 (spkG f k).wt.length c1)).setCell ⟨w.heap.size + 1, 4, none⟩ (.slice D2 (spkG f k).sh.length d2)) w.heap.size 3 IntK.sz (.slice A1 (spkG f k).wt.length c1) (spkG f k).wt.length (IntK.row (spkG f k).wt) from own_fin_old5 (L := w.heap.size) HO1.out (by omega) (show w.heap.size + 1 < w1.heap.size by omega) (.int .i64 (spkG f k).t) (.int .i64 (spkG f k).s) (.int .i64 (spkG f k).sp) (.slice A1 (spkG f k).wt.length c1) (.slice D2 (spkG f k).sh.length d2))
            have G2 := Lib.hid (show World.ownsRow (((((v2.setCell ⟨w.heap.size + 1, 0, none⟩ (.int .i64 (spkG f k).t)).setCell ⟨w.heap.size + 1, 1, none⟩ (.int .i64 (spkG f k).s)).setCell ⟨w.heap.size + 1, 2, none⟩ (.int .i64 (spkG f k).sp)).setCell ⟨w.heap.size + 1, 3, none⟩ (.slice A1 (spkG f k).wt.length c1)).setCell ⟨w.heap.size + 1, 4, none⟩ (.slice D2 (spkG f k).sh.length d2)) w.heap.size 43 ShareK.sz (.slice D2 (spkG f k).sh.length d2) (spkG f k).sh.length (ShareK.row (spkG f k).sh) from own_fin_old5 (L := w.heap.size) HO2.out (by omega) (show w.heap.size + 1 < w1.heap.size by omega) (.int .i64 (spkG f k).t) (.int .i64 (spkG f k).s) (.int .i64 (spkG f k).sp) (.slice A1 (spkG f k).wt.length c1) (.slice D2 (spkG f k).sh.length d2))
            have G3 := Lib.hid (show Below w.heap.size w (((((v2.setCell ⟨w.heap.size + 1, 0, none⟩ (.int .i64 (spkG f k).t)).setCell ⟨w.heap.size + 1, 1, none⟩ (.int .i64 (spkG f k).s)).setCell ⟨w.heap.size + 1, 2, none⟩ (.int .i64 (spkG f k).sp)).setCell ⟨w.heap.size + 1, 3, none⟩ (.slice A1 (spkG f k).wt.length c1)).setCell ⟨w.heap.size + 1, 4, none⟩ (.slice D2 (spkG f k).sh.length d2)) from below_set5 HB.out (show w.heap.size ≤ w.heap.size + 1 by omega) (.int .i64 (spkG f k).t) (.int .i64 (spkG f k).s) (.int .i64 (spkG f k).sp) (.slice A1 (spkG f k).wt.length c1) (.slice D2 (spkG f k).sh.length d2))
            have G4 : (spkG f k).sh.length ≤ 1048576 := by have := spk_len f k; have := HSL.out; omega
            have G5 : (spkG f k).wt.length ≤ 1048576 := by show f.wt.length ≤ _; omega
            generalize (((((v2.setCell ⟨w.heap.size + 1, 0, none⟩ (.int .i64 (spkG f k).t)).setCell ⟨w.heap.size + 1, 1, none⟩ (.int .i64 (spkG f k).s)).setCell ⟨w.heap.size + 1, 2, none⟩ (.int .i64 (spkG f k).sp)).setCell ⟨w.heap.size + 1, 3, none⟩ (.slice A1 (spkG f k).wt.length c1)).setCell ⟨w.heap.size + 1, 4, none⟩ (.slice D2 (spkG f k).sh.length d2)) = W9 at k0 k1 k2 k3 k4 G1 G2 G3 ⊢
            refine bodyPost_ret (v := .tuple #[.agg #[.int .i64 (spkG f k).t, .int .i64 (spkG f k).s, .int .i64 (spkG f k).sp, .slice A1 (spkG f k).wt.length c1, .slice D2 (spkG f k).sh.length d2], .int .i64 (spkN f k), .bool true]) (by rw [results_cell_tmp2 Try.results15]; simp [go_sem, k0, k1, k2, k3, k4]) rfl ?_
            clear k0 k1 k2 k3 k4
            rw [HLN.out, HLB.out, HLV.out]
            refine ⟨A1, c1, D2, d2, rfl, ?_, ?_, ?_⟩
            · exact Ow.mk (K := IntK) G1.out G5 (fun _ _ => trivial)
            · exact Ow.mk (K := ShareK) G2.out G4 (fun _ _ => trivial)
            · exact G3.out
      · have HNO := Lib.hid (sfF_no (show sfB f k = false by unfold sfB; rw [hk]; simp))
        clear h0
        have e20 := N2.out.1 0 _ rfl
        have e21 := N2.out.1 1 _ rfl
        have e22 := N2.out.1 2 _ rfl
        have e23 := N2.out.1 3 _ rfl
        have e24 := N2.out.1 4 _ rfl
        have f20 := N2.out.2 0
        have f21 := N2.out.2 1
        have f22 := N2.out.2 2
        have f23 := N2.out.2 3
        have f24 := N2.out.2 4
        go_wp2_with (go_at_call 60; refine (inside_any k 1 3600 _).mono ?_; rintro e w2 ⟨rfl, rfl⟩; rw [hk])
        have KS := N2.out.set5 (.int .i64 0) (.int .i64 0) (.int .i64 0) (.slice none 0 0) (.slice none 0 0)
        have k0 := KS.1 0 _ rfl
        have k1 := KS.1 1 _ rfl
        have k2 := KS.1 2 _ rfl
        have k3 := KS.1 3 _ rfl
        have k4 := KS.1 4 _ rfl
        refine bodyPost_ret (v := .tuple #[.agg #[.int .i64 0, .int .i64 0, .int .i64 0, .slice none 0 0, .slice none 0 0], .int .i64 0, .bool false]) (by rw [results_cell_tmp2 Try.results15]; simp [go_sem, k0, k1, k2, k3, k4]) rfl (ToFNB.none_ HNO.out (below_set5 HB.out (by omega) _ _ _ _ _))
  · rw [hv]
    have HNO := Lib.hid (sfF_no (show sfB f k = false by unfold sfB; rw [hv]; rfl))
    have e20 := N2.out.1 0 _ rfl
    have e21 := N2.out.1 1 _ rfl
    have e22 := N2.out.1 2 _ rfl
    have e23 := N2.out.1 3 _ rfl
    have e24 := N2.out.1 4 _ rfl
    have f20 := N2.out.2 0
    have f21 := N2.out.2 1
    have f22 := N2.out.2 2
    have f23 := N2.out.2 3
    have f24 := N2.out.2 4
    go_wp2
    have KS := N2.out.set5 (.int .i64 0) (.int .i64 0) (.int .i64 0) (.slice none 0 0) (.slice none 0 0)
    have k0 := KS.1 0 _ rfl
    have k1 := KS.1 1 _ rfl
    have k2 := KS.1 2 _ rfl
    have k3 := KS.1 3 _ rfl
    have k4 := KS.1 4 _ rfl
    refine bodyPost_ret (v := .tuple #[.agg #[.int .i64 0, .int .i64 0, .int .i64 0, .slice none 0 0, .slice none 0 0], .int .i64 0, .bool false]) (by rw [results_cell_tmp2 Try.results15]; simp [go_sem, k0, k1, k2, k3, k4]) rfl (ToFNB.none_ HNO.out (below_set5 HB.out (by omega) _ _ _ _ _))
end Go.Proofs.Ytbpikbcnpmplfaa
