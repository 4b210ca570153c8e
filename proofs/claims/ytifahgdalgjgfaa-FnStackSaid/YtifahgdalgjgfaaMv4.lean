/- MoversOf, in the reference. Conditions: the ranges named. -/
import Derived.Test.YtifahgdalgjgfaaMv3
import Derived.Deep.DrawnRows
namespace Go.Proofs.Ytifahgdalgjgfaa
open Go.RowKit
set_option linter.unusedVariables false
set_option linter.unusedSimpArgs false
attribute [local go_sem ↓] Go.wp_at_zero Go.wp_at_succ
theorem rows_cut {w : World} {Q O : Option Addr} {xs : List Int} {k : Nat} (h : Cells w O (IntK.row xs)) (hQ : k < xs.length → Q = O.map (·.add k)) : Cells w Q (IntK.row (xs.drop k)) := fun i u hu => by
  rw [intK_row, List.getElem?_map, List.getElem?_drop] at hu
  have hi : k + i < xs.length := by
    rcases Nat.lt_or_ge (k + i) xs.length with h1 | h1
    · exact h1
    · rw [List.getElem?_eq_none h1] at hu; simp at hu
  obtain ⟨ad, hO, hc⟩ := h (k + i) u (by rw [intK_row, List.getElem?_map]; exact hu)
  subst hO
  exact ⟨ad.add k, hQ (by omega), by rw [add_add']; exact hc⟩
set_option maxHeartbeats 4000000 in
set_option maxRecDepth 100000 in
theorem l1Put_any (base : Nat) (O : Option Addr) (oc : Nat) (xs : List Int) (x : Int) (w : World) (own : w.ownsRow base 3 1 (.slice O xs.length oc) xs.length (IntK.row xs)) (hm : xs.length ≤ 1000000) (hb0 : base ≤ w.heap.size) :
    Calls Try.prog 92 #[.slice O xs.length oc, .int .i64 x] w fun e w' => ∃ (O' : Option Addr) (oc' : Nat), e = .returned (.slice O' (putI x xs).length oc') ∧ w'.ownsRow base 3 1 (.slice O' (putI x xs).length oc') (putI x xs).length (IntK.row (putI x xs)) ∧ Below base w w' := by
  have HOWN := Lib.hid own
  have hcap := own_cap own
  clear own
  go_enter Try.func92, Try.ntmps92
  go_wp2
  go_loop [5] (fun i => ∃ k : Nat, k ≤ xs.length ∧ i = .int .i64 k ∧ Hid (cntL x xs = k + cntL x (xs.drop k))) (fun i => xs.length - (intOf i).toNat)
  case atStart => exact ⟨0, Nat.zero_le _, rfl, Lib.hid (by rw [List.drop_zero, Nat.zero_add])⟩
  case round =>
    obtain ⟨k, hk, rfl, hq⟩ := hrel
    have t1 : (k : Int) ≤ (oc : Int) := by omega
    have t2 : (k : Int) ≤ (xs.length : Int) := by omega
    have t3 : k ≤ oc := by omega
    have t4 : (xs.length : Int) ≤ (oc : Int) := by omega
    by_cases hlt : k < xs.length
    · obtain ⟨a, rfl, hca⟩ := int_at (Cells.of_own HOWN.out) hlt
      have i1 : (k : Int) < (xs.length : Int) := by omega
      have HY := Lib.hid (cntL_yes (x := x) hlt)
      have HN := Lib.hid (cntL_no (x := x) hlt)
      have HTH := Lib.hid (fun (hc : cntL x xs = k) (he : xs[k] = x) => putI_there (x := x) (xs := xs) (by rw [hc]; exact hlt) (by simp only [hc]; exact he))
      have HNW := Lib.hid (fun (hc : cntL x xs = k) (he : xs[k] ≠ x) => putI_new (x := x) (xs := xs) (fun _ => by simp only [hc]; exact he))
      obtain ⟨y, hy⟩ : ∃ y, Hid (xs[k] = y) := ⟨_, Lib.hid rfl⟩
      rw [hy.out] at hca HY HN HTH HNW
      by_cases hl : y < x
      · have HA := Lib.hid (hq.out.trans (HY.out hl))
        clear hq HY HN HTH HNW
        go_wp2
        go_round
        case rel => exact ⟨k + 1, by omega, by go_num, HA⟩
        case measure => simp [intOf]; omega
      · have HA := Lib.hid (hq.out.trans (HN.out hl))
        by_cases he : y = x
        · have HPT := Lib.hid (HTH.out HA.out he)
          clear hq HY HN HTH HNW
          have he2 : (y == x) = true := by simp [he]
          go_wp2
          go_ret
          exact ⟨some a, oc, by rw [HPT.out]; first | rfl | simp, by rw [HPT.out]; exact HOWN.out, Below.refl _ _⟩
        · have HPN := Lib.hid (show putI x xs = xs.take k ++ (x :: xs.drop k) by have h1 := HNW.out HA.out he; rw [HA.out] at h1; exact h1)
          have he2 : (y == x) = false := by simp [he]
          obtain ⟨Q, e2⟩ : ∃ Q, (if oc = k then some a else some (a.add k)) = Q := ⟨_, rfl⟩
          clear hq HY HN HTH HNW
          go_wp2
          refine wp_region_noPanic ?_
          refine wp_region_held_drew (S := (fun w' => Below w.heap.size w w')) (by kernel_rfl) ?_ (fun hHeld => ?_)
          · ((try dsimp only); exact (Below.refl _ _).drew)
          generalize w.drew = ud at *
          refine take_yes (i := 1) (d := 34) (v := ?_) rfl rfl (by kernel_rfl) (by kernel_rfl) (by kernel_rfl) (fun _ _ _ h => h) (by kernel_rfl) ?_ hHeld ?_
          rotate_left
          · (intro w hSw; (try dsimp only at hSw); go_simp; try (with_reducible rfl))
          try simp only [Act.put, List.setIfInBounds_toArray, List.set_cons_zero, List.set_cons_succ]
          refine take_yes (i := 2) (d := 35) (v := ?_) rfl rfl (by kernel_rfl) (by kernel_rfl) (by kernel_rfl) (fun _ _ _ h => h) (by kernel_rfl) ?_ hHeld ?_
          rotate_left
          · (intro w hSw; (try dsimp only at hSw); go_simp; try (with_reducible rfl))
          try simp only [Act.put, List.setIfInBounds_toArray, List.set_cons_zero, List.set_cons_succ]
          refine take_yes (i := 3) (d := 36) (v := ?_) rfl rfl (by kernel_rfl) (by kernel_rfl) (by kernel_rfl) (fun _ _ _ h => h) (by kernel_rfl) ?_ hHeld ?_
          rotate_left
          · (intro w hSw; (try dsimp only at hSw); go_simp; try (with_reducible rfl))
          try simp only [Act.put, List.setIfInBounds_toArray, List.set_cons_zero, List.set_cons_succ]
          refine take_yes (i := 5) (d := 38) (v := ?_) rfl rfl (by kernel_rfl) (by kernel_rfl) (by kernel_rfl) (fun _ _ _ h => h) (by kernel_rfl) ?_ hHeld ?_
          rotate_left
          · (intro w hSw; (try dsimp only at hSw); go_simp; try (with_reducible rfl))
          try simp only [Act.put, List.setIfInBounds_toArray, List.set_cons_zero, List.set_cons_succ]
          refine take_yes (i := 8) (d := 41) (v := ?_) rfl rfl (by kernel_rfl) (by kernel_rfl) (by kernel_rfl) (fun _ _ _ h => h) (by kernel_rfl) ?_ hHeld ?_
          rotate_left
          · (intro w hSw; (try dsimp only at hSw); go_simp; try (with_reducible rfl))
          try simp only [Act.put, List.setIfInBounds_toArray, List.set_cons_zero, List.set_cons_succ]
          refine take_yes (i := 9) (d := 42) (v := ?_) rfl rfl (by kernel_rfl) (by kernel_rfl) (by kernel_rfl) (fun _ _ _ h => h) (by kernel_rfl) ?_ hHeld ?_
          rotate_left
          · (intro w hSw; (try dsimp only at hSw); go_simp; try (with_reducible rfl))
          try simp only [Act.put, List.setIfInBounds_toArray, List.set_cons_zero, List.set_cons_succ]
          refine take_yes (i := 10) (d := 43) (v := ?_) rfl rfl (by kernel_rfl) (by kernel_rfl) (by kernel_rfl) (fun _ _ _ h => h) (by kernel_rfl) ?_ hHeld ?_
          rotate_left
          · (intro w hSw; (try dsimp only at hSw); go_simp; try (with_reducible rfl))
          try simp only [Act.put, List.setIfInBounds_toArray, List.set_cons_zero, List.set_cons_succ]
          refine wpAnyH_ready (rs := [0, 6]) (by kernel_rfl) (by simp) ?_
          refine AllReadyH.cons rfl (fun K hK => ?_) (AllReadyH.cons rfl (fun K hK => ?_) (AllReadyH.nil))
          · have hsz := hHeld.size
            try go_simp
            (first | refine hK.out _ _ ?_ (fun hHeld1 => ?_) | (go_wp2_with fail; refine hK.out _ _ ?_ (fun hHeld1 => ?_)))
            · ((try dsimp only); exact hHeld.trans ((below1 ud (.cells #[] 3)).mono hHeld.size))
            clear hK K hHeld
            have hHeld := hHeld1
            clear hHeld1
            try simp only [Act.put, List.setIfInBounds_toArray, List.set_cons_zero, List.set_cons_succ]
            have hb := below1 ud (.cells #[] 3)
            have HZ := Lib.hid (own_nil_lit ud w.heap.size ud.heap.size 3 1 rfl hsz)
            have hgz : (⟨ud.heap.size, 0, none⟩ : Addr) = ⟨ud.heap.size, 0, none⟩ := rfl
            clear hb hsz hgz
            generalize (ud.alloc (.cells #[] 3)) = v1 at *
            refine wpAnyH_ready (rs := [4, 6]) (by kernel_rfl) (by simp) ?_
            refine AllReadyH.cons rfl (fun K hK => ?_) (AllReadyH.cons rfl (fun K hK => ?_) (AllReadyH.nil))
            · have hsz := hHeld.size
              refine step_append_lit elInt _ (by rfl) _ _ (by rfl) w.heap.size ud.heap.size (some a) k oc (IntK.row (xs.take k)) (by rfl) (by rfl) (by rw [IntK.row_len, List.length_take]; show _ * 1 = _; omega) HZ.out (rows_take IntK ((Cells.of_own HOWN.out).below hHeld)) int_one hsz (by omega) ?_
              intro O1 d1 v2 own1 hb hq1
              have HO1 := Lib.hid own1
              have HBk := Lib.hid (hHeld.trans (hb.mono hHeld.size))
              clear own1 hq1 hb hsz
              (first | refine hK.out _ _ ?_ (fun hHeld1 => ?_) | (go_wp2_with fail; refine hK.out _ _ ?_ (fun hHeld1 => ?_)))
              · ((try dsimp only); exact HBk.out)
              clear hK K hHeld
              have hHeld := hHeld1
              clear hHeld1
              try simp only [Act.put, List.setIfInBounds_toArray, List.set_cons_zero, List.set_cons_succ]
              clear HBk
              refine wpAnyH_ready (rs := [6]) (by kernel_rfl) (by simp) ?_
              refine AllReadyH.cons rfl (fun K hK => ?_) (AllReadyH.nil)
              have hsz := hHeld.size
              try go_simp
              (first | refine hK.out _ _ ?_ (fun hHeld1 => ?_) | (go_wp2_with fail; refine hK.out _ _ ?_ (fun hHeld1 => ?_)))
              · ((try dsimp only); exact hHeld.trans ((below1 v2 (.cells #[.int .i64 x] 3)).mono hHeld.size))
              clear hK K hHeld
              have hHeld := hHeld1
              clear hHeld1
              try simp only [Act.put, List.setIfInBounds_toArray, List.set_cons_zero, List.set_cons_succ]
              have hb := below1 v2 (.cells #[.int .i64 x] 3)
              have HO1 := Lib.hid (own_keep HO1.out hb)
              have HX := Lib.hid (cells_one v2 (.int .i64 x) 3 v2.heap.size rfl)
              clear hb hsz
              generalize (v2.alloc (.cells #[.int .i64 x] 3)) = v3 at *
              refine wpAnyH_ready (rs := [7]) (by kernel_rfl) (by simp) ?_
              refine AllReadyH.cons rfl (fun K hK => ?_) (AllReadyH.nil)
              have hsz := hHeld.size
              refine step_append elInt _ (by rfl) _ _ (by rfl) w.heap.size O1 (some ⟨v2.heap.size, 0, none⟩) d1 k 1 1 (IntK.row (xs.take k)) (IntK.row [x]) (by rfl) (by rfl) rfl HO1.out HX.out int_one hsz (by omega) ?_
              intro O2 d2 v4 own1 hb
              have HO2 := Lib.hid own1
              have HBk := Lib.hid (hHeld.trans hb)
              clear own1 hb hsz
              (first | refine hK.out _ _ ?_ (fun hHeld1 => ?_) | (go_wp2_with fail; refine hK.out _ _ ?_ (fun hHeld1 => ?_)))
              · ((try dsimp only); exact HBk.out)
              clear hK K hHeld
              have hHeld := hHeld1
              clear hHeld1
              try simp only [Act.put, List.setIfInBounds_toArray, List.set_cons_zero, List.set_cons_succ]
              clear HBk
              refine wpAnyH_ready (rs := [11]) (by kernel_rfl) (by simp) ?_
              refine AllReadyH.cons rfl (fun K hK => ?_) (AllReadyH.nil)
              have hsz := hHeld.size
              refine step_append elInt _ (by rfl) _ _ (by rfl) w.heap.size O2 Q d2 (k + 1) (xs.length - k) (oc - k) (IntK.row (xs.take k) ++ IntK.row [x]) (IntK.row (xs.drop k)) (by rfl) (by first | rfl | (show Value.slice _ _ _ = _; congr 1)) (by rw [IntK.row_len, List.length_drop]; rfl) HO2.out (rows_cut ((Cells.of_own HOWN.out).below hHeld) (fun h0 => by rw [← e2]; have := own_cap HOWN.out; rw [if_neg (by omega)]; try rfl)) int_one hsz (by omega) ?_
              intro O3 d3 v5 own1 hb
              have HO3 := Lib.hid own1
              have HBk := Lib.hid (hHeld.trans hb)
              clear own1 hb hsz
              (first | refine hK.out _ _ ?_ (fun hHeld1 => ?_) | (go_wp2_with fail; refine hK.out _ _ ?_ (fun hHeld1 => ?_)))
              · ((try dsimp only); exact HBk.out)
              clear hK K hHeld
              have hHeld := hHeld1
              clear hHeld1
              try simp only [Act.put, List.setIfInBounds_toArray, List.set_cons_zero, List.set_cons_succ]
              clear HBk
              refine take_yes (i := 12) (d := 4) (v := ?_) rfl rfl (by kernel_rfl) (by kernel_rfl) (by kernel_rfl) (fun _ _ _ h => h) (by kernel_rfl) ?_ hHeld ?_
              rotate_left
              · (intro w hSw; (try dsimp only at hSw); go_simp; try (with_reducible rfl))
              try simp only [Act.put, List.setIfInBounds_toArray, List.set_cons_zero, List.set_cons_succ]
              refine wpAnyH_done (by kernel_rfl) ?_ _
              refine NoPanic.normal ?_
              have HF := Lib.hid hHeld
              clear hHeld
              go_wp2
              go_ret
              have hlen : (putI x xs).length = k + 1 + (xs.length - k) := by rw [HPN.out]; first | (simp; done) | (simp; omega)
              refine ⟨O3, d3, by rw [hlen]; first | rfl | (simp; done) | (simp [Array.getD]; done), ?_, HF.out.mono hb0⟩
              rw [hlen]
              have h9 := HO3.out
              rw [← IntK.row_append, ← IntK.row_append, List.append_assoc, List.singleton_append, ← HPN.out] at h9
              exact own_mono h9 hb0
            · have hsz := hHeld.size
              try go_simp
              (first | refine hK.out _ _ ?_ (fun hHeld1 => ?_) | (go_wp2_with fail; refine hK.out _ _ ?_ (fun hHeld1 => ?_)))
              · ((try dsimp only); exact hHeld.trans ((below1 v1 (.cells #[.int .i64 x] 3)).mono hHeld.size))
              clear hK K hHeld
              have hHeld := hHeld1
              clear hHeld1
              try simp only [Act.put, List.setIfInBounds_toArray, List.set_cons_zero, List.set_cons_succ]
              have hb := below1 v1 (.cells #[.int .i64 x] 3)
              have HZ := Lib.hid (own_keep HZ.out hb)
              have HX := Lib.hid (cells_one v1 (.int .i64 x) 3 v1.heap.size rfl)
              clear hb hsz
              generalize (v1.alloc (.cells #[.int .i64 x] 3)) = v2 at *
              refine wpAnyH_ready (rs := [4]) (by kernel_rfl) (by simp) ?_
              refine AllReadyH.cons rfl (fun K hK => ?_) (AllReadyH.nil)
              have hsz := hHeld.size
              refine step_append_lit elInt _ (by rfl) _ _ (by rfl) w.heap.size ud.heap.size (some a) k oc (IntK.row (xs.take k)) (by rfl) (by rfl) (by rw [IntK.row_len, List.length_take]; show _ * 1 = _; omega) HZ.out (rows_take IntK ((Cells.of_own HOWN.out).below hHeld)) int_one hsz (by omega) ?_
              intro O1 d1 v3 own1 hb hq1
              have HO1 := Lib.hid own1
              have HX := Lib.hid (HX.out.below hb)
              have HBk := Lib.hid (hHeld.trans (hb.mono hHeld.size))
              clear own1 hq1 hb hsz
              (first | refine hK.out _ _ ?_ (fun hHeld1 => ?_) | (go_wp2_with fail; refine hK.out _ _ ?_ (fun hHeld1 => ?_)))
              · ((try dsimp only); exact HBk.out)
              clear hK K hHeld
              have hHeld := hHeld1
              clear hHeld1
              try simp only [Act.put, List.setIfInBounds_toArray, List.set_cons_zero, List.set_cons_succ]
              clear HBk
              refine wpAnyH_ready (rs := [7]) (by kernel_rfl) (by simp) ?_
              refine AllReadyH.cons rfl (fun K hK => ?_) (AllReadyH.nil)
              have hsz := hHeld.size
              refine step_append elInt _ (by rfl) _ _ (by rfl) w.heap.size O1 (some ⟨v1.heap.size, 0, none⟩) d1 k 1 1 (IntK.row (xs.take k)) (IntK.row [x]) (by rfl) (by rfl) rfl HO1.out HX.out int_one hsz (by omega) ?_
              intro O2 d2 v4 own1 hb
              have HO2 := Lib.hid own1
              have HBk := Lib.hid (hHeld.trans hb)
              clear own1 hb hsz
              (first | refine hK.out _ _ ?_ (fun hHeld1 => ?_) | (go_wp2_with fail; refine hK.out _ _ ?_ (fun hHeld1 => ?_)))
              · ((try dsimp only); exact HBk.out)
              clear hK K hHeld
              have hHeld := hHeld1
              clear hHeld1
              try simp only [Act.put, List.setIfInBounds_toArray, List.set_cons_zero, List.set_cons_succ]
              clear HBk
              refine wpAnyH_ready (rs := [11]) (by kernel_rfl) (by simp) ?_
              refine AllReadyH.cons rfl (fun K hK => ?_) (AllReadyH.nil)
              have hsz := hHeld.size
              refine step_append elInt _ (by rfl) _ _ (by rfl) w.heap.size O2 Q d2 (k + 1) (xs.length - k) (oc - k) (IntK.row (xs.take k) ++ IntK.row [x]) (IntK.row (xs.drop k)) (by rfl) (by first | rfl | (show Value.slice _ _ _ = _; congr 1)) (by rw [IntK.row_len, List.length_drop]; rfl) HO2.out (rows_cut ((Cells.of_own HOWN.out).below hHeld) (fun h0 => by rw [← e2]; have := own_cap HOWN.out; rw [if_neg (by omega)]; try rfl)) int_one hsz (by omega) ?_
              intro O3 d3 v5 own1 hb
              have HO3 := Lib.hid own1
              have HBk := Lib.hid (hHeld.trans hb)
              clear own1 hb hsz
              (first | refine hK.out _ _ ?_ (fun hHeld1 => ?_) | (go_wp2_with fail; refine hK.out _ _ ?_ (fun hHeld1 => ?_)))
              · ((try dsimp only); exact HBk.out)
              clear hK K hHeld
              have hHeld := hHeld1
              clear hHeld1
              try simp only [Act.put, List.setIfInBounds_toArray, List.set_cons_zero, List.set_cons_succ]
              clear HBk
              refine take_yes (i := 12) (d := 4) (v := ?_) rfl rfl (by kernel_rfl) (by kernel_rfl) (by kernel_rfl) (fun _ _ _ h => h) (by kernel_rfl) ?_ hHeld ?_
              rotate_left
              · (intro w hSw; (try dsimp only at hSw); go_simp; try (with_reducible rfl))
              try simp only [Act.put, List.setIfInBounds_toArray, List.set_cons_zero, List.set_cons_succ]
              refine wpAnyH_done (by kernel_rfl) ?_ _
              refine NoPanic.normal ?_
              have HF := Lib.hid hHeld
              clear hHeld
              go_wp2
              go_ret
              have hlen : (putI x xs).length = k + 1 + (xs.length - k) := by rw [HPN.out]; first | (simp; done) | (simp; omega)
              refine ⟨O3, d3, by rw [hlen]; first | rfl | (simp; done) | (simp [Array.getD]; done), ?_, HF.out.mono hb0⟩
              rw [hlen]
              have h9 := HO3.out
              rw [← IntK.row_append, ← IntK.row_append, List.append_assoc, List.singleton_append, ← HPN.out] at h9
              exact own_mono h9 hb0
          · have hsz := hHeld.size
            try go_simp
            (first | refine hK.out _ _ ?_ (fun hHeld1 => ?_) | (go_wp2_with fail; refine hK.out _ _ ?_ (fun hHeld1 => ?_)))
            · ((try dsimp only); exact hHeld.trans ((below1 ud (.cells #[.int .i64 x] 3)).mono hHeld.size))
            clear hK K hHeld
            have hHeld := hHeld1
            clear hHeld1
            try simp only [Act.put, List.setIfInBounds_toArray, List.set_cons_zero, List.set_cons_succ]
            have hb := below1 ud (.cells #[.int .i64 x] 3)
            have HX := Lib.hid (cells_one ud (.int .i64 x) 3 ud.heap.size rfl)
            clear hb hsz
            generalize (ud.alloc (.cells #[.int .i64 x] 3)) = v1 at *
            refine wpAnyH_ready (rs := [0]) (by kernel_rfl) (by simp) ?_
            refine AllReadyH.cons rfl (fun K hK => ?_) (AllReadyH.nil)
            have hsz := hHeld.size
            try go_simp
            (first | refine hK.out _ _ ?_ (fun hHeld1 => ?_) | (go_wp2_with fail; refine hK.out _ _ ?_ (fun hHeld1 => ?_)))
            · ((try dsimp only); exact hHeld.trans ((below1 v1 (.cells #[] 3)).mono hHeld.size))
            clear hK K hHeld
            have hHeld := hHeld1
            clear hHeld1
            try simp only [Act.put, List.setIfInBounds_toArray, List.set_cons_zero, List.set_cons_succ]
            have hb := below1 v1 (.cells #[] 3)
            have HX := Lib.hid (HX.out.below hb)
            have HZ := Lib.hid (own_nil_lit v1 w.heap.size v1.heap.size 3 1 rfl hsz)
            have hgz : (⟨v1.heap.size, 0, none⟩ : Addr) = ⟨v1.heap.size, 0, none⟩ := rfl
            clear hb hsz hgz
            generalize (v1.alloc (.cells #[] 3)) = v2 at *
            refine wpAnyH_ready (rs := [4]) (by kernel_rfl) (by simp) ?_
            refine AllReadyH.cons rfl (fun K hK => ?_) (AllReadyH.nil)
            have hsz := hHeld.size
            refine step_append_lit elInt _ (by rfl) _ _ (by rfl) w.heap.size v1.heap.size (some a) k oc (IntK.row (xs.take k)) (by rfl) (by rfl) (by rw [IntK.row_len, List.length_take]; show _ * 1 = _; omega) HZ.out (rows_take IntK ((Cells.of_own HOWN.out).below hHeld)) int_one hsz (by omega) ?_
            intro O1 d1 v3 own1 hb hq1
            have HO1 := Lib.hid own1
            have HX := Lib.hid (HX.out.below hb)
            have HBk := Lib.hid (hHeld.trans (hb.mono hHeld.size))
            clear own1 hq1 hb hsz
            (first | refine hK.out _ _ ?_ (fun hHeld1 => ?_) | (go_wp2_with fail; refine hK.out _ _ ?_ (fun hHeld1 => ?_)))
            · ((try dsimp only); exact HBk.out)
            clear hK K hHeld
            have hHeld := hHeld1
            clear hHeld1
            try simp only [Act.put, List.setIfInBounds_toArray, List.set_cons_zero, List.set_cons_succ]
            clear HBk
            refine wpAnyH_ready (rs := [7]) (by kernel_rfl) (by simp) ?_
            refine AllReadyH.cons rfl (fun K hK => ?_) (AllReadyH.nil)
            have hsz := hHeld.size
            refine step_append elInt _ (by rfl) _ _ (by rfl) w.heap.size O1 (some ⟨ud.heap.size, 0, none⟩) d1 k 1 1 (IntK.row (xs.take k)) (IntK.row [x]) (by rfl) (by rfl) rfl HO1.out HX.out int_one hsz (by omega) ?_
            intro O2 d2 v4 own1 hb
            have HO2 := Lib.hid own1
            have HBk := Lib.hid (hHeld.trans hb)
            clear own1 hb hsz
            (first | refine hK.out _ _ ?_ (fun hHeld1 => ?_) | (go_wp2_with fail; refine hK.out _ _ ?_ (fun hHeld1 => ?_)))
            · ((try dsimp only); exact HBk.out)
            clear hK K hHeld
            have hHeld := hHeld1
            clear hHeld1
            try simp only [Act.put, List.setIfInBounds_toArray, List.set_cons_zero, List.set_cons_succ]
            clear HBk
            refine wpAnyH_ready (rs := [11]) (by kernel_rfl) (by simp) ?_
            refine AllReadyH.cons rfl (fun K hK => ?_) (AllReadyH.nil)
            have hsz := hHeld.size
            refine step_append elInt _ (by rfl) _ _ (by rfl) w.heap.size O2 Q d2 (k + 1) (xs.length - k) (oc - k) (IntK.row (xs.take k) ++ IntK.row [x]) (IntK.row (xs.drop k)) (by rfl) (by first | rfl | (show Value.slice _ _ _ = _; congr 1)) (by rw [IntK.row_len, List.length_drop]; rfl) HO2.out (rows_cut ((Cells.of_own HOWN.out).below hHeld) (fun h0 => by rw [← e2]; have := own_cap HOWN.out; rw [if_neg (by omega)]; try rfl)) int_one hsz (by omega) ?_
            intro O3 d3 v5 own1 hb
            have HO3 := Lib.hid own1
            have HBk := Lib.hid (hHeld.trans hb)
            clear own1 hb hsz
            (first | refine hK.out _ _ ?_ (fun hHeld1 => ?_) | (go_wp2_with fail; refine hK.out _ _ ?_ (fun hHeld1 => ?_)))
            · ((try dsimp only); exact HBk.out)
            clear hK K hHeld
            have hHeld := hHeld1
            clear hHeld1
            try simp only [Act.put, List.setIfInBounds_toArray, List.set_cons_zero, List.set_cons_succ]
            clear HBk
            refine take_yes (i := 12) (d := 4) (v := ?_) rfl rfl (by kernel_rfl) (by kernel_rfl) (by kernel_rfl) (fun _ _ _ h => h) (by kernel_rfl) ?_ hHeld ?_
            rotate_left
            · (intro w hSw; (try dsimp only at hSw); go_simp; try (with_reducible rfl))
            try simp only [Act.put, List.setIfInBounds_toArray, List.set_cons_zero, List.set_cons_succ]
            refine wpAnyH_done (by kernel_rfl) ?_ _
            refine NoPanic.normal ?_
            have HF := Lib.hid hHeld
            clear hHeld
            go_wp2
            go_ret
            have hlen : (putI x xs).length = k + 1 + (xs.length - k) := by rw [HPN.out]; first | (simp; done) | (simp; omega)
            refine ⟨O3, d3, by rw [hlen]; first | rfl | (simp; done) | (simp [Array.getD]; done), ?_, HF.out.mono hb0⟩
            rw [hlen]
            have h9 := HO3.out
            rw [← IntK.row_append, ← IntK.row_append, List.append_assoc, List.singleton_append, ← HPN.out] at h9
            exact own_mono h9 hb0
    · obtain rfl : k = xs.length := by omega
      have HA := Lib.hid (hq.out.trans cntL_end)
      have HPN := Lib.hid (show putI x xs = xs.take xs.length ++ (x :: xs.drop xs.length) by have h1 := putI_new (x := x) (xs := xs) (fun h => by have := HA.out; omega); rw [HA.out] at h1; exact h1)
      obtain ⟨Q, e2⟩ : ∃ Q, (if oc = xs.length then O else O.map (·.add xs.length)) = Q := ⟨_, rfl⟩
      clear hq hlt
      go_wp2
      refine wp_region_noPanic ?_
      refine wp_region_held_drew (S := (fun w' => Below w.heap.size w w')) (by kernel_rfl) ?_ (fun hHeld => ?_)
      · ((try dsimp only); exact (Below.refl _ _).drew)
      generalize w.drew = ud at *
      refine take_yes (i := 1) (d := 34) (v := ?_) rfl rfl (by kernel_rfl) (by kernel_rfl) (by kernel_rfl) (fun _ _ _ h => h) (by kernel_rfl) ?_ hHeld ?_
      rotate_left
      · (intro w hSw; (try dsimp only at hSw); go_simp; try (with_reducible rfl))
      try simp only [Act.put, List.setIfInBounds_toArray, List.set_cons_zero, List.set_cons_succ]
      refine take_yes (i := 2) (d := 35) (v := ?_) rfl rfl (by kernel_rfl) (by kernel_rfl) (by kernel_rfl) (fun _ _ _ h => h) (by kernel_rfl) ?_ hHeld ?_
      rotate_left
      · (intro w hSw; (try dsimp only at hSw); go_simp; try (with_reducible rfl))
      try simp only [Act.put, List.setIfInBounds_toArray, List.set_cons_zero, List.set_cons_succ]
      refine take_yes (i := 3) (d := 36) (v := ?_) rfl rfl (by kernel_rfl) (by kernel_rfl) (by kernel_rfl) (fun _ _ _ h => h) (by kernel_rfl) ?_ hHeld ?_
      rotate_left
      · (intro w hSw; (try dsimp only at hSw); go_simp; try (with_reducible rfl))
      try simp only [Act.put, List.setIfInBounds_toArray, List.set_cons_zero, List.set_cons_succ]
      refine take_yes (i := 5) (d := 38) (v := ?_) rfl rfl (by kernel_rfl) (by kernel_rfl) (by kernel_rfl) (fun _ _ _ h => h) (by kernel_rfl) ?_ hHeld ?_
      rotate_left
      · (intro w hSw; (try dsimp only at hSw); go_simp; try (with_reducible rfl))
      try simp only [Act.put, List.setIfInBounds_toArray, List.set_cons_zero, List.set_cons_succ]
      refine take_yes (i := 8) (d := 41) (v := ?_) rfl rfl (by kernel_rfl) (by kernel_rfl) (by kernel_rfl) (fun _ _ _ h => h) (by kernel_rfl) ?_ hHeld ?_
      rotate_left
      · (intro w hSw; (try dsimp only at hSw); go_simp; try (with_reducible rfl))
      try simp only [Act.put, List.setIfInBounds_toArray, List.set_cons_zero, List.set_cons_succ]
      refine take_yes (i := 9) (d := 42) (v := ?_) rfl rfl (by kernel_rfl) (by kernel_rfl) (by kernel_rfl) (fun _ _ _ h => h) (by kernel_rfl) ?_ hHeld ?_
      rotate_left
      · (intro w hSw; (try dsimp only at hSw); go_simp; try (with_reducible rfl))
      try simp only [Act.put, List.setIfInBounds_toArray, List.set_cons_zero, List.set_cons_succ]
      refine take_yes (i := 10) (d := 43) (v := ?_) rfl rfl (by kernel_rfl) (by kernel_rfl) (by kernel_rfl) (fun _ _ _ h => h) (by kernel_rfl) ?_ hHeld ?_
      rotate_left
      · (intro w hSw; (try dsimp only at hSw); go_simp; try (with_reducible rfl))
      try simp only [Act.put, List.setIfInBounds_toArray, List.set_cons_zero, List.set_cons_succ]
      refine wpAnyH_ready (rs := [0, 6]) (by kernel_rfl) (by simp) ?_
      refine AllReadyH.cons rfl (fun K hK => ?_) (AllReadyH.cons rfl (fun K hK => ?_) (AllReadyH.nil))
      · have hsz := hHeld.size
        try go_simp
        (first | refine hK.out _ _ ?_ (fun hHeld1 => ?_) | (go_wp2_with fail; refine hK.out _ _ ?_ (fun hHeld1 => ?_)))
        · ((try dsimp only); exact hHeld.trans ((below1 ud (.cells #[] 3)).mono hHeld.size))
        clear hK K hHeld
        have hHeld := hHeld1
        clear hHeld1
        try simp only [Act.put, List.setIfInBounds_toArray, List.set_cons_zero, List.set_cons_succ]
        have hb := below1 ud (.cells #[] 3)
        have HZ := Lib.hid (own_nil_lit ud w.heap.size ud.heap.size 3 1 rfl hsz)
        have hgz : (⟨ud.heap.size, 0, none⟩ : Addr) = ⟨ud.heap.size, 0, none⟩ := rfl
        clear hb hsz hgz
        generalize (ud.alloc (.cells #[] 3)) = v1 at *
        refine wpAnyH_ready (rs := [4, 6]) (by kernel_rfl) (by simp) ?_
        refine AllReadyH.cons rfl (fun K hK => ?_) (AllReadyH.cons rfl (fun K hK => ?_) (AllReadyH.nil))
        · have hsz := hHeld.size
          refine step_append_lit elInt _ (by rfl) _ _ (by rfl) w.heap.size ud.heap.size O xs.length oc (IntK.row (xs.take xs.length)) (by rfl) (by rfl) (by rw [IntK.row_len, List.length_take]; show _ * 1 = _; omega) HZ.out (rows_take IntK ((Cells.of_own HOWN.out).below hHeld)) int_one hsz (by omega) ?_
          intro O1 d1 v2 own1 hb hq1
          have HO1 := Lib.hid own1
          have HBk := Lib.hid (hHeld.trans (hb.mono hHeld.size))
          clear own1 hq1 hb hsz
          (first | refine hK.out _ _ ?_ (fun hHeld1 => ?_) | (go_wp2_with fail; refine hK.out _ _ ?_ (fun hHeld1 => ?_)))
          · ((try dsimp only); exact HBk.out)
          clear hK K hHeld
          have hHeld := hHeld1
          clear hHeld1
          try simp only [Act.put, List.setIfInBounds_toArray, List.set_cons_zero, List.set_cons_succ]
          clear HBk
          refine wpAnyH_ready (rs := [6]) (by kernel_rfl) (by simp) ?_
          refine AllReadyH.cons rfl (fun K hK => ?_) (AllReadyH.nil)
          have hsz := hHeld.size
          try go_simp
          (first | refine hK.out _ _ ?_ (fun hHeld1 => ?_) | (go_wp2_with fail; refine hK.out _ _ ?_ (fun hHeld1 => ?_)))
          · ((try dsimp only); exact hHeld.trans ((below1 v2 (.cells #[.int .i64 x] 3)).mono hHeld.size))
          clear hK K hHeld
          have hHeld := hHeld1
          clear hHeld1
          try simp only [Act.put, List.setIfInBounds_toArray, List.set_cons_zero, List.set_cons_succ]
          have hb := below1 v2 (.cells #[.int .i64 x] 3)
          have HO1 := Lib.hid (own_keep HO1.out hb)
          have HX := Lib.hid (cells_one v2 (.int .i64 x) 3 v2.heap.size rfl)
          clear hb hsz
          generalize (v2.alloc (.cells #[.int .i64 x] 3)) = v3 at *
          refine wpAnyH_ready (rs := [7]) (by kernel_rfl) (by simp) ?_
          refine AllReadyH.cons rfl (fun K hK => ?_) (AllReadyH.nil)
          have hsz := hHeld.size
          refine step_append elInt _ (by rfl) _ _ (by rfl) w.heap.size O1 (some ⟨v2.heap.size, 0, none⟩) d1 xs.length 1 1 (IntK.row (xs.take xs.length)) (IntK.row [x]) (by rfl) (by rfl) rfl HO1.out HX.out int_one hsz (by omega) ?_
          intro O2 d2 v4 own1 hb
          have HO2 := Lib.hid own1
          have HBk := Lib.hid (hHeld.trans hb)
          clear own1 hb hsz
          (first | refine hK.out _ _ ?_ (fun hHeld1 => ?_) | (go_wp2_with fail; refine hK.out _ _ ?_ (fun hHeld1 => ?_)))
          · ((try dsimp only); exact HBk.out)
          clear hK K hHeld
          have hHeld := hHeld1
          clear hHeld1
          try simp only [Act.put, List.setIfInBounds_toArray, List.set_cons_zero, List.set_cons_succ]
          clear HBk
          refine wpAnyH_ready (rs := [11]) (by kernel_rfl) (by simp) ?_
          refine AllReadyH.cons rfl (fun K hK => ?_) (AllReadyH.nil)
          have hsz := hHeld.size
          refine step_append elInt _ (by rfl) _ _ (by rfl) w.heap.size O2 Q d2 (xs.length + 1) 0 (oc - xs.length) (IntK.row (xs.take xs.length) ++ IntK.row [x]) (IntK.row (xs.drop xs.length)) (by rfl) (by first | rfl | (show Value.slice _ _ _ = _; congr 1)) (by rw [IntK.row_len, List.length_drop, Nat.sub_self]; rfl) HO2.out (rows_cut ((Cells.of_own HOWN.out).below hHeld) (fun h0 => by rw [← e2]; have := own_cap HOWN.out; rw [if_neg (by omega)]; try rfl)) int_one hsz (by omega) ?_
          intro O3 d3 v5 own1 hb
          have HO3 := Lib.hid own1
          have HBk := Lib.hid (hHeld.trans hb)
          clear own1 hb hsz
          (first | refine hK.out _ _ ?_ (fun hHeld1 => ?_) | (go_wp2_with fail; refine hK.out _ _ ?_ (fun hHeld1 => ?_)))
          · ((try dsimp only); exact HBk.out)
          clear hK K hHeld
          have hHeld := hHeld1
          clear hHeld1
          try simp only [Act.put, List.setIfInBounds_toArray, List.set_cons_zero, List.set_cons_succ]
          clear HBk
          refine take_yes (i := 12) (d := 4) (v := ?_) rfl rfl (by kernel_rfl) (by kernel_rfl) (by kernel_rfl) (fun _ _ _ h => h) (by kernel_rfl) ?_ hHeld ?_
          rotate_left
          · (intro w hSw; (try dsimp only at hSw); go_simp; try (with_reducible rfl))
          try simp only [Act.put, List.setIfInBounds_toArray, List.set_cons_zero, List.set_cons_succ]
          refine wpAnyH_done (by kernel_rfl) ?_ _
          refine NoPanic.normal ?_
          have HF := Lib.hid hHeld
          clear hHeld
          go_wp2
          go_ret
          have hlen : (putI x xs).length = xs.length + 1 + 0 := by rw [HPN.out]; first | (simp; done) | (simp; omega)
          refine ⟨O3, d3, by rw [hlen]; first | rfl | (simp; done) | (simp [Array.getD]; done), ?_, HF.out.mono hb0⟩
          rw [hlen]
          have h9 := HO3.out
          rw [← IntK.row_append, ← IntK.row_append, List.append_assoc, List.singleton_append, ← HPN.out] at h9
          exact own_mono h9 hb0
        · have hsz := hHeld.size
          try go_simp
          (first | refine hK.out _ _ ?_ (fun hHeld1 => ?_) | (go_wp2_with fail; refine hK.out _ _ ?_ (fun hHeld1 => ?_)))
          · ((try dsimp only); exact hHeld.trans ((below1 v1 (.cells #[.int .i64 x] 3)).mono hHeld.size))
          clear hK K hHeld
          have hHeld := hHeld1
          clear hHeld1
          try simp only [Act.put, List.setIfInBounds_toArray, List.set_cons_zero, List.set_cons_succ]
          have hb := below1 v1 (.cells #[.int .i64 x] 3)
          have HZ := Lib.hid (own_keep HZ.out hb)
          have HX := Lib.hid (cells_one v1 (.int .i64 x) 3 v1.heap.size rfl)
          clear hb hsz
          generalize (v1.alloc (.cells #[.int .i64 x] 3)) = v2 at *
          refine wpAnyH_ready (rs := [4]) (by kernel_rfl) (by simp) ?_
          refine AllReadyH.cons rfl (fun K hK => ?_) (AllReadyH.nil)
          have hsz := hHeld.size
          refine step_append_lit elInt _ (by rfl) _ _ (by rfl) w.heap.size ud.heap.size O xs.length oc (IntK.row (xs.take xs.length)) (by rfl) (by rfl) (by rw [IntK.row_len, List.length_take]; show _ * 1 = _; omega) HZ.out (rows_take IntK ((Cells.of_own HOWN.out).below hHeld)) int_one hsz (by omega) ?_
          intro O1 d1 v3 own1 hb hq1
          have HO1 := Lib.hid own1
          have HX := Lib.hid (HX.out.below hb)
          have HBk := Lib.hid (hHeld.trans (hb.mono hHeld.size))
          clear own1 hq1 hb hsz
          (first | refine hK.out _ _ ?_ (fun hHeld1 => ?_) | (go_wp2_with fail; refine hK.out _ _ ?_ (fun hHeld1 => ?_)))
          · ((try dsimp only); exact HBk.out)
          clear hK K hHeld
          have hHeld := hHeld1
          clear hHeld1
          try simp only [Act.put, List.setIfInBounds_toArray, List.set_cons_zero, List.set_cons_succ]
          clear HBk
          refine wpAnyH_ready (rs := [7]) (by kernel_rfl) (by simp) ?_
          refine AllReadyH.cons rfl (fun K hK => ?_) (AllReadyH.nil)
          have hsz := hHeld.size
          refine step_append elInt _ (by rfl) _ _ (by rfl) w.heap.size O1 (some ⟨v1.heap.size, 0, none⟩) d1 xs.length 1 1 (IntK.row (xs.take xs.length)) (IntK.row [x]) (by rfl) (by rfl) rfl HO1.out HX.out int_one hsz (by omega) ?_
          intro O2 d2 v4 own1 hb
          have HO2 := Lib.hid own1
          have HBk := Lib.hid (hHeld.trans hb)
          clear own1 hb hsz
          (first | refine hK.out _ _ ?_ (fun hHeld1 => ?_) | (go_wp2_with fail; refine hK.out _ _ ?_ (fun hHeld1 => ?_)))
          · ((try dsimp only); exact HBk.out)
          clear hK K hHeld
          have hHeld := hHeld1
          clear hHeld1
          try simp only [Act.put, List.setIfInBounds_toArray, List.set_cons_zero, List.set_cons_succ]
          clear HBk
          refine wpAnyH_ready (rs := [11]) (by kernel_rfl) (by simp) ?_
          refine AllReadyH.cons rfl (fun K hK => ?_) (AllReadyH.nil)
          have hsz := hHeld.size
          refine step_append elInt _ (by rfl) _ _ (by rfl) w.heap.size O2 Q d2 (xs.length + 1) 0 (oc - xs.length) (IntK.row (xs.take xs.length) ++ IntK.row [x]) (IntK.row (xs.drop xs.length)) (by rfl) (by first | rfl | (show Value.slice _ _ _ = _; congr 1)) (by rw [IntK.row_len, List.length_drop, Nat.sub_self]; rfl) HO2.out (rows_cut ((Cells.of_own HOWN.out).below hHeld) (fun h0 => by rw [← e2]; have := own_cap HOWN.out; rw [if_neg (by omega)]; try rfl)) int_one hsz (by omega) ?_
          intro O3 d3 v5 own1 hb
          have HO3 := Lib.hid own1
          have HBk := Lib.hid (hHeld.trans hb)
          clear own1 hb hsz
          (first | refine hK.out _ _ ?_ (fun hHeld1 => ?_) | (go_wp2_with fail; refine hK.out _ _ ?_ (fun hHeld1 => ?_)))
          · ((try dsimp only); exact HBk.out)
          clear hK K hHeld
          have hHeld := hHeld1
          clear hHeld1
          try simp only [Act.put, List.setIfInBounds_toArray, List.set_cons_zero, List.set_cons_succ]
          clear HBk
          refine take_yes (i := 12) (d := 4) (v := ?_) rfl rfl (by kernel_rfl) (by kernel_rfl) (by kernel_rfl) (fun _ _ _ h => h) (by kernel_rfl) ?_ hHeld ?_
          rotate_left
          · (intro w hSw; (try dsimp only at hSw); go_simp; try (with_reducible rfl))
          try simp only [Act.put, List.setIfInBounds_toArray, List.set_cons_zero, List.set_cons_succ]
          refine wpAnyH_done (by kernel_rfl) ?_ _
          refine NoPanic.normal ?_
          have HF := Lib.hid hHeld
          clear hHeld
          go_wp2
          go_ret
          have hlen : (putI x xs).length = xs.length + 1 + 0 := by rw [HPN.out]; first | (simp; done) | (simp; omega)
          refine ⟨O3, d3, by rw [hlen]; first | rfl | (simp; done) | (simp [Array.getD]; done), ?_, HF.out.mono hb0⟩
          rw [hlen]
          have h9 := HO3.out
          rw [← IntK.row_append, ← IntK.row_append, List.append_assoc, List.singleton_append, ← HPN.out] at h9
          exact own_mono h9 hb0
      · have hsz := hHeld.size
        try go_simp
        (first | refine hK.out _ _ ?_ (fun hHeld1 => ?_) | (go_wp2_with fail; refine hK.out _ _ ?_ (fun hHeld1 => ?_)))
        · ((try dsimp only); exact hHeld.trans ((below1 ud (.cells #[.int .i64 x] 3)).mono hHeld.size))
        clear hK K hHeld
        have hHeld := hHeld1
        clear hHeld1
        try simp only [Act.put, List.setIfInBounds_toArray, List.set_cons_zero, List.set_cons_succ]
        have hb := below1 ud (.cells #[.int .i64 x] 3)
        have HX := Lib.hid (cells_one ud (.int .i64 x) 3 ud.heap.size rfl)
        clear hb hsz
        generalize (ud.alloc (.cells #[.int .i64 x] 3)) = v1 at *
        refine wpAnyH_ready (rs := [0]) (by kernel_rfl) (by simp) ?_
        refine AllReadyH.cons rfl (fun K hK => ?_) (AllReadyH.nil)
        have hsz := hHeld.size
        try go_simp
        (first | refine hK.out _ _ ?_ (fun hHeld1 => ?_) | (go_wp2_with fail; refine hK.out _ _ ?_ (fun hHeld1 => ?_)))
        · ((try dsimp only); exact hHeld.trans ((below1 v1 (.cells #[] 3)).mono hHeld.size))
        clear hK K hHeld
        have hHeld := hHeld1
        clear hHeld1
        try simp only [Act.put, List.setIfInBounds_toArray, List.set_cons_zero, List.set_cons_succ]
        have hb := below1 v1 (.cells #[] 3)
        have HX := Lib.hid (HX.out.below hb)
        have HZ := Lib.hid (own_nil_lit v1 w.heap.size v1.heap.size 3 1 rfl hsz)
        have hgz : (⟨v1.heap.size, 0, none⟩ : Addr) = ⟨v1.heap.size, 0, none⟩ := rfl
        clear hb hsz hgz
        generalize (v1.alloc (.cells #[] 3)) = v2 at *
        refine wpAnyH_ready (rs := [4]) (by kernel_rfl) (by simp) ?_
        refine AllReadyH.cons rfl (fun K hK => ?_) (AllReadyH.nil)
        have hsz := hHeld.size
        refine step_append_lit elInt _ (by rfl) _ _ (by rfl) w.heap.size v1.heap.size O xs.length oc (IntK.row (xs.take xs.length)) (by rfl) (by rfl) (by rw [IntK.row_len, List.length_take]; show _ * 1 = _; omega) HZ.out (rows_take IntK ((Cells.of_own HOWN.out).below hHeld)) int_one hsz (by omega) ?_
        intro O1 d1 v3 own1 hb hq1
        have HO1 := Lib.hid own1
        have HX := Lib.hid (HX.out.below hb)
        have HBk := Lib.hid (hHeld.trans (hb.mono hHeld.size))
        clear own1 hq1 hb hsz
        (first | refine hK.out _ _ ?_ (fun hHeld1 => ?_) | (go_wp2_with fail; refine hK.out _ _ ?_ (fun hHeld1 => ?_)))
        · ((try dsimp only); exact HBk.out)
        clear hK K hHeld
        have hHeld := hHeld1
        clear hHeld1
        try simp only [Act.put, List.setIfInBounds_toArray, List.set_cons_zero, List.set_cons_succ]
        clear HBk
        refine wpAnyH_ready (rs := [7]) (by kernel_rfl) (by simp) ?_
        refine AllReadyH.cons rfl (fun K hK => ?_) (AllReadyH.nil)
        have hsz := hHeld.size
        refine step_append elInt _ (by rfl) _ _ (by rfl) w.heap.size O1 (some ⟨ud.heap.size, 0, none⟩) d1 xs.length 1 1 (IntK.row (xs.take xs.length)) (IntK.row [x]) (by rfl) (by rfl) rfl HO1.out HX.out int_one hsz (by omega) ?_
        intro O2 d2 v4 own1 hb
        have HO2 := Lib.hid own1
        have HBk := Lib.hid (hHeld.trans hb)
        clear own1 hb hsz
        (first | refine hK.out _ _ ?_ (fun hHeld1 => ?_) | (go_wp2_with fail; refine hK.out _ _ ?_ (fun hHeld1 => ?_)))
        · ((try dsimp only); exact HBk.out)
        clear hK K hHeld
        have hHeld := hHeld1
        clear hHeld1
        try simp only [Act.put, List.setIfInBounds_toArray, List.set_cons_zero, List.set_cons_succ]
        clear HBk
        refine wpAnyH_ready (rs := [11]) (by kernel_rfl) (by simp) ?_
        refine AllReadyH.cons rfl (fun K hK => ?_) (AllReadyH.nil)
        have hsz := hHeld.size
        refine step_append elInt _ (by rfl) _ _ (by rfl) w.heap.size O2 Q d2 (xs.length + 1) 0 (oc - xs.length) (IntK.row (xs.take xs.length) ++ IntK.row [x]) (IntK.row (xs.drop xs.length)) (by rfl) (by first | rfl | (show Value.slice _ _ _ = _; congr 1)) (by rw [IntK.row_len, List.length_drop, Nat.sub_self]; rfl) HO2.out (rows_cut ((Cells.of_own HOWN.out).below hHeld) (fun h0 => by rw [← e2]; have := own_cap HOWN.out; rw [if_neg (by omega)]; try rfl)) int_one hsz (by omega) ?_
        intro O3 d3 v5 own1 hb
        have HO3 := Lib.hid own1
        have HBk := Lib.hid (hHeld.trans hb)
        clear own1 hb hsz
        (first | refine hK.out _ _ ?_ (fun hHeld1 => ?_) | (go_wp2_with fail; refine hK.out _ _ ?_ (fun hHeld1 => ?_)))
        · ((try dsimp only); exact HBk.out)
        clear hK K hHeld
        have hHeld := hHeld1
        clear hHeld1
        try simp only [Act.put, List.setIfInBounds_toArray, List.set_cons_zero, List.set_cons_succ]
        clear HBk
        refine take_yes (i := 12) (d := 4) (v := ?_) rfl rfl (by kernel_rfl) (by kernel_rfl) (by kernel_rfl) (fun _ _ _ h => h) (by kernel_rfl) ?_ hHeld ?_
        rotate_left
        · (intro w hSw; (try dsimp only at hSw); go_simp; try (with_reducible rfl))
        try simp only [Act.put, List.setIfInBounds_toArray, List.set_cons_zero, List.set_cons_succ]
        refine wpAnyH_done (by kernel_rfl) ?_ _
        refine NoPanic.normal ?_
        have HF := Lib.hid hHeld
        clear hHeld
        go_wp2
        go_ret
        have hlen : (putI x xs).length = xs.length + 1 + 0 := by rw [HPN.out]; first | (simp; done) | (simp; omega)
        refine ⟨O3, d3, by rw [hlen]; first | rfl | (simp; done) | (simp [Array.getD]; done), ?_, HF.out.mono hb0⟩
        rw [hlen]
        have h9 := HO3.out
        rw [← IntK.row_append, ← IntK.row_append, List.append_assoc, List.singleton_append, ← HPN.out] at h9
        exact own_mono h9 hb0
set_option maxHeartbeats 2000000 in
theorem sMoversOf_any (A : Option Addr) (c : Nat) (xs : List Rul) (D : Option Addr) (d : Nat) (qs : List Qst) (w : World) (h : PA w A c xs D d qs) :
    Calls Try.prog 37 #[.slice A xs.length c, .slice D qs.length d] w (ToLB IntK 3 w (mvO xs qs) (pendB xs qs)) := by
  have HP := Lib.hid h
  have hqm := h.qm
  clear h
  go_enter Try.func37, Try.ntmps37
  go_wp2_with fail
  refine (good_any (HP.out.alloc_ _)).mono ?_
  rintro e w1 ⟨rfl, hb⟩
  have HB := Lib.hid (bmono hb)
  have HO1 := Lib.hid (own_keep (own_nil_lit w w.heap.size w.heap.size 3 1 rfl (Nat.le_refl _)) hb)
  clear hb
  rcases Bool.eq_false_or_eq_true (pendB xs qs) with hr | hr
  all_goals have HRT := Lib.hid hr
  · rw [hr]
    have HD := Lib.hid (show mvO xs qs = mvK (mvs qs) qs.length by unfold mvO; rw [hr]; rfl)
    have h6 : qs.length ≤ 6 := by
      unfold pendB at hr
      simp only [Bool.and_eq_true, decide_eq_true_eq] at hr
      omega
    clear hr
    go_wp2
    go_loopw [6, 7] (fun u i wr => ∃ k : Nat, k ≤ qs.length ∧ i = .int .i64 k ∧ ∃ (O : Option Addr) (oc : Nat), u = .slice O (mvK (mvs qs) k).length oc ∧ Hid (wr.ownsRow w.heap.size 3 1 (.slice O (mvK (mvs qs) k).length oc) (mvK (mvs qs) k).length (IntK.row (mvK (mvs qs) k))) ∧ Below w.heap.size w wr) (fun _ i _ => qs.length - (intOf i).toNat)
    case atStart => exact ⟨0, Nat.zero_le _, rfl, _, _, rfl, HO1, HB.out⟩
    case round =>
      obtain ⟨k, hk, rfl, O, oc, rfl, HO, hB⟩ := hrel
      have HBr := Lib.hid hB
      clear hB
      by_cases hlt : k < qs.length
      · obtain ⟨a, rfl, p0, p1, p2⟩ := question_at (HP.out.below HBr.out).qa hlt
        have i1 : (k : Int) < (qs.length : Int) := by omega
        have HS := Lib.hid (show mvK (mvs qs) (k + 1) = putI qs[k].m (mvK (mvs qs) k) by rw [mvK_step (show k < (mvs qs).length by rw [mvs_len]; exact hlt)]; simp [mvs])
        have hle := mvK_len (xs := mvs qs) k (by rw [mvs_len]; omega)
        obtain ⟨q, hq⟩ : ∃ q, Hid (qs[k] = q) := ⟨_, Lib.hid rfl⟩
        rw [hq.out] at p0 p1 p2 HS
        go_wp2_with fail
        refine (l1Put_any w.heap.size O oc (mvK (mvs qs) k) q.m _ HO.out (by omega) HBr.out.size).mono ?_
        rintro e w2 ⟨O2, oc2, rfl, own, hb⟩
        rw [← HS.out] at own ⊢
        have HO2 := Lib.hid own
        have HB2 := Lib.hid (HBr.out.trans hb)
        clear own hb
        go_wp2
        go_roundw
        case rel => exact ⟨k + 1, by omega, by go_num, O2, oc2, rfl, HO2, HB2.out⟩
        case measure => simp [intOf]; omega
      · obtain rfl : k = qs.length := by omega
        have hle := mvK_len (xs := mvs qs) qs.length (by rw [mvs_len]; omega)
        go_wp2
        go_ret2
        exact ToLB.own_ HO.out HD.out rfl (by omega) int_fit HRT.out HBr.out
  · have HD := Lib.hid (show mvO xs qs = [] by unfold mvO; rw [hr]; rfl)
    rw [hr]
    go_wp2
    go_ret2
    exact ToLB.own_ (ys := []) HO1.out HD.out rfl (by simp) (by simp) HRT.out HB.out
end Go.Proofs.Ytifahgdalgjgfaa
