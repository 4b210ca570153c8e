/- ParseTally, in the reference. Conditions: what Cx names, the ranges named. -/
import Derived.Test.YtajfbiihlfccnaaDoorPt5
namespace Go.Proofs.YtajfbiihlfccnaaDoor
open Go.RowKit
set_option linter.unusedVariables false
set_option linter.unusedSimpArgs false
theorem ps_none {l : List UInt8} (h : 50 < l.length ∨ ((spl 32 l).length ≠ 4 ∧ (spl 32 l).length ≠ 6)) : ptS l = none := by unfold ptS; rw [if_pos h]
theorem ps_four {s : ByteArray} {x0 x2 : ByteArray} (hs : ¬ 50 < s.data.toList.length) (hn : (pcs 32 s).length = 4) (h0 : (pcs 32 s).getD 0 ByteArray.empty = x0) (h2 : (pcs 32 s).getD 2 ByteArray.empty = x2) : ptS s.data.toList = finT s.data.toList (lrV x0.data.toList) (lrV x2.data.toList) (some 0) := by
  have hl : (spl 32 s.data.toList).length = 4 := by unfold pcs at hn; rwa [List.length_map] at hn
  unfold ptS
  rw [if_neg (by omega), if_neg (by omega), ← h0, ← h2]
  unfold pcs
  rw [getD_bar, getD_bar, bar_list, bar_list]
theorem ps_six {s : ByteArray} {x0 x2 x4 : ByteArray} (hs : ¬ 50 < s.data.toList.length) (hn : (pcs 32 s).length = 6) (h0 : (pcs 32 s).getD 0 ByteArray.empty = x0) (h2 : (pcs 32 s).getD 2 ByteArray.empty = x2) (h4 : (pcs 32 s).getD 4 ByteArray.empty = x4) : ptS s.data.toList = finT s.data.toList (lrV x0.data.toList) (lrV x2.data.toList) (lrV x4.data.toList) := by
  have hl : (spl 32 s.data.toList).length = 6 := by unfold pcs at hn; rwa [List.length_map] at hn
  unfold ptS
  rw [if_neg (by omega), if_pos hl, ← h0, ← h2, ← h4]
  unfold pcs
  rw [getD_bar, getD_bar, getD_bar, bar_list, bar_list, bar_list]
set_option maxHeartbeats 4000000 in
theorem sParseTally_any (s : ByteArray) (w : World) (hs : s.size ≤ 1048576) (h : Cx w) : Calls Tryd.prog 7 #[.string s] w fun e w' => e = .returned (resT (ptS s.data.toList)) ∧ Below w.heap.size w w' := by
  have hsl : s.data.toList.length = s.size := Array.length_toList
  have HC := Lib.hid (h.below (below1 w (.cells #[.int .i64 0, .int .i64 0, .int .i64 0] 23)))
  have HB := Lib.hid (below1 w (.cells #[.int .i64 0, .int .i64 0, .int .i64 0] 23))
  have NX := Lib.hid (show BoxF (w.alloc (.cells #[.int .i64 0, .int .i64 0, .int .i64 0] 23)) w.heap.size [.int .i64 0, .int .i64 0, .int .i64 0] from BoxF.new' w _ _ _ rfl)
  have hz : w.heap.size < (w.alloc (.cells #[.int .i64 0, .int .i64 0, .int .i64 0] 23)).heap.size := by simp
  have hP := Lib.hid (show (pcs 32 s).length = (spl 32 s.data.toList).length by unfold pcs; rw [List.length_map])
  have hL : Hid (1 ≤ (pcs 32 s).length) := Lib.hid (by
    rw [hP.out]
    have := spl_ne (c := 32) (l := s.data.toList) (cur := [])
    rcases Nat.eq_zero_or_pos (spl 32 s.data.toList).length with h0 | h0
    · exact absurd (List.eq_nil_of_length_eq_zero h0) this
    · exact h0)
  have HZ := Lib.hid (fun x (hx : x ∈ pcs 32 s) => Nat.le_trans (pcs_len hx) (show s.size ≤ maxLen by unfold maxLen; omega))
  clear h
  go_enter Tryd.func7, Tryd.ntmps7
  go_wp2_with fail
  generalize (w.alloc (.cells #[.int .i64 0, .int .i64 0, .int .i64 0] 23)) = W at *
  refine (l1Split_any s 32 _ hs).mono ?_
  rintro e v0 ⟨O, oc, rfl, own, hb⟩
  obtain ⟨g, hO, S⟩ := St.start (HC.out.below hb) (after HB.out hb) (NX.out.below hb hz) (Nat.lt_of_lt_of_le hz hb.size) own hL.out HZ.out
  have S := Lib.hid S
  subst hO
  obtain ⟨n, hn⟩ : ∃ n, Hid ((pcs 32 s).length = n) := ⟨_, Lib.hid rfl⟩
  have k2 : (pcs 32 s).length = n := hn.out
  rw [hn.out]
  clear own hb
  by_cases h50 : 50 < s.size
  · have c1 : (50 : Int) < (s.size : Int) := by omega
    have HR := Lib.hid (ps_none (l := s.data.toList) (Or.inl (by omega)))
    have r0 := S.out.nx.1 0 _ rfl
    have r1 := S.out.nx.1 1 _ rfl
    have r2 := S.out.nx.1 2 _ rfl
    have f0 := S.out.nx.2 0
    have f1 := S.out.nx.2 1
    have f2 := S.out.nx.2 2
    go_wp2
    have BX := Lib.hid (S.out.nx.set3 (.int .i64 0) (.int .i64 0) (.int .i64 0))
    have BB : Hid (Below w.heap.size w (((v0.setCell ⟨w.heap.size, 0, none⟩ (.int .i64 0)).setCell ⟨w.heap.size, 1, none⟩ (.int .i64 0)).setCell ⟨w.heap.size, 2, none⟩ (.int .i64 0))) := Lib.hid (((S.out.b.setCell (p := ⟨w.heap.size, 0, none⟩) (Nat.le_refl _) _).setCell (p := ⟨w.heap.size, 1, none⟩) (Nat.le_refl _) _).setCell (p := ⟨w.heap.size, 2, none⟩) (Nat.le_refl _) _)
    generalize (((v0.setCell ⟨w.heap.size, 0, none⟩ (.int .i64 0)).setCell ⟨w.heap.size, 1, none⟩ (.int .i64 0)).setCell ⟨w.heap.size, 2, none⟩ (.int .i64 0)) = V at *
    have j0 := BX.out.1 0 _ rfl
    have j1 := BX.out.1 1 _ rfl
    have j2 := BX.out.1 2 _ rfl
    refine bodyPost_ret (by simp [results, Tryd.results7, go_sem, j0, j1, j2]; try rfl) rfl ?_
    exact ⟨by rw [HR.out]; first | rfl | (simp [resT]; done), BB.out⟩
  · have c1 : ¬ (50 : Int) < (s.size : Int) := by omega
    by_cases h4 : n = 4
    · subst h4
      obtain ⟨x0, e0⟩ : ∃ x, Hid ((pcs 32 s).getD 0 ByteArray.empty = x) := ⟨_, Lib.hid rfl⟩
      obtain ⟨x2, e2⟩ : ∃ x, Hid ((pcs 32 s).getD 2 ByteArray.empty = x) := ⟨_, Lib.hid rfl⟩
      have z0 := Lib.hid (S.out.sz 0)
      have z2 := Lib.hid (S.out.sz 2)
      rw [e0.out] at z0
      rw [e2.out] at z2
      have p0 := S.out.cel 0 (by omega)
      rw [e0.out] at p0
      go_upto_region 7 with (first
        | (go_at_call 41; clear p0; refine (l1Read_any x0 _ z0.out).mono ?_; rintro e v2 ⟨rfl, m, hm⟩; rw [optI_eq]; have hb : Below v0.heap.size v0 v2 := (by rw [hm]; exact below_drewN (Below.refl _ _) m); have S2 := Lib.hid (S.out.below hb); have p2 := S2.out.cel 2 (by omega); rw [e2.out] at p2; clear hb hm)
        | (go_at_call 41; clear p2; refine (l1Read_any x2 _ z2.out).mono ?_; rintro e v3 ⟨rfl, m, hm⟩; rw [optI_eq]; have hb : Below v2.heap.size v2 v3 := (by rw [hm]; exact below_drewN (Below.refl _ _) m); have S3 := Lib.hid (S2.out.below hb); clear hb hm))
      obtain ⟨oy, hoy⟩ : ∃ o, Hid (lrV x0.data.toList = o) := ⟨_, Lib.hid rfl⟩
      obtain ⟨on, hon⟩ : ∃ o, Hid (lrV x2.data.toList = o) := ⟨_, Lib.hid rfl⟩
      rw [hoy.out, hon.out]
      obtain ⟨y, hy⟩ : ∃ y, Hid (nI oy = y) := ⟨_, Lib.hid rfl⟩
      obtain ⟨n1, hn1⟩ : ∃ y, Hid (nI on = y) := ⟨_, Lib.hid rfl⟩
      obtain ⟨b0, hb0⟩ : ∃ b, Hid (bI oy = b) := ⟨_, Lib.hid rfl⟩
      obtain ⟨b1, hb1⟩ : ∃ b, Hid (bI on = b) := ⟨_, Lib.hid rfl⟩
      rw [hy.out, hn1.out, hb0.out, hb1.out]
      go_upto_region 13 with fail
      obtain ⟨a, ha0⟩ : ∃ a : Int, a = 0 := ⟨0, rfl⟩
      have ha : Hid (nI (some 0) = a) := Lib.hid (by rw [ha0]; rfl)
      have hb2 : Hid (bI (some 0) = true) := Lib.hid rfl
      have HF : Hid (ptS s.data.toList = finT s.data.toList oy on (some 0)) := Lib.hid (by rw [← hoy.out, ← hon.out]; exact ps_four (by omega) hn.out e0.out e2.out)
      have S5 := Lib.hid (S3.out.below (below1 v3 (.cells #[.int .i64 y, .int .i64 n1, .int .i64 0] 23)))
      have T5 : Hid (BoxF (v3.alloc (.cells #[.int .i64 y, .int .i64 n1, .int .i64 0] 23)) v3.heap.size [.int .i64 y, .int .i64 n1, .int .i64 a]) := Lib.hid (by rw [ha0]; exact BoxF.new' v3 _ _ _ rfl)
      have lt5 : v3.heap.size < (v3.alloc (.cells #[.int .i64 y, .int .i64 n1, .int .i64 0] 23)).heap.size := by simp
      generalize (v3.alloc (.cells #[.int .i64 y, .int .i64 n1, .int .i64 0] 23)) = v5 at *
      obtain ⟨t, ht⟩ : ∃ t, v3.heap.size = t := ⟨_, rfl⟩
      rw [ht] at T5 lt5 ⊢
      clear ht ha0
      have r0 := S5.out.nx.1 0 _ rfl
      have r1 := S5.out.nx.1 1 _ rfl
      have r2 := S5.out.nx.1 2 _ rfl
      have f0 := S5.out.nx.2 0
      have f1 := S5.out.nx.2 1
      have f2 := S5.out.nx.2 2
      have t0 := T5.out.1 0 _ rfl
      have t1 := T5.out.1 1 _ rfl
      have t2 := T5.out.1 2 _ rfl
      cases b0 with
      | false =>
        have HR := Lib.hid (HF.out.trans (fin_b (Or.inl hb0.out)))
        go_wp2
        have BX := Lib.hid (S5.out.nx.set3 (.int .i64 0) (.int .i64 0) (.int .i64 0))
        have BB : Hid (Below w.heap.size w (((v5.setCell ⟨w.heap.size, 0, none⟩ (.int .i64 0)).setCell ⟨w.heap.size, 1, none⟩ (.int .i64 0)).setCell ⟨w.heap.size, 2, none⟩ (.int .i64 0))) := Lib.hid (((S5.out.b.setCell (p := ⟨w.heap.size, 0, none⟩) (Nat.le_refl _) _).setCell (p := ⟨w.heap.size, 1, none⟩) (Nat.le_refl _) _).setCell (p := ⟨w.heap.size, 2, none⟩) (Nat.le_refl _) _)
        generalize (((v5.setCell ⟨w.heap.size, 0, none⟩ (.int .i64 0)).setCell ⟨w.heap.size, 1, none⟩ (.int .i64 0)).setCell ⟨w.heap.size, 2, none⟩ (.int .i64 0)) = V at *
        have j0 := BX.out.1 0 _ rfl
        have j1 := BX.out.1 1 _ rfl
        have j2 := BX.out.1 2 _ rfl
        refine bodyPost_ret (by simp [results, Tryd.results7, go_sem, j0, j1, j2]; try rfl) rfl ?_
        exact ⟨by rw [HR.out]; first | rfl | (simp [resT]; done), BB.out⟩
      | true =>
        cases b1 with
        | false =>
          have HR := Lib.hid (HF.out.trans (fin_b (Or.inr (Or.inl hb1.out))))
          go_wp2
          have BX := Lib.hid (S5.out.nx.set3 (.int .i64 0) (.int .i64 0) (.int .i64 0))
          have BB : Hid (Below w.heap.size w (((v5.setCell ⟨w.heap.size, 0, none⟩ (.int .i64 0)).setCell ⟨w.heap.size, 1, none⟩ (.int .i64 0)).setCell ⟨w.heap.size, 2, none⟩ (.int .i64 0))) := Lib.hid (((S5.out.b.setCell (p := ⟨w.heap.size, 0, none⟩) (Nat.le_refl _) _).setCell (p := ⟨w.heap.size, 1, none⟩) (Nat.le_refl _) _).setCell (p := ⟨w.heap.size, 2, none⟩) (Nat.le_refl _) _)
          generalize (((v5.setCell ⟨w.heap.size, 0, none⟩ (.int .i64 0)).setCell ⟨w.heap.size, 1, none⟩ (.int .i64 0)).setCell ⟨w.heap.size, 2, none⟩ (.int .i64 0)) = V at *
          have j0 := BX.out.1 0 _ rfl
          have j1 := BX.out.1 1 _ rfl
          have j2 := BX.out.1 2 _ rfl
          refine bodyPost_ret (by simp [results, Tryd.results7, go_sem, j0, j1, j2]; try rfl) rfl ?_
          exact ⟨by rw [HR.out]; first | rfl | (simp [resT]; done), BB.out⟩
        | true =>
            have HT := Lib.hid (HF.out.trans (fin_t hb0.out hb1.out hb2.out hy.out hn1.out ha.out))
            rcases Bool.eq_false_or_eq_true (vldT y n1 a) with hv | hv
            · obtain ⟨h1, h2, h3, h4, h5, h6⟩ := vldT_iff.1 hv
              obtain ⟨yn, hyn⟩ : ∃ k : Nat, y = (k : Int) := ⟨y.toNat, by omega⟩
              obtain ⟨nn, hnn⟩ : ∃ k : Nat, n1 = (k : Int) := ⟨n1.toNat, by omega⟩
              obtain ⟨an, han⟩ : ∃ k : Nat, a = (k : Int) := ⟨a.toNat, by omega⟩
              subst hyn hnn han
              by_cases hx : ttS yn nn an = s
              · have HR : Hid (ptS s.data.toList = some ((yn : Int), (nn : Int), (an : Int))) := Lib.hid (HT.out.trans (if_pos ⟨hv, by rw [← bar_eq, ← hx, tt_tx]; rfl⟩))
                have HX := Lib.hid hx
                clear hx
                go_wp2_with (first
                  | (go_at_call 42; refine (l11Good_any (yn : Int) (nn : Int) (an : Int) _).mono ?_; rintro e v6 ⟨rfl, hb⟩; rw [hv]; have S6 := Lib.hid (S5.out.below hb); have u0 := keep_cell hb t0; have u1 := keep_cell hb t1; have u2 := keep_cell hb t2; clear hb)
                  | (go_at_call 43; have y9 := u0; clear y9; refine (l11Text_any yn nn an (by omega) (by omega) (by omega) _ S6.out.c.tab).mono ?_; rintro e v7 ⟨rfl, hb⟩; rw [HX.out]; have S7 := Lib.hid (S6.out.below hb); have y0 := keep_cell hb u0; have y1 := keep_cell hb u1; have y2 := keep_cell hb u2; clear u0 u1 u2; have s0 := S7.out.nx.1 0 _ rfl; have s1 := S7.out.nx.1 1 _ rfl; have s2 := S7.out.nx.1 2 _ rfl; have g0 := S7.out.nx.2 0; have g1 := S7.out.nx.2 1; have g2 := S7.out.nx.2 2; clear hb))
                have BX := Lib.hid (S7.out.nx.set3 (.int .i64 yn) (.int .i64 nn) (.int .i64 an))
                have BB : Hid (Below w.heap.size w (((v7.setCell ⟨w.heap.size, 0, none⟩ (.int .i64 yn)).setCell ⟨w.heap.size, 1, none⟩ (.int .i64 nn)).setCell ⟨w.heap.size, 2, none⟩ (.int .i64 an))) := Lib.hid (((S7.out.b.setCell (p := ⟨w.heap.size, 0, none⟩) (Nat.le_refl _) _).setCell (p := ⟨w.heap.size, 1, none⟩) (Nat.le_refl _) _).setCell (p := ⟨w.heap.size, 2, none⟩) (Nat.le_refl _) _)
                generalize (((v7.setCell ⟨w.heap.size, 0, none⟩ (.int .i64 yn)).setCell ⟨w.heap.size, 1, none⟩ (.int .i64 nn)).setCell ⟨w.heap.size, 2, none⟩ (.int .i64 an)) = V at *
                have j0 := BX.out.1 0 _ rfl
                have j1 := BX.out.1 1 _ rfl
                have j2 := BX.out.1 2 _ rfl
                refine bodyPost_ret (by simp [results, Tryd.results7, go_sem, j0, j1, j2]; try rfl) rfl ?_
                exact ⟨by rw [HR.out]; first | rfl | (simp [resT]; done), BB.out⟩
              · have hxs := same_no hx
                have HR : Hid (ptS s.data.toList = none) := Lib.hid (HT.out.trans (if_neg (fun h => hx (by rw [tt_tx]; exact bar_eq.2 h.2))))
                obtain ⟨x, ex⟩ : ∃ x, Hid (ttS yn nn an = x) := ⟨_, Lib.hid rfl⟩
                rw [ex.out] at hxs
                clear hx
                go_wp2_with (first
                  | (go_at_call 42; refine (l11Good_any (yn : Int) (nn : Int) (an : Int) _).mono ?_; rintro e v6 ⟨rfl, hb⟩; rw [hv]; have S6 := Lib.hid (S5.out.below hb); have u0 := keep_cell hb t0; have u1 := keep_cell hb t1; have u2 := keep_cell hb t2; clear hb)
                  | (go_at_call 43; have y9 := u0; clear y9; refine (l11Text_any yn nn an (by omega) (by omega) (by omega) _ S6.out.c.tab).mono ?_; rintro e v7 ⟨rfl, hb⟩; rw [ex.out]; have S7 := Lib.hid (S6.out.below hb); have y0 := keep_cell hb u0; have y1 := keep_cell hb u1; have y2 := keep_cell hb u2; clear u0 u1 u2; have s0 := S7.out.nx.1 0 _ rfl; have s1 := S7.out.nx.1 1 _ rfl; have s2 := S7.out.nx.1 2 _ rfl; have g0 := S7.out.nx.2 0; have g1 := S7.out.nx.2 1; have g2 := S7.out.nx.2 2; clear hb))
                have BX := Lib.hid (S7.out.nx.set3 (.int .i64 0) (.int .i64 0) (.int .i64 0))
                have BB : Hid (Below w.heap.size w (((v7.setCell ⟨w.heap.size, 0, none⟩ (.int .i64 0)).setCell ⟨w.heap.size, 1, none⟩ (.int .i64 0)).setCell ⟨w.heap.size, 2, none⟩ (.int .i64 0))) := Lib.hid (((S7.out.b.setCell (p := ⟨w.heap.size, 0, none⟩) (Nat.le_refl _) _).setCell (p := ⟨w.heap.size, 1, none⟩) (Nat.le_refl _) _).setCell (p := ⟨w.heap.size, 2, none⟩) (Nat.le_refl _) _)
                generalize (((v7.setCell ⟨w.heap.size, 0, none⟩ (.int .i64 0)).setCell ⟨w.heap.size, 1, none⟩ (.int .i64 0)).setCell ⟨w.heap.size, 2, none⟩ (.int .i64 0)) = V at *
                have j0 := BX.out.1 0 _ rfl
                have j1 := BX.out.1 1 _ rfl
                have j2 := BX.out.1 2 _ rfl
                refine bodyPost_ret (by simp [results, Tryd.results7, go_sem, j0, j1, j2]; try rfl) rfl ?_
                exact ⟨by rw [HR.out]; first | rfl | (simp [resT]; done), BB.out⟩
            · have HR := Lib.hid (HT.out.trans (if_neg (fun h => by rw [hv] at h; cases h.1)))
              go_wp2_with (go_at_call 42; refine (l11Good_any y n1 a _).mono ?_; rintro e v6 ⟨rfl, hb⟩; rw [hv]; have S6 := Lib.hid (S5.out.below hb); have s0 := S6.out.nx.1 0 _ rfl; have s1 := S6.out.nx.1 1 _ rfl; have s2 := S6.out.nx.1 2 _ rfl; have g0 := S6.out.nx.2 0; have g1 := S6.out.nx.2 1; have g2 := S6.out.nx.2 2; clear hb)
              have BX := Lib.hid (S6.out.nx.set3 (.int .i64 0) (.int .i64 0) (.int .i64 0))
              have BB : Hid (Below w.heap.size w (((v6.setCell ⟨w.heap.size, 0, none⟩ (.int .i64 0)).setCell ⟨w.heap.size, 1, none⟩ (.int .i64 0)).setCell ⟨w.heap.size, 2, none⟩ (.int .i64 0))) := Lib.hid (((S6.out.b.setCell (p := ⟨w.heap.size, 0, none⟩) (Nat.le_refl _) _).setCell (p := ⟨w.heap.size, 1, none⟩) (Nat.le_refl _) _).setCell (p := ⟨w.heap.size, 2, none⟩) (Nat.le_refl _) _)
              generalize (((v6.setCell ⟨w.heap.size, 0, none⟩ (.int .i64 0)).setCell ⟨w.heap.size, 1, none⟩ (.int .i64 0)).setCell ⟨w.heap.size, 2, none⟩ (.int .i64 0)) = V at *
              have j0 := BX.out.1 0 _ rfl
              have j1 := BX.out.1 1 _ rfl
              have j2 := BX.out.1 2 _ rfl
              refine bodyPost_ret (by simp [results, Tryd.results7, go_sem, j0, j1, j2]; try rfl) rfl ?_
              exact ⟨by rw [HR.out]; first | rfl | (simp [resT]; done), BB.out⟩
    · by_cases h6 : n = 6
      · subst h6
        obtain ⟨x0, e0⟩ : ∃ x, Hid ((pcs 32 s).getD 0 ByteArray.empty = x) := ⟨_, Lib.hid rfl⟩
        obtain ⟨x2, e2⟩ : ∃ x, Hid ((pcs 32 s).getD 2 ByteArray.empty = x) := ⟨_, Lib.hid rfl⟩
        have z0 := Lib.hid (S.out.sz 0)
        have z2 := Lib.hid (S.out.sz 2)
        rw [e0.out] at z0
        rw [e2.out] at z2
        have p0 := S.out.cel 0 (by omega)
        rw [e0.out] at p0
        go_upto_region 7 with (first
          | (go_at_call 41; clear p0; refine (l1Read_any x0 _ z0.out).mono ?_; rintro e v2 ⟨rfl, m, hm⟩; rw [optI_eq]; have hb : Below v0.heap.size v0 v2 := (by rw [hm]; exact below_drewN (Below.refl _ _) m); have S2 := Lib.hid (S.out.below hb); have p2 := S2.out.cel 2 (by omega); rw [e2.out] at p2; clear hb hm)
          | (go_at_call 41; clear p2; refine (l1Read_any x2 _ z2.out).mono ?_; rintro e v3 ⟨rfl, m, hm⟩; rw [optI_eq]; have hb : Below v2.heap.size v2 v3 := (by rw [hm]; exact below_drewN (Below.refl _ _) m); have S3 := Lib.hid (S2.out.below hb); clear hb hm))
        obtain ⟨oy, hoy⟩ : ∃ o, Hid (lrV x0.data.toList = o) := ⟨_, Lib.hid rfl⟩
        obtain ⟨on, hon⟩ : ∃ o, Hid (lrV x2.data.toList = o) := ⟨_, Lib.hid rfl⟩
        rw [hoy.out, hon.out]
        obtain ⟨y, hy⟩ : ∃ y, Hid (nI oy = y) := ⟨_, Lib.hid rfl⟩
        obtain ⟨n1, hn1⟩ : ∃ y, Hid (nI on = y) := ⟨_, Lib.hid rfl⟩
        obtain ⟨b0, hb0⟩ : ∃ b, Hid (bI oy = b) := ⟨_, Lib.hid rfl⟩
        obtain ⟨b1, hb1⟩ : ∃ b, Hid (bI on = b) := ⟨_, Lib.hid rfl⟩
        rw [hy.out, hn1.out, hb0.out, hb1.out]
        obtain ⟨x4, e4⟩ : ∃ x, Hid ((pcs 32 s).getD 4 ByteArray.empty = x) := ⟨_, Lib.hid rfl⟩
        have z4 := Lib.hid (S.out.sz 4)
        rw [e4.out] at z4
        go_upto_region 10 with fail
        have S4 := Lib.hid (S3.out.below (below1 v3 (.cells #[.int .i64 y, .int .i64 n1, .int .i64 0] 23)))
        have B4 := Lib.hid (below1 v3 (.cells #[.int .i64 y, .int .i64 n1, .int .i64 0] 23))
        have T4 : Hid (BoxF (v3.alloc (.cells #[.int .i64 y, .int .i64 n1, .int .i64 0] 23)) v3.heap.size [.int .i64 y, .int .i64 n1, .int .i64 0]) := Lib.hid (BoxF.new' v3 _ _ _ rfl)
        have lt4 : v3.heap.size < (v3.alloc (.cells #[.int .i64 y, .int .i64 n1, .int .i64 0] 23)).heap.size := by simp
        generalize (v3.alloc (.cells #[.int .i64 y, .int .i64 n1, .int .i64 0] 23)) = v4 at *
        obtain ⟨t, ht⟩ : ∃ t, Hid (v3.heap.size = t) := ⟨_, Lib.hid rfl⟩
        rw [ht.out] at T4 lt4 ⊢
        have p4 := S4.out.cel 4 (by omega)
        rw [e4.out] at p4
        go_upto_region 13 with (go_at_call 41; clear p4; refine (l1Read_any x4 _ z4.out).mono ?_; rintro e u5 ⟨rfl, m, hm⟩; rw [optI_eq]; have hb : Below v4.heap.size v4 u5 := (by rw [hm]; exact below_drewN (Below.refl _ _) m); have T6 := Lib.hid (T4.out.below hb lt4); have B6 := Lib.hid (B4.out.trans (hb.mono B4.out.size)); have lt6 := Nat.lt_of_lt_of_le lt4 hb.size; have k0 := T6.out.1 0 _ rfl; have k1' := T6.out.1 1 _ rfl; have k2' := T6.out.1 2 _ rfl; have l0 := T6.out.2 0; have l1 := T6.out.2 1; have l2 := T6.out.2 2; clear hb hm)
        obtain ⟨oa, hoa⟩ : ∃ o, Hid (lrV x4.data.toList = o) := ⟨_, Lib.hid rfl⟩
        rw [hoa.out]
        obtain ⟨a, ha⟩ : ∃ y, Hid (nI oa = y) := ⟨_, Lib.hid rfl⟩
        obtain ⟨b2, hb2⟩ : ∃ b, Hid (bI oa = b) := ⟨_, Lib.hid rfl⟩
        rw [ha.out, hb2.out]
        have HF : Hid (ptS s.data.toList = finT s.data.toList oy on oa) := Lib.hid (by rw [← hoy.out, ← hon.out, ← hoa.out]; exact ps_six (by omega) hn.out e0.out e2.out e4.out)
        have S5 := Lib.hid (S3.out.below (B6.out.setCell (p := ⟨t, 2, none⟩) (by rw [ht.out]; exact Nat.le_refl _) (.int .i64 a)))
        have T5 : Hid (BoxF (u5.setCell ⟨t, 2, none⟩ (.int .i64 a)) t [.int .i64 y, .int .i64 n1, .int .i64 a]) := Lib.hid (T6.out.set (k := 2) (by simp) (.int .i64 a))
        have lt5 : t < (u5.setCell ⟨t, 2, none⟩ (.int .i64 a)).heap.size := by simpa using lt6
        clear k0 k1' k2' l0 l1 l2
        generalize (u5.setCell ⟨t, 2, none⟩ (.int .i64 a)) = v5 at *
        have r0 := S5.out.nx.1 0 _ rfl
        have r1 := S5.out.nx.1 1 _ rfl
        have r2 := S5.out.nx.1 2 _ rfl
        have f0 := S5.out.nx.2 0
        have f1 := S5.out.nx.2 1
        have f2 := S5.out.nx.2 2
        have t0 := T5.out.1 0 _ rfl
        have t1 := T5.out.1 1 _ rfl
        have t2 := T5.out.1 2 _ rfl
        cases b0 with
        | false =>
          have HR := Lib.hid (HF.out.trans (fin_b (Or.inl hb0.out)))
          go_wp2
          have BX := Lib.hid (S5.out.nx.set3 (.int .i64 0) (.int .i64 0) (.int .i64 0))
          have BB : Hid (Below w.heap.size w (((v5.setCell ⟨w.heap.size, 0, none⟩ (.int .i64 0)).setCell ⟨w.heap.size, 1, none⟩ (.int .i64 0)).setCell ⟨w.heap.size, 2, none⟩ (.int .i64 0))) := Lib.hid (((S5.out.b.setCell (p := ⟨w.heap.size, 0, none⟩) (Nat.le_refl _) _).setCell (p := ⟨w.heap.size, 1, none⟩) (Nat.le_refl _) _).setCell (p := ⟨w.heap.size, 2, none⟩) (Nat.le_refl _) _)
          generalize (((v5.setCell ⟨w.heap.size, 0, none⟩ (.int .i64 0)).setCell ⟨w.heap.size, 1, none⟩ (.int .i64 0)).setCell ⟨w.heap.size, 2, none⟩ (.int .i64 0)) = V at *
          have j0 := BX.out.1 0 _ rfl
          have j1 := BX.out.1 1 _ rfl
          have j2 := BX.out.1 2 _ rfl
          refine bodyPost_ret (by simp [results, Tryd.results7, go_sem, j0, j1, j2]; try rfl) rfl ?_
          exact ⟨by rw [HR.out]; first | rfl | (simp [resT]; done), BB.out⟩
        | true =>
          cases b1 with
          | false =>
            have HR := Lib.hid (HF.out.trans (fin_b (Or.inr (Or.inl hb1.out))))
            go_wp2
            have BX := Lib.hid (S5.out.nx.set3 (.int .i64 0) (.int .i64 0) (.int .i64 0))
            have BB : Hid (Below w.heap.size w (((v5.setCell ⟨w.heap.size, 0, none⟩ (.int .i64 0)).setCell ⟨w.heap.size, 1, none⟩ (.int .i64 0)).setCell ⟨w.heap.size, 2, none⟩ (.int .i64 0))) := Lib.hid (((S5.out.b.setCell (p := ⟨w.heap.size, 0, none⟩) (Nat.le_refl _) _).setCell (p := ⟨w.heap.size, 1, none⟩) (Nat.le_refl _) _).setCell (p := ⟨w.heap.size, 2, none⟩) (Nat.le_refl _) _)
            generalize (((v5.setCell ⟨w.heap.size, 0, none⟩ (.int .i64 0)).setCell ⟨w.heap.size, 1, none⟩ (.int .i64 0)).setCell ⟨w.heap.size, 2, none⟩ (.int .i64 0)) = V at *
            have j0 := BX.out.1 0 _ rfl
            have j1 := BX.out.1 1 _ rfl
            have j2 := BX.out.1 2 _ rfl
            refine bodyPost_ret (by simp [results, Tryd.results7, go_sem, j0, j1, j2]; try rfl) rfl ?_
            exact ⟨by rw [HR.out]; first | rfl | (simp [resT]; done), BB.out⟩
          | true =>
            cases b2 with
            | false =>
              have HR := Lib.hid (HF.out.trans (fin_b (Or.inr (Or.inr hb2.out))))
              go_wp2
              have BX := Lib.hid (S5.out.nx.set3 (.int .i64 0) (.int .i64 0) (.int .i64 0))
              have BB : Hid (Below w.heap.size w (((v5.setCell ⟨w.heap.size, 0, none⟩ (.int .i64 0)).setCell ⟨w.heap.size, 1, none⟩ (.int .i64 0)).setCell ⟨w.heap.size, 2, none⟩ (.int .i64 0))) := Lib.hid (((S5.out.b.setCell (p := ⟨w.heap.size, 0, none⟩) (Nat.le_refl _) _).setCell (p := ⟨w.heap.size, 1, none⟩) (Nat.le_refl _) _).setCell (p := ⟨w.heap.size, 2, none⟩) (Nat.le_refl _) _)
              generalize (((v5.setCell ⟨w.heap.size, 0, none⟩ (.int .i64 0)).setCell ⟨w.heap.size, 1, none⟩ (.int .i64 0)).setCell ⟨w.heap.size, 2, none⟩ (.int .i64 0)) = V at *
              have j0 := BX.out.1 0 _ rfl
              have j1 := BX.out.1 1 _ rfl
              have j2 := BX.out.1 2 _ rfl
              refine bodyPost_ret (by simp [results, Tryd.results7, go_sem, j0, j1, j2]; try rfl) rfl ?_
              exact ⟨by rw [HR.out]; first | rfl | (simp [resT]; done), BB.out⟩
            | true =>
              have HT := Lib.hid (HF.out.trans (fin_t hb0.out hb1.out hb2.out hy.out hn1.out ha.out))
              rcases Bool.eq_false_or_eq_true (vldT y n1 a) with hv | hv
              · obtain ⟨h1, h2, h3, h4, h5, h6⟩ := vldT_iff.1 hv
                obtain ⟨yn, hyn⟩ : ∃ k : Nat, y = (k : Int) := ⟨y.toNat, by omega⟩
                obtain ⟨nn, hnn⟩ : ∃ k : Nat, n1 = (k : Int) := ⟨n1.toNat, by omega⟩
                obtain ⟨an, han⟩ : ∃ k : Nat, a = (k : Int) := ⟨a.toNat, by omega⟩
                subst hyn hnn han
                by_cases hx : ttS yn nn an = s
                · have HR : Hid (ptS s.data.toList = some ((yn : Int), (nn : Int), (an : Int))) := Lib.hid (HT.out.trans (if_pos ⟨hv, by rw [← bar_eq, ← hx, tt_tx]; rfl⟩))
                  have HX := Lib.hid hx
                  clear hx
                  go_wp2_with (first
                    | (go_at_call 42; refine (l11Good_any (yn : Int) (nn : Int) (an : Int) _).mono ?_; rintro e v6 ⟨rfl, hb⟩; rw [hv]; have S6 := Lib.hid (S5.out.below hb); have u0 := keep_cell hb t0; have u1 := keep_cell hb t1; have u2 := keep_cell hb t2; clear hb)
                    | (go_at_call 43; have y9 := u0; clear y9; refine (l11Text_any yn nn an (by omega) (by omega) (by omega) _ S6.out.c.tab).mono ?_; rintro e v7 ⟨rfl, hb⟩; rw [HX.out]; have S7 := Lib.hid (S6.out.below hb); have y0 := keep_cell hb u0; have y1 := keep_cell hb u1; have y2 := keep_cell hb u2; clear u0 u1 u2; have s0 := S7.out.nx.1 0 _ rfl; have s1 := S7.out.nx.1 1 _ rfl; have s2 := S7.out.nx.1 2 _ rfl; have g0 := S7.out.nx.2 0; have g1 := S7.out.nx.2 1; have g2 := S7.out.nx.2 2; clear hb))
                  have BX := Lib.hid (S7.out.nx.set3 (.int .i64 yn) (.int .i64 nn) (.int .i64 an))
                  have BB : Hid (Below w.heap.size w (((v7.setCell ⟨w.heap.size, 0, none⟩ (.int .i64 yn)).setCell ⟨w.heap.size, 1, none⟩ (.int .i64 nn)).setCell ⟨w.heap.size, 2, none⟩ (.int .i64 an))) := Lib.hid (((S7.out.b.setCell (p := ⟨w.heap.size, 0, none⟩) (Nat.le_refl _) _).setCell (p := ⟨w.heap.size, 1, none⟩) (Nat.le_refl _) _).setCell (p := ⟨w.heap.size, 2, none⟩) (Nat.le_refl _) _)
                  generalize (((v7.setCell ⟨w.heap.size, 0, none⟩ (.int .i64 yn)).setCell ⟨w.heap.size, 1, none⟩ (.int .i64 nn)).setCell ⟨w.heap.size, 2, none⟩ (.int .i64 an)) = V at *
                  have j0 := BX.out.1 0 _ rfl
                  have j1 := BX.out.1 1 _ rfl
                  have j2 := BX.out.1 2 _ rfl
                  refine bodyPost_ret (by simp [results, Tryd.results7, go_sem, j0, j1, j2]; try rfl) rfl ?_
                  exact ⟨by rw [HR.out]; first | rfl | (simp [resT]; done), BB.out⟩
                · have hxs := same_no hx
                  have HR : Hid (ptS s.data.toList = none) := Lib.hid (HT.out.trans (if_neg (fun h => hx (by rw [tt_tx]; exact bar_eq.2 h.2))))
                  obtain ⟨x, ex⟩ : ∃ x, Hid (ttS yn nn an = x) := ⟨_, Lib.hid rfl⟩
                  rw [ex.out] at hxs
                  clear hx
                  go_wp2_with (first
                    | (go_at_call 42; refine (l11Good_any (yn : Int) (nn : Int) (an : Int) _).mono ?_; rintro e v6 ⟨rfl, hb⟩; rw [hv]; have S6 := Lib.hid (S5.out.below hb); have u0 := keep_cell hb t0; have u1 := keep_cell hb t1; have u2 := keep_cell hb t2; clear hb)
                    | (go_at_call 43; have y9 := u0; clear y9; refine (l11Text_any yn nn an (by omega) (by omega) (by omega) _ S6.out.c.tab).mono ?_; rintro e v7 ⟨rfl, hb⟩; rw [ex.out]; have S7 := Lib.hid (S6.out.below hb); have y0 := keep_cell hb u0; have y1 := keep_cell hb u1; have y2 := keep_cell hb u2; clear u0 u1 u2; have s0 := S7.out.nx.1 0 _ rfl; have s1 := S7.out.nx.1 1 _ rfl; have s2 := S7.out.nx.1 2 _ rfl; have g0 := S7.out.nx.2 0; have g1 := S7.out.nx.2 1; have g2 := S7.out.nx.2 2; clear hb))
                  have BX := Lib.hid (S7.out.nx.set3 (.int .i64 0) (.int .i64 0) (.int .i64 0))
                  have BB : Hid (Below w.heap.size w (((v7.setCell ⟨w.heap.size, 0, none⟩ (.int .i64 0)).setCell ⟨w.heap.size, 1, none⟩ (.int .i64 0)).setCell ⟨w.heap.size, 2, none⟩ (.int .i64 0))) := Lib.hid (((S7.out.b.setCell (p := ⟨w.heap.size, 0, none⟩) (Nat.le_refl _) _).setCell (p := ⟨w.heap.size, 1, none⟩) (Nat.le_refl _) _).setCell (p := ⟨w.heap.size, 2, none⟩) (Nat.le_refl _) _)
                  generalize (((v7.setCell ⟨w.heap.size, 0, none⟩ (.int .i64 0)).setCell ⟨w.heap.size, 1, none⟩ (.int .i64 0)).setCell ⟨w.heap.size, 2, none⟩ (.int .i64 0)) = V at *
                  have j0 := BX.out.1 0 _ rfl
                  have j1 := BX.out.1 1 _ rfl
                  have j2 := BX.out.1 2 _ rfl
                  refine bodyPost_ret (by simp [results, Tryd.results7, go_sem, j0, j1, j2]; try rfl) rfl ?_
                  exact ⟨by rw [HR.out]; first | rfl | (simp [resT]; done), BB.out⟩
              · have HR := Lib.hid (HT.out.trans (if_neg (fun h => by rw [hv] at h; cases h.1)))
                go_wp2_with (go_at_call 42; refine (l11Good_any y n1 a _).mono ?_; rintro e v6 ⟨rfl, hb⟩; rw [hv]; have S6 := Lib.hid (S5.out.below hb); have s0 := S6.out.nx.1 0 _ rfl; have s1 := S6.out.nx.1 1 _ rfl; have s2 := S6.out.nx.1 2 _ rfl; have g0 := S6.out.nx.2 0; have g1 := S6.out.nx.2 1; have g2 := S6.out.nx.2 2; clear hb)
                have BX := Lib.hid (S6.out.nx.set3 (.int .i64 0) (.int .i64 0) (.int .i64 0))
                have BB : Hid (Below w.heap.size w (((v6.setCell ⟨w.heap.size, 0, none⟩ (.int .i64 0)).setCell ⟨w.heap.size, 1, none⟩ (.int .i64 0)).setCell ⟨w.heap.size, 2, none⟩ (.int .i64 0))) := Lib.hid (((S6.out.b.setCell (p := ⟨w.heap.size, 0, none⟩) (Nat.le_refl _) _).setCell (p := ⟨w.heap.size, 1, none⟩) (Nat.le_refl _) _).setCell (p := ⟨w.heap.size, 2, none⟩) (Nat.le_refl _) _)
                generalize (((v6.setCell ⟨w.heap.size, 0, none⟩ (.int .i64 0)).setCell ⟨w.heap.size, 1, none⟩ (.int .i64 0)).setCell ⟨w.heap.size, 2, none⟩ (.int .i64 0)) = V at *
                have j0 := BX.out.1 0 _ rfl
                have j1 := BX.out.1 1 _ rfl
                have j2 := BX.out.1 2 _ rfl
                refine bodyPost_ret (by simp [results, Tryd.results7, go_sem, j0, j1, j2]; try rfl) rfl ?_
                exact ⟨by rw [HR.out]; first | rfl | (simp [resT]; done), BB.out⟩
      · have c4 : ¬ (n : Int) = 4 := by omega
        have c6 : ¬ (n : Int) = 6 := by omega
        have c7 : ((n : Int) != 4) = true := by simp [c4]
        have c8 : ((n : Int) != 6) = true := by simp [c6]
        have HR := Lib.hid (ps_none (l := s.data.toList) (Or.inr (by rw [← hP.out]; omega)))
        have r0 := S.out.nx.1 0 _ rfl
        have r1 := S.out.nx.1 1 _ rfl
        have r2 := S.out.nx.1 2 _ rfl
        have f0 := S.out.nx.2 0
        have f1 := S.out.nx.2 1
        have f2 := S.out.nx.2 2
        go_wp2
        have BX := Lib.hid (S.out.nx.set3 (.int .i64 0) (.int .i64 0) (.int .i64 0))
        have BB : Hid (Below w.heap.size w (((v0.setCell ⟨w.heap.size, 0, none⟩ (.int .i64 0)).setCell ⟨w.heap.size, 1, none⟩ (.int .i64 0)).setCell ⟨w.heap.size, 2, none⟩ (.int .i64 0))) := Lib.hid (((S.out.b.setCell (p := ⟨w.heap.size, 0, none⟩) (Nat.le_refl _) _).setCell (p := ⟨w.heap.size, 1, none⟩) (Nat.le_refl _) _).setCell (p := ⟨w.heap.size, 2, none⟩) (Nat.le_refl _) _)
        generalize (((v0.setCell ⟨w.heap.size, 0, none⟩ (.int .i64 0)).setCell ⟨w.heap.size, 1, none⟩ (.int .i64 0)).setCell ⟨w.heap.size, 2, none⟩ (.int .i64 0)) = V at *
        have j0 := BX.out.1 0 _ rfl
        have j1 := BX.out.1 1 _ rfl
        have j2 := BX.out.1 2 _ rfl
        refine bodyPost_ret (by simp [results, Tryd.results7, go_sem, j0, j1, j2]; try rfl) rfl ?_
        exact ⟨by rw [HR.out]; first | rfl | (simp [resT]; done), BB.out⟩
end Go.Proofs.YtajfbiihlfccnaaDoor
