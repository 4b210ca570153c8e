/- YieldFloor and SpeakFor of the reference. Conditions: the ranges named. -/
import Derived.Test.YtbpikbcnpmplfaaSs7
import Derived.Test.YtbpikbcnpmplfaaSs8
namespace Go.Proofs.Ytbpikbcnpmplfaa
open Go.RowKit
set_option linter.unusedVariables false
set_option linter.unusedSimpArgs false
attribute [local go_sem ↓] Go.wp_at_zero Go.wp_at_succ
open Ss3
set_option maxHeartbeats 16000000 in
set_option maxRecDepth 100000 in
theorem sYieldFloor_any (A D : Option Addr) (c d : Nat) (f : Flr) (w : World) (ha : Cells w A (IntK.row f.wt)) (hm0 : f.wt.length ≤ 1048576) (hcc : f.wt.length ≤ c) (hd : Cells w D (ShareK.row f.sh)) (hdd : f.sh.length ≤ d) (hn : f.sh.length ≤ 1048576) :
    Calls Try.prog 8 #[.agg #[.int .i64 f.t, .int .i64 f.s, .int .i64 f.sp, .slice A f.wt.length c, .slice D f.sh.length d]] w (ToFB w (yfF f) (yfB f)) := by
  have HA := Lib.hid ha
  have HD := Lib.hid hd
  clear ha hd
  have N0 := Lib.hid ((BoxF.new5 w (.int .i64 f.t) (.int .i64 f.s) (.int .i64 f.sp) (.slice A f.wt.length c) (.slice D f.sh.length d) 29 w.heap.size rfl).below (below1 (w.alloc (.cells #[.int .i64 f.t, .int .i64 f.s, .int .i64 f.sp, .slice A f.wt.length c, .slice D f.sh.length d] 29)) (.cells #[.int .i64 0, .int .i64 0, .int .i64 0, .slice none 0 0, .slice none 0 0] 29)) (by simp))
  have N2 := Lib.hid (BoxF.new5 (w.alloc (.cells #[.int .i64 f.t, .int .i64 f.s, .int .i64 f.sp, .slice A f.wt.length c, .slice D f.sh.length d] 29)) (.int .i64 0) (.int .i64 0) (.int .i64 0) (.slice none 0 0) (.slice none 0 0) 29 (w.heap.size + 1) (by simp))
  have HB := Lib.hid (below2 w (.cells #[.int .i64 f.t, .int .i64 f.s, .int .i64 f.sp, .slice A f.wt.length c, .slice D f.sh.length d] 29) (.cells #[.int .i64 0, .int .i64 0, .int .i64 0, .slice none 0 0, .slice none 0 0] 29))
  have hs : w.heap.size + 2 ≤ ((w.alloc (.cells #[.int .i64 f.t, .int .i64 f.s, .int .i64 f.sp, .slice A f.wt.length c, .slice D f.sh.length d] 29)).alloc (.cells #[.int .i64 0, .int .i64 0, .int .i64 0, .slice none 0 0, .slice none 0 0] 29)).heap.size := by simp
  go_enter Try.func8, Try.ntmps8
  go_wp2_with fail
  generalize ((w.alloc (.cells #[.int .i64 f.t, .int .i64 f.s, .int .i64 f.sp, .slice A f.wt.length c, .slice D f.sh.length d] 29)).alloc (.cells #[.int .i64 0, .int .i64 0, .int .i64 0, .slice none 0 0, .slice none 0 0] 29)) = W at *
  refine (l8Good_any A D c d f W (HA.out.below HB.out) hm0 hcc (HD.out.below HB.out) hn).mono ?_
  rintro e w1 ⟨rfl, hb⟩
  replace N0 := Lib.hid (N0.out.below hb (by omega))
  replace N2 := Lib.hid (N2.out.below hb (by omega))
  replace HB := Lib.hid (HB.out.trans (hb.mono (by omega)))
  replace hs := Nat.le_trans hs hb.size
  clear hb
  rcases Bool.eq_false_or_eq_true (vldF f) with hv | hv
  · rw [hv]
    have e02 := N0.out.1 2 _ rfl
    by_cases h0 : f.sp = 0
    · have HNO := Lib.hid (yfF_no (show yfB f = false by unfold yfB; rw [h0]; simp))
      have h00 : (f.sp == 0) = true := by simp [h0]
      have e20 := N2.out.1 0 _ rfl
      have e21 := N2.out.1 1 _ rfl
      have e22 := N2.out.1 2 _ rfl
      have e23 := N2.out.1 3 _ rfl
      have e24 := N2.out.1 4 _ rfl
      have f20 := N2.out.2 0
      have f21 := N2.out.2 1
      have f22 := N2.out.2 2
      have f23 := N2.out.2 3
      have f24 := N2.out.2 4
      go_wp2
      have KS := N2.out.set5 (.int .i64 0) (.int .i64 0) (.int .i64 0) (.slice none 0 0) (.slice none 0 0)
      have k0 := KS.1 0 _ rfl
      have k1 := KS.1 1 _ rfl
      have k2 := KS.1 2 _ rfl
      have k3 := KS.1 3 _ rfl
      have k4 := KS.1 4 _ rfl
      refine bodyPost_ret (v := .tuple #[.agg #[.int .i64 0, .int .i64 0, .int .i64 0, .slice none 0 0, .slice none 0 0], .bool false]) (by simp [results, Try.results8, go_sem, k0, k1, k2, k3, k4]) rfl (ToFB.none_ HNO.out.1 HNO.out.2 (below_set5 HB.out (by omega) _ _ _ _ _))
    · have HLB := Lib.hid (show yfB f = true by unfold yfB; rw [hv]; simp [h0])
      have HLV := Lib.hid (show yfF f = yieF f by unfold yfF; rw [HLB.out]; rfl)
      have h00 : (f.sp == 0) = false := by simp [h0]
      have HSL := Lib.hid (shsB_len (vldF_parts hv).2.2.2.2.1)
      have HBD := Lib.hid (shOf_bd hv f.sp)
      have h10 : f.wt.length ≤ 10 := (vldF_parts hv).2.2.2.1
      clear hv h0
      clear e02
      have e00 := N0.out.1 0 _ rfl
      have e01 := N0.out.1 1 _ rfl
      have e02 := N0.out.1 2 _ rfl
      have e03 := N0.out.1 3 _ rfl
      have e04 := N0.out.1 4 _ rfl
      go_wp2_with fail
      refine (l8Yield_any A D c d f _ (HA.out.below HB.out) hm0 (HD.out.below HB.out) hdd (by have := HSL.out; omega) HBD.out.1 (by have := HBD.out; omega)).mono ?_
      rintro e w2 ⟨A1, c1, D1, d1, rfl, o1, o2, hb⟩
      clear e00 e01 e02 e03 e04
      have HO1 := Lib.hid o1
      have HO2 := Lib.hid o2
      have hsw := hs
      replace N0 := Lib.hid (N0.out.below hb (by omega))
      replace N2 := Lib.hid (N2.out.below hb (by omega))
      replace HB := Lib.hid (HB.out.trans (hb.mono (by omega)))
      replace hs := Nat.le_trans hs hb.size
      clear hb o1 o2
      have e20 := N2.out.1 0 _ rfl
      have e21 := N2.out.1 1 _ rfl
      have e22 := N2.out.1 2 _ rfl
      have e23 := N2.out.1 3 _ rfl
      have e24 := N2.out.1 4 _ rfl
      have f20 := N2.out.2 0
      have f21 := N2.out.2 1
      have f22 := N2.out.2 2
      have f23 := N2.out.2 3
      have f24 := N2.out.2 4
      go_wp2
      clear e20 e21 e22 e23 e24 f20 f21 f22 f23 f24
      have KS := N2.out.set5 (.int .i64 (yieF f).t) (.int .i64 (yieF f).s) (.int .i64 (yieF f).sp) (.slice A1 (yieF f).wt.length c1) (.slice D1 (yieF f).sh.length d1)
      have k0 := KS.1 0 _ rfl
      have k1 := KS.1 1 _ rfl
      have k2 := KS.1 2 _ rfl
      have k3 := KS.1 3 _ rfl
      have k4 := KS.1 4 _ rfl
      clear KS
      have G1 := Lib.hid (show World.ownsRow (((((w2.setCell ⟨w.heap.size + 1, 0, none⟩ (.int .i64 (yieF f).t)).setCell ⟨w.heap.size + 1, 1, none⟩ (.int .i64 (yieF f).s)).setCell ⟨w.heap.size + 1, 2, none⟩ (.int .i64 (yieF f).sp)).setCell ⟨w.heap.size + 1, 3, none⟩ (.slice A1 (yieF f).wt.length c1)).setCell ⟨w.heap.size + 1, 4, none⟩ (.slice D1 (yieF f).sh.length d1)) w.heap.size 3 IntK.sz (.slice A1 (yieF f).wt.length c1) (yieF f).wt.length (IntK.row (yieF f).wt) from own_fin_old5 (L := w.heap.size) HO1.out.1 (by omega) (show w.heap.size + 1 < w1.heap.size by omega) (.int .i64 (yieF f).t) (.int .i64 (yieF f).s) (.int .i64 (yieF f).sp) (.slice A1 (yieF f).wt.length c1) (.slice D1 (yieF f).sh.length d1))
      have G2 := Lib.hid (show World.ownsRow (((((w2.setCell ⟨w.heap.size + 1, 0, none⟩ (.int .i64 (yieF f).t)).setCell ⟨w.heap.size + 1, 1, none⟩ (.int .i64 (yieF f).s)).setCell ⟨w.heap.size + 1, 2, none⟩ (.int .i64 (yieF f).sp)).setCell ⟨w.heap.size + 1, 3, none⟩ (.slice A1 (yieF f).wt.length c1)).setCell ⟨w.heap.size + 1, 4, none⟩ (.slice D1 (yieF f).sh.length d1)) w.heap.size 43 ShareK.sz (.slice D1 (yieF f).sh.length d1) (yieF f).sh.length (ShareK.row (yieF f).sh) from own_fin_old5 (L := w.heap.size) HO2.out.1 (by omega) (show w.heap.size + 1 < w1.heap.size by omega) (.int .i64 (yieF f).t) (.int .i64 (yieF f).s) (.int .i64 (yieF f).sp) (.slice A1 (yieF f).wt.length c1) (.slice D1 (yieF f).sh.length d1))
      have G3 := Lib.hid (show Below w.heap.size w (((((w2.setCell ⟨w.heap.size + 1, 0, none⟩ (.int .i64 (yieF f).t)).setCell ⟨w.heap.size + 1, 1, none⟩ (.int .i64 (yieF f).s)).setCell ⟨w.heap.size + 1, 2, none⟩ (.int .i64 (yieF f).sp)).setCell ⟨w.heap.size + 1, 3, none⟩ (.slice A1 (yieF f).wt.length c1)).setCell ⟨w.heap.size + 1, 4, none⟩ (.slice D1 (yieF f).sh.length d1)) from below_set5 HB.out (show w.heap.size ≤ w.heap.size + 1 by omega) (.int .i64 (yieF f).t) (.int .i64 (yieF f).s) (.int .i64 (yieF f).sp) (.slice A1 (yieF f).wt.length c1) (.slice D1 (yieF f).sh.length d1))
      have G4 := HO2.out.2.2.1
      have G5 := HO1.out.2.2.1
      generalize (((((w2.setCell ⟨w.heap.size + 1, 0, none⟩ (.int .i64 (yieF f).t)).setCell ⟨w.heap.size + 1, 1, none⟩ (.int .i64 (yieF f).s)).setCell ⟨w.heap.size + 1, 2, none⟩ (.int .i64 (yieF f).sp)).setCell ⟨w.heap.size + 1, 3, none⟩ (.slice A1 (yieF f).wt.length c1)).setCell ⟨w.heap.size + 1, 4, none⟩ (.slice D1 (yieF f).sh.length d1)) = W9 at k0 k1 k2 k3 k4 G1 G2 G3 ⊢
      refine bodyPost_ret (v := .tuple #[.agg #[.int .i64 (yieF f).t, .int .i64 (yieF f).s, .int .i64 (yieF f).sp, .slice A1 (yieF f).wt.length c1, .slice D1 (yieF f).sh.length d1], .bool true]) (by simp [results, Try.results8, go_sem, k0, k1, k2, k3, k4]) rfl ?_
      clear k0 k1 k2 k3 k4
      rw [HLB.out, HLV.out]
      refine ⟨A1, c1, D1, d1, rfl, ?_, ?_, ?_⟩
      · exact Ow.mk (K := IntK) G1.out G5 (fun _ _ => trivial)
      · exact Ow.mk (K := ShareK) G2.out G4 (fun _ _ => trivial)
      · exact G3.out
  · rw [hv]
    have HNO := Lib.hid (yfF_no (show yfB f = false by unfold yfB; rw [hv]; rfl))
    have e20 := N2.out.1 0 _ rfl
    have e21 := N2.out.1 1 _ rfl
    have e22 := N2.out.1 2 _ rfl
    have e23 := N2.out.1 3 _ rfl
    have e24 := N2.out.1 4 _ rfl
    have f20 := N2.out.2 0
    have f21 := N2.out.2 1
    have f22 := N2.out.2 2
    have f23 := N2.out.2 3
    have f24 := N2.out.2 4
    go_wp2
    have KS := N2.out.set5 (.int .i64 0) (.int .i64 0) (.int .i64 0) (.slice none 0 0) (.slice none 0 0)
    have k0 := KS.1 0 _ rfl
    have k1 := KS.1 1 _ rfl
    have k2 := KS.1 2 _ rfl
    have k3 := KS.1 3 _ rfl
    have k4 := KS.1 4 _ rfl
    refine bodyPost_ret (v := .tuple #[.agg #[.int .i64 0, .int .i64 0, .int .i64 0, .slice none 0 0, .slice none 0 0], .bool false]) (by simp [results, Try.results8, go_sem, k0, k1, k2, k3, k4]) rfl (ToFB.none_ HNO.out.1 HNO.out.2 (below_set5 HB.out (by omega) _ _ _ _ _))
set_option maxHeartbeats 16000000 in
set_option maxRecDepth 100000 in
theorem sSpeakFor_any (A D : Option Addr) (c d : Nat) (f : Flr) (k : Int) (w : World) (ha : Cells w A (IntK.row f.wt)) (hm0 : f.wt.length ≤ 1048576) (hcc : f.wt.length ≤ c) (hd : Cells w D (ShareK.row f.sh)) (hdd : f.sh.length ≤ d) (hn : f.sh.length ≤ 1048576) :
    Calls Try.prog 14 #[.agg #[.int .i64 f.t, .int .i64 f.s, .int .i64 f.sp, .slice A f.wt.length c, .slice D f.sh.length d], .int .i64 k] w (ToFNB w (sfF f k) (sfN f k) (sfB f k)) := by
  have HA := Lib.hid ha
  have HD := Lib.hid hd
  clear ha hd
  have N0 := Lib.hid ((BoxF.new5 w (.int .i64 f.t) (.int .i64 f.s) (.int .i64 f.sp) (.slice A f.wt.length c) (.slice D f.sh.length d) 29 w.heap.size rfl).below (below1 (w.alloc (.cells #[.int .i64 f.t, .int .i64 f.s, .int .i64 f.sp, .slice A f.wt.length c, .slice D f.sh.length d] 29)) (.cells #[.int .i64 0, .int .i64 0, .int .i64 0, .slice none 0 0, .slice none 0 0] 29)) (by simp))
  have N2 := Lib.hid (BoxF.new5 (w.alloc (.cells #[.int .i64 f.t, .int .i64 f.s, .int .i64 f.sp, .slice A f.wt.length c, .slice D f.sh.length d] 29)) (.int .i64 0) (.int .i64 0) (.int .i64 0) (.slice none 0 0) (.slice none 0 0) 29 (w.heap.size + 1) (by simp))
  have HB := Lib.hid (below2 w (.cells #[.int .i64 f.t, .int .i64 f.s, .int .i64 f.sp, .slice A f.wt.length c, .slice D f.sh.length d] 29) (.cells #[.int .i64 0, .int .i64 0, .int .i64 0, .slice none 0 0, .slice none 0 0] 29))
  have hs : w.heap.size + 2 ≤ ((w.alloc (.cells #[.int .i64 f.t, .int .i64 f.s, .int .i64 f.sp, .slice A f.wt.length c, .slice D f.sh.length d] 29)).alloc (.cells #[.int .i64 0, .int .i64 0, .int .i64 0, .slice none 0 0, .slice none 0 0] 29)).heap.size := by simp
  go_enter Try.func14, Try.ntmps14
  go_wp2_with fail
  generalize ((w.alloc (.cells #[.int .i64 f.t, .int .i64 f.s, .int .i64 f.sp, .slice A f.wt.length c, .slice D f.sh.length d] 29)).alloc (.cells #[.int .i64 0, .int .i64 0, .int .i64 0, .slice none 0 0, .slice none 0 0] 29)) = W at *
  refine (l8Good_any A D c d f W (HA.out.below HB.out) hm0 hcc (HD.out.below HB.out) hn).mono ?_
  rintro e w1 ⟨rfl, hb⟩
  replace N0 := Lib.hid (N0.out.below hb (by omega))
  replace N2 := Lib.hid (N2.out.below hb (by omega))
  replace HB := Lib.hid (HB.out.trans (hb.mono (by omega)))
  replace hs := Nat.le_trans hs hb.size
  clear hb
  rcases Bool.eq_false_or_eq_true (vldF f) with hv | hv
  · rw [hv]
    have e02 := N0.out.1 2 _ rfl
    by_cases h0 : f.sp = 0
    · have HNO := Lib.hid (sfF_no (show sfB f k = false by unfold sfB; rw [h0]; simp))
      have h00 : (f.sp == 0) = true := by simp [h0]
      have e20 := N2.out.1 0 _ rfl
      have e21 := N2.out.1 1 _ rfl
      have e22 := N2.out.1 2 _ rfl
      have e23 := N2.out.1 3 _ rfl
      have e24 := N2.out.1 4 _ rfl
      have f20 := N2.out.2 0
      have f21 := N2.out.2 1
      have f22 := N2.out.2 2
      have f23 := N2.out.2 3
      have f24 := N2.out.2 4
      go_wp2
      have KS := N2.out.set5 (.int .i64 0) (.int .i64 0) (.int .i64 0) (.slice none 0 0) (.slice none 0 0)
      have k0 := KS.1 0 _ rfl
      have k1 := KS.1 1 _ rfl
      have k2 := KS.1 2 _ rfl
      have k3 := KS.1 3 _ rfl
      have k4 := KS.1 4 _ rfl
      refine bodyPost_ret (v := .tuple #[.agg #[.int .i64 0, .int .i64 0, .int .i64 0, .slice none 0 0, .slice none 0 0], .int .i64 0, .bool false]) (by rw [results_cell_tmp2 Try.results14]; simp [go_sem, k0, k1, k2, k3, k4]) rfl (ToFNB.none_ HNO.out (below_set5 HB.out (by omega) _ _ _ _ _))
    · have h00 : (f.sp == 0) = false := by simp [h0]
      rcases Bool.eq_false_or_eq_true (inB k 1 3600) with hk | hk
      · have HLB := Lib.hid (show sfB f k = true by unfold sfB; rw [hv, hk]; simp [h0])
        have HLV := Lib.hid (show sfF f k = (if (shOf f.sp f.sh).s + spkN f k = f.s then yieF (spkG f k) else spkG f k) by unfold sfF; rw [HLB.out]; rfl)
        have HLN := Lib.hid (show sfN f k = spkN f k by unfold sfN; rw [HLB.out]; rfl)
        have HSL := Lib.hid (shsB_len (vldF_parts hv).2.2.2.2.1)
        have HBD := Lib.hid (shOf_bd hv f.sp)
        have h10 : f.wt.length ≤ 10 := (vldF_parts hv).2.2.2.1
        have HST := Lib.hid (spk_t hv k)
        have hk2 : 1 ≤ k ∧ k ≤ 3600 := by unfold inB at hk; simpa using hk
        have HSN := Lib.hid (spk_n hv hk2.1)
        clear hv h0 hk2
        have e00 := N0.out.1 0 _ rfl
        have e01 := N0.out.1 1 _ rfl
        have e03 := N0.out.1 3 _ rfl
        have e04 := N0.out.1 4 _ rfl
        go_wp2_with (go_at_call 56; refine (l1In_any k 1 3600 _).mono ?_; rintro e w2 ⟨rfl, rfl⟩; rw [hk])
        clear h00 hk
        refine (l8Share_any A D c d f f.sp _ (HD.out.below HB.out) hn).mono ?_
        rintro e w2 ⟨rfl, hb⟩
        clear e00 e01 e02 e03 e04
        have hsw := hs
        have hlw := hb.size
        replace hb := hb.trans ((below1 w2 (.cells #[.int .i64 (shOf f.sp f.sh).m, .int .i64 (shOf f.sp f.sh).t, .int .i64 (shOf f.sp f.sh).s] 43)).mono hb.size)
        have HS := Lib.hid (BoxF.new3 w2 (.int .i64 (shOf f.sp f.sh).m) (.int .i64 (shOf f.sp f.sh).t) (.int .i64 (shOf f.sp f.sh).s) 43 w2.heap.size rfl)
        have HXS : w2.heap.size < (w2.alloc (.cells #[.int .i64 (shOf f.sp f.sh).m, .int .i64 (shOf f.sp f.sh).t, .int .i64 (shOf f.sp f.sh).s] 43)).heap.size := by simp
        have HBX := Lib.hid hb
        replace N0 := Lib.hid (N0.out.below hb (by omega))
        replace N2 := Lib.hid (N2.out.below hb (by omega))
        replace HB := Lib.hid (HB.out.trans (hb.mono (by omega)))
        replace hs := Nat.le_trans hs hb.size
        clear hb
        go_upto_region 4 with fail
        generalize (w2.alloc (.cells #[.int .i64 (shOf f.sp f.sh).m, .int .i64 (shOf f.sp f.sh).t, .int .i64 (shOf f.sp f.sh).s] 43)) = V at *
        generalize w2.heap.size = qs at *
        have t1 : IntKind.i64.wrap (f.s - (shOf f.sp f.sh).s) = f.s - (shOf f.sp f.sh).s := by have := HBD.out; rw [IntKind.wrap_i64]; omega
        have t2 : IntKind.i64.wrap ((shOf f.sp f.sh).s + spkN f k) = (shOf f.sp f.sh).s + spkN f k := by have := HBD.out; have := HSN.out; rw [IntKind.wrap_i64]; omega
        have x2 := HS.out.1 2 _ rfl
        have z2 := HS.out.2 2
        have e01 := N0.out.1 1 _ rfl
        go_wp2_with fail
        refine (l1Least_any k (f.s - (shOf f.sp f.sh).s) _).mono ?_
        rintro e w' ⟨rfl, rfl⟩
        rw [show (if k < f.s - (shOf f.sp f.sh).s then k else f.s - (shOf f.sp f.sh).s) = spkN f k from rfl]
        replace HS := Lib.hid (HS.out.set (k := 2) (by simp) (.int .i64 ((shOf f.sp f.sh).s + spkN f k)))
        have hb : Below w1.heap.size V (V.setCell ⟨qs, 2, none⟩ (.int .i64 ((shOf f.sp f.sh).s + spkN f k))) := (Below.refl _ _).setCell hlw _
        have HBV := Lib.hid (HBX.out.trans hb)
        replace N0 := Lib.hid (N0.out.below hb (by omega))
        replace N2 := Lib.hid (N2.out.below hb (by omega))
        replace HB := Lib.hid (HB.out.trans (hb.mono (by omega)))
        replace HXS : qs < (V.setCell ⟨qs, 2, none⟩ (.int .i64 ((shOf f.sp f.sh).s + spkN f k))).heap.size := by simpa using HXS
        replace hs := Nat.le_trans hs hb.size
        clear hb HBX
        go_upto_region 6 with fail
        clear x2 z2 e01 t1 t2
        generalize (V.setCell ⟨qs, 2, none⟩ (.int .i64 ((shOf f.sp f.sh).s + spkN f k))) = V1 at *
        have e00 := N0.out.1 0 _ rfl
        have e01 := N0.out.1 1 _ rfl
        have e02 := N0.out.1 2 _ rfl
        have e03 := N0.out.1 3 _ rfl
        have e04 := N0.out.1 4 _ rfl
        have x0 := HS.out.1 0 _ rfl
        have x1 := HS.out.1 1 _ rfl
        have x2 := HS.out.1 2 _ rfl
        go_wp2_with fail
        refine (l8With_any A D c d f ⟨(shOf f.sp f.sh).m, (shOf f.sp f.sh).t, (shOf f.sp f.sh).s + spkN f k⟩ V1 (HA.out.below HB.out) hm0 (HD.out.below HB.out) hdd (by have := HSL.out; omega)).mono ?_
        rintro e w3 ⟨A1, c1, D1, d1, rfl, o1, o2, hb⟩
        clear e00 e01 e02 e03 e04
        clear x0 x1 x2
        have hl1 := HBV.out.size
        have hb1 := below1 w3 (.cells #[.int .i64 (spkG f k).t, .int .i64 (spkG f k).s, .int .i64 (spkG f k).sp, .slice A1 (spkG f k).wt.length c1, .slice D1 (spkG f k).sh.length d1] 29)
        have N6 := Lib.hid (BoxF.new5 w3 (.int .i64 (spkG f k).t) (.int .i64 (spkG f k).s) (.int .i64 (spkG f k).sp) (.slice A1 (spkG f k).wt.length c1) (.slice D1 (spkG f k).sh.length d1) 29 w3.heap.size rfl)
        have h6 : w3.heap.size < (w3.alloc (.cells #[.int .i64 (spkG f k).t, .int .i64 (spkG f k).s, .int .i64 (spkG f k).sp, .slice A1 (spkG f k).wt.length c1, .slice D1 (spkG f k).sh.length d1] 29)).heap.size := by simp
        have HO1 := Lib.hid (show Ow IntK 3 w1.heap.size w3.heap.size (w3.alloc (.cells #[.int .i64 (spkG f k).t, .int .i64 (spkG f k).s, .int .i64 (spkG f k).sp, .slice A1 (spkG f k).wt.length c1, .slice D1 (spkG f k).sh.length d1] 29)) A1 c1 (spkG f k).wt from (o1.below hb1 (Nat.le_refl _)).low hl1)
        have HO2 := Lib.hid (show Ow ShareK 43 w1.heap.size w3.heap.size (w3.alloc (.cells #[.int .i64 (spkG f k).t, .int .i64 (spkG f k).s, .int .i64 (spkG f k).sp, .slice A1 (spkG f k).wt.length c1, .slice D1 (spkG f k).sh.length d1] 29)) D1 d1 (spkG f k).sh from (o2.below hb1 (Nat.le_refl _)).low hl1)
        have hl3 := hb.size
        replace hb := hb.trans (hb1.mono hb.size)
        replace N0 := Lib.hid (N0.out.below hb (by omega))
        replace N2 := Lib.hid (N2.out.below hb (by omega))
        replace HB := Lib.hid (HB.out.trans (hb.mono (by omega)))
        replace hs := Nat.le_trans hs hb.size
        replace HS := Lib.hid (HS.out.below hb HXS)
        replace HXS := Nat.lt_of_lt_of_le HXS hb.size
        clear hb hb1 o1 o2 HBV
        skip
        go_upto_region 7 with fail
        skip
        generalize hV3 : (w3.alloc (.cells #[.int .i64 (withF f ⟨(shOf f.sp f.sh).m, (shOf f.sp f.sh).t, (shOf f.sp f.sh).s + spkN f k⟩).t, .int .i64 (withF f ⟨(shOf f.sp f.sh).m, (shOf f.sp f.sh).t, (shOf f.sp f.sh).s + spkN f k⟩).s, .int .i64 (withF f ⟨(shOf f.sp f.sh).m, (shOf f.sp f.sh).t, (shOf f.sp f.sh).s + spkN f k⟩).sp, .slice A1 (withF f ⟨(shOf f.sp f.sh).m, (shOf f.sp f.sh).t, (shOf f.sp f.sh).s + spkN f k⟩).wt.length c1, .slice D1 (withF f ⟨(shOf f.sp f.sh).m, (shOf f.sp f.sh).t, (shOf f.sp f.sh).s + spkN f k⟩).sh.length d1] 29)) = V3
        rw [show (w3.alloc (.cells #[.int .i64 (spkG f k).t, .int .i64 (spkG f k).s, .int .i64 (spkG f k).sp, .slice A1 (spkG f k).wt.length c1, .slice D1 (spkG f k).sh.length d1] 29)) = V3 from hV3] at N6 h6 HO1 HO2 N0 N2 HB hs HS HXS
        clear hV3
        generalize w3.heap.size = q6 at *
        have x2 := HS.out.1 2 _ rfl
        have e01 := N0.out.1 1 _ rfl
        by_cases hc : (shOf f.sp f.sh).s + spkN f k = f.s
        · have hc2 : ((shOf f.sp f.sh).s + spkN f k == f.s) = true := by simp [hc]
          replace HLV := Lib.hid (show sfF f k = yieF (spkG f k) by rw [HLV.out, if_pos hc])
          clear hc
          have e60 := N6.out.1 0 _ rfl
          have e61 := N6.out.1 1 _ rfl
          have e62 := N6.out.1 2 _ rfl
          have e63 := N6.out.1 3 _ rfl
          have e64 := N6.out.1 4 _ rfl
          go_wp2_with fail
          refine (l8Yield_any A1 D1 c1 d1 (spkG f k) V3 HO1.out.rd.cells HO1.out.2.2.1 HO2.out.rd.cells HO2.out.rd.1 (by have := spk_len f k; have := HSL.out; omega) HST.out.1 (by have := HST.out.2; show (shOf f.sp (spkG f k).sh).t ≤ _; omega)).mono ?_
          clear HO1 HO2
          rintro e w4 ⟨A2, c2, D2, d2, rfl, o1, o2, hb⟩
          clear x2 e01 hc2 e60 e61 e62 e63 e64
          have hv3 := hb.size
          have hl6 : w1.heap.size ≤ q6 := by omega
          replace N6 := Lib.hid (N6.out.below hb h6)
          have h64 := Nat.lt_of_lt_of_le h6 hb.size
          replace N2 := Lib.hid (N2.out.below hb (by omega))
          replace HB := Lib.hid (HB.out.trans (hb.mono (by omega)))
          replace hs := Nat.le_trans hs hb.size
          clear hb
          skip
          have hb : Below w1.heap.size w4 (((((w4.setCell ⟨q6, 0, none⟩ (.int .i64 (yieF (spkG f k)).t)).setCell ⟨q6, 1, none⟩ (.int .i64 (yieF (spkG f k)).s)).setCell ⟨q6, 2, none⟩ (.int .i64 (yieF (spkG f k)).sp)).setCell ⟨q6, 3, none⟩ (.slice A2 (yieF (spkG f k)).wt.length c2)).setCell ⟨q6, 4, none⟩ (.slice D2 (yieF (spkG f k)).sh.length d2)) := below_set5 (Below.refl _ _) hl6 (.int .i64 (yieF (spkG f k)).t) (.int .i64 (yieF (spkG f k)).s) (.int .i64 (yieF (spkG f k)).sp) (.slice A2 (yieF (spkG f k)).wt.length c2) (.slice D2 (yieF (spkG f k)).sh.length d2)
          have P1 : World.ownsRow (((((w4.setCell ⟨q6, 0, none⟩ (.int .i64 (yieF (spkG f k)).t)).setCell ⟨q6, 1, none⟩ (.int .i64 (yieF (spkG f k)).s)).setCell ⟨q6, 2, none⟩ (.int .i64 (yieF (spkG f k)).sp)).setCell ⟨q6, 3, none⟩ (.slice A2 (yieF (spkG f k)).wt.length c2)).setCell ⟨q6, 4, none⟩ (.slice D2 (yieF (spkG f k)).sh.length d2)) w1.heap.size 3 IntK.sz (.slice A2 (yieF (spkG f k)).wt.length c2) (yieF (spkG f k)).wt.length (IntK.row (yieF (spkG f k)).wt) := own_fin_old5 (L := w1.heap.size) o1.1 (by omega) (by omega) (.int .i64 (yieF (spkG f k)).t) (.int .i64 (yieF (spkG f k)).s) (.int .i64 (yieF (spkG f k)).sp) (.slice A2 (yieF (spkG f k)).wt.length c2) (.slice D2 (yieF (spkG f k)).sh.length d2)
          have P2 : World.ownsRow (((((w4.setCell ⟨q6, 0, none⟩ (.int .i64 (yieF (spkG f k)).t)).setCell ⟨q6, 1, none⟩ (.int .i64 (yieF (spkG f k)).s)).setCell ⟨q6, 2, none⟩ (.int .i64 (yieF (spkG f k)).sp)).setCell ⟨q6, 3, none⟩ (.slice A2 (yieF (spkG f k)).wt.length c2)).setCell ⟨q6, 4, none⟩ (.slice D2 (yieF (spkG f k)).sh.length d2)) w1.heap.size 43 ShareK.sz (.slice D2 (yieF (spkG f k)).sh.length d2) (yieF (spkG f k)).sh.length (ShareK.row (yieF (spkG f k)).sh) := own_fin_old5 (L := w1.heap.size) o2.1 (by omega) (by omega) (.int .i64 (yieF (spkG f k)).t) (.int .i64 (yieF (spkG f k)).s) (.int .i64 (yieF (spkG f k)).sp) (.slice A2 (yieF (spkG f k)).wt.length c2) (.slice D2 (yieF (spkG f k)).sh.length d2)
          have HO1 := Lib.hid (Ow.mk (K := IntK) P1 o1.2.2.1 (fun _ _ => trivial))
          have HO2 := Lib.hid (Ow.mk (K := ShareK) P2 o2.2.2.1 (fun _ _ => trivial))
          clear P1 P2 o1 o2
          have e60 := N6.out.1 0 _ rfl
          have e61 := N6.out.1 1 _ rfl
          have e62 := N6.out.1 2 _ rfl
          have e63 := N6.out.1 3 _ rfl
          have e64 := N6.out.1 4 _ rfl
          have f60 := N6.out.2 0
          have f61 := N6.out.2 1
          have f62 := N6.out.2 2
          have f63 := N6.out.2 3
          have f64 := N6.out.2 4
          have N6s := Lib.hid (N6.out.set5 (.int .i64 (yieF (spkG f k)).t) (.int .i64 (yieF (spkG f k)).s) (.int .i64 (yieF (spkG f k)).sp) (.slice A2 (yieF (spkG f k)).wt.length c2) (.slice D2 (yieF (spkG f k)).sh.length d2))
          replace N2 := Lib.hid (N2.out.below hb (by omega))
          replace HB := Lib.hid (HB.out.trans (hb.mono (by omega)))
          replace hs := Nat.le_trans hs hb.size
          clear hb
          go_upto_region 9 with fail
          clear e60 e61 e62 e63 e64 f60 f61 f62 f63 f64
          generalize (((((w4.setCell ⟨q6, 0, none⟩ (.int .i64 (yieF (spkG f k)).t)).setCell ⟨q6, 1, none⟩ (.int .i64 (yieF (spkG f k)).s)).setCell ⟨q6, 2, none⟩ (.int .i64 (yieF (spkG f k)).sp)).setCell ⟨q6, 3, none⟩ (.slice A2 (yieF (spkG f k)).wt.length c2)).setCell ⟨q6, 4, none⟩ (.slice D2 (yieF (spkG f k)).sh.length d2)) = V5 at *
          replace N6 := N6s
          clear N6s
          have e60 := N6.out.1 0 _ rfl
          have e61 := N6.out.1 1 _ rfl
          have e62 := N6.out.1 2 _ rfl
          have e63 := N6.out.1 3 _ rfl
          have e64 := N6.out.1 4 _ rfl
          have f60 := N6.out.2 0
          have f61 := N6.out.2 1
          have f62 := N6.out.2 2
          have f63 := N6.out.2 3
          have f64 := N6.out.2 4
          have e20 := N2.out.1 0 _ rfl
          have e21 := N2.out.1 1 _ rfl
          have e22 := N2.out.1 2 _ rfl
          have e23 := N2.out.1 3 _ rfl
          have e24 := N2.out.1 4 _ rfl
          have f20 := N2.out.2 0
          have f21 := N2.out.2 1
          have f22 := N2.out.2 2
          have f23 := N2.out.2 3
          have f24 := N2.out.2 4
          go_wp2
          clear e60 e61 e62 e63 e64 e20 e21 e22 e23 e24 f60 f61 f62 f63 f64 f20 f21 f22 f23 f24
          have KS := N2.out.set5 (.int .i64 (yieF (spkG f k)).t) (.int .i64 (yieF (spkG f k)).s) (.int .i64 (yieF (spkG f k)).sp) (.slice A2 (yieF (spkG f k)).wt.length c2) (.slice D2 (yieF (spkG f k)).sh.length d2)
          have k0 := KS.1 0 _ rfl
          have k1 := KS.1 1 _ rfl
          have k2 := KS.1 2 _ rfl
          have k3 := KS.1 3 _ rfl
          have k4 := KS.1 4 _ rfl
          clear KS
          have G1 := Lib.hid (show World.ownsRow (((((V5.setCell ⟨w.heap.size + 1, 0, none⟩ (.int .i64 (yieF (spkG f k)).t)).setCell ⟨w.heap.size + 1, 1, none⟩ (.int .i64 (yieF (spkG f k)).s)).setCell ⟨w.heap.size + 1, 2, none⟩ (.int .i64 (yieF (spkG f k)).sp)).setCell ⟨w.heap.size + 1, 3, none⟩ (.slice A2 (yieF (spkG f k)).wt.length c2)).setCell ⟨w.heap.size + 1, 4, none⟩ (.slice D2 (yieF (spkG f k)).sh.length d2)) w.heap.size 3 IntK.sz (.slice A2 (yieF (spkG f k)).wt.length c2) (yieF (spkG f k)).wt.length (IntK.row (yieF (spkG f k)).wt) from own_fin_old5 (L := w.heap.size) HO1.out.1 (by omega) (show w.heap.size + 1 < w1.heap.size by omega) (.int .i64 (yieF (spkG f k)).t) (.int .i64 (yieF (spkG f k)).s) (.int .i64 (yieF (spkG f k)).sp) (.slice A2 (yieF (spkG f k)).wt.length c2) (.slice D2 (yieF (spkG f k)).sh.length d2))
          have G2 := Lib.hid (show World.ownsRow (((((V5.setCell ⟨w.heap.size + 1, 0, none⟩ (.int .i64 (yieF (spkG f k)).t)).setCell ⟨w.heap.size + 1, 1, none⟩ (.int .i64 (yieF (spkG f k)).s)).setCell ⟨w.heap.size + 1, 2, none⟩ (.int .i64 (yieF (spkG f k)).sp)).setCell ⟨w.heap.size + 1, 3, none⟩ (.slice A2 (yieF (spkG f k)).wt.length c2)).setCell ⟨w.heap.size + 1, 4, none⟩ (.slice D2 (yieF (spkG f k)).sh.length d2)) w.heap.size 43 ShareK.sz (.slice D2 (yieF (spkG f k)).sh.length d2) (yieF (spkG f k)).sh.length (ShareK.row (yieF (spkG f k)).sh) from own_fin_old5 (L := w.heap.size) HO2.out.1 (by omega) (show w.heap.size + 1 < w1.heap.size by omega) (.int .i64 (yieF (spkG f k)).t) (.int .i64 (yieF (spkG f k)).s) (.int .i64 (yieF (spkG f k)).sp) (.slice A2 (yieF (spkG f k)).wt.length c2) (.slice D2 (yieF (spkG f k)).sh.length d2))
          have G3 := Lib.hid (show Below w.heap.size w (((((V5.setCell ⟨w.heap.size + 1, 0, none⟩ (.int .i64 (yieF (spkG f k)).t)).setCell ⟨w.heap.size + 1, 1, none⟩ (.int .i64 (yieF (spkG f k)).s)).setCell ⟨w.heap.size + 1, 2, none⟩ (.int .i64 (yieF (spkG f k)).sp)).setCell ⟨w.heap.size + 1, 3, none⟩ (.slice A2 (yieF (spkG f k)).wt.length c2)).setCell ⟨w.heap.size + 1, 4, none⟩ (.slice D2 (yieF (spkG f k)).sh.length d2)) from below_set5 HB.out (show w.heap.size ≤ w.heap.size + 1 by omega) (.int .i64 (yieF (spkG f k)).t) (.int .i64 (yieF (spkG f k)).s) (.int .i64 (yieF (spkG f k)).sp) (.slice A2 (yieF (spkG f k)).wt.length c2) (.slice D2 (yieF (spkG f k)).sh.length d2))
          have G4 := HO2.out.2.2.1
          have G5 := HO1.out.2.2.1
          generalize (((((V5.setCell ⟨w.heap.size + 1, 0, none⟩ (.int .i64 (yieF (spkG f k)).t)).setCell ⟨w.heap.size + 1, 1, none⟩ (.int .i64 (yieF (spkG f k)).s)).setCell ⟨w.heap.size + 1, 2, none⟩ (.int .i64 (yieF (spkG f k)).sp)).setCell ⟨w.heap.size + 1, 3, none⟩ (.slice A2 (yieF (spkG f k)).wt.length c2)).setCell ⟨w.heap.size + 1, 4, none⟩ (.slice D2 (yieF (spkG f k)).sh.length d2)) = W9 at k0 k1 k2 k3 k4 G1 G2 G3 ⊢
          refine bodyPost_ret (v := .tuple #[.agg #[.int .i64 (yieF (spkG f k)).t, .int .i64 (yieF (spkG f k)).s, .int .i64 (yieF (spkG f k)).sp, .slice A2 (yieF (spkG f k)).wt.length c2, .slice D2 (yieF (spkG f k)).sh.length d2], .int .i64 (spkN f k), .bool true]) (by rw [results_cell_tmp2 Try.results14]; simp [go_sem, k0, k1, k2, k3, k4]) rfl ?_
          clear k0 k1 k2 k3 k4
          rw [HLN.out, HLB.out, HLV.out]
          refine ⟨A2, c2, D2, d2, rfl, ?_, ?_, ?_⟩
          · exact Ow.mk (K := IntK) G1.out G5 (fun _ _ => trivial)
          · exact Ow.mk (K := ShareK) G2.out G4 (fun _ _ => trivial)
          · exact G3.out
        · have hc2 : ((shOf f.sp f.sh).s + spkN f k == f.s) = false := by simp [hc]
          replace HLV := Lib.hid (show sfF f k = spkG f k by rw [HLV.out, if_neg hc])
          clear hc
          go_upto_region 9 with fail
          clear x2 e01 hc2
          have e60 := N6.out.1 0 _ rfl
          have e61 := N6.out.1 1 _ rfl
          have e62 := N6.out.1 2 _ rfl
          have e63 := N6.out.1 3 _ rfl
          have e64 := N6.out.1 4 _ rfl
          have f60 := N6.out.2 0
          have f61 := N6.out.2 1
          have f62 := N6.out.2 2
          have f63 := N6.out.2 3
          have f64 := N6.out.2 4
          have e20 := N2.out.1 0 _ rfl
          have e21 := N2.out.1 1 _ rfl
          have e22 := N2.out.1 2 _ rfl
          have e23 := N2.out.1 3 _ rfl
          have e24 := N2.out.1 4 _ rfl
          have f20 := N2.out.2 0
          have f21 := N2.out.2 1
          have f22 := N2.out.2 2
          have f23 := N2.out.2 3
          have f24 := N2.out.2 4
          go_wp2
          clear e60 e61 e62 e63 e64 e20 e21 e22 e23 e24 f60 f61 f62 f63 f64 f20 f21 f22 f23 f24
          have KS := N2.out.set5 (.int .i64 (spkG f k).t) (.int .i64 (spkG f k).s) (.int .i64 (spkG f k).sp) (.slice A1 (spkG f k).wt.length c1) (.slice D1 (spkG f k).sh.length d1)
          have k0 := KS.1 0 _ rfl
          have k1 := KS.1 1 _ rfl
          have k2 := KS.1 2 _ rfl
          have k3 := KS.1 3 _ rfl
          have k4 := KS.1 4 _ rfl
          clear KS
          have G1 := Lib.hid (show World.ownsRow (((((V3.setCell ⟨w.heap.size + 1, 0, none⟩ (.int .i64 (spkG f k).t)).setCell ⟨w.heap.size + 1, 1, none⟩ (.int .i64 (spkG f k).s)).setCell ⟨w.heap.size + 1, 2, none⟩ (.int .i64 (spkG f k).sp)).setCell ⟨w.heap.size + 1, 3, none⟩ (.slice A1 (spkG f k).wt.length c1)).setCell ⟨w.heap.size + 1, 4, none⟩ (.slice D1 (spkG f k).sh.length d1)) w.heap.size 3 IntK.sz (.slice A1 (spkG f k).wt.length c1) (spkG f k).wt.length (IntK.row (spkG f k).wt) from own_fin_old5 (L := w.heap.size) HO1.out.1 (by omega) (show w.heap.size + 1 < w1.heap.size by omega) (.int .i64 (spkG f k).t) (.int .i64 (spkG f k).s) (.int .i64 (spkG f k).sp) (.slice A1 (spkG f k).wt.length c1) (.slice D1 (spkG f k).sh.length d1))
          have G2 := Lib.hid (show World.ownsRow (((((V3.setCell ⟨w.heap.size + 1, 0, none⟩ (.int .i64 (spkG f k).t)).setCell ⟨w.heap.size + 1, 1, none⟩ (.int .i64 (spkG f k).s)).setCell ⟨w.heap.size + 1, 2, none⟩ (.int .i64 (spkG f k).sp)).setCell ⟨w.heap.size + 1, 3, none⟩ (.slice A1 (spkG f k).wt.length c1)).setCell ⟨w.heap.size + 1, 4, none⟩ (.slice D1 (spkG f k).sh.length d1)) w.heap.size 43 ShareK.sz (.slice D1 (spkG f k).sh.length d1) (spkG f k).sh.length (ShareK.row (spkG f k).sh) from own_fin_old5 (L := w.heap.size) HO2.out.1 (by omega) (show w.heap.size + 1 < w1.heap.size by omega) (.int .i64 (spkG f k).t) (.int .i64 (spkG f k).s) (.int .i64 (spkG f k).sp) (.slice A1 (spkG f k).wt.length c1) (.slice D1 (spkG f k).sh.length d1))
          have G3 := Lib.hid (show Below w.heap.size w (((((V3.setCell ⟨w.heap.size + 1, 0, none⟩ (.int .i64 (spkG f k).t)).setCell ⟨w.heap.size + 1, 1, none⟩ (.int .i64 (spkG f k).s)).setCell ⟨w.heap.size + 1, 2, none⟩ (.int .i64 (spkG f k).sp)).setCell ⟨w.heap.size + 1, 3, none⟩ (.slice A1 (spkG f k).wt.length c1)).setCell ⟨w.heap.size + 1, 4, none⟩ (.slice D1 (spkG f k).sh.length d1)) from below_set5 HB.out (show w.heap.size ≤ w.heap.size + 1 by omega) (.int .i64 (spkG f k).t) (.int .i64 (spkG f k).s) (.int .i64 (spkG f k).sp) (.slice A1 (spkG f k).wt.length c1) (.slice D1 (spkG f k).sh.length d1))
          have G4 := HO2.out.2.2.1
          have G5 := HO1.out.2.2.1
          generalize (((((V3.setCell ⟨w.heap.size + 1, 0, none⟩ (.int .i64 (spkG f k).t)).setCell ⟨w.heap.size + 1, 1, none⟩ (.int .i64 (spkG f k).s)).setCell ⟨w.heap.size + 1, 2, none⟩ (.int .i64 (spkG f k).sp)).setCell ⟨w.heap.size + 1, 3, none⟩ (.slice A1 (spkG f k).wt.length c1)).setCell ⟨w.heap.size + 1, 4, none⟩ (.slice D1 (spkG f k).sh.length d1)) = W9 at k0 k1 k2 k3 k4 G1 G2 G3 ⊢
          refine bodyPost_ret (v := .tuple #[.agg #[.int .i64 (spkG f k).t, .int .i64 (spkG f k).s, .int .i64 (spkG f k).sp, .slice A1 (spkG f k).wt.length c1, .slice D1 (spkG f k).sh.length d1], .int .i64 (spkN f k), .bool true]) (by rw [results_cell_tmp2 Try.results14]; simp [go_sem, k0, k1, k2, k3, k4]) rfl ?_
          clear k0 k1 k2 k3 k4
          rw [HLN.out, HLB.out, HLV.out]
          refine ⟨A1, c1, D1, d1, rfl, ?_, ?_, ?_⟩
          · exact Ow.mk (K := IntK) G1.out G5 (fun _ _ => trivial)
          · exact Ow.mk (K := ShareK) G2.out G4 (fun _ _ => trivial)
          · exact G3.out
      · have HNO := Lib.hid (sfF_no (show sfB f k = false by unfold sfB; rw [hk]; simp))
        clear h0
        have e20 := N2.out.1 0 _ rfl
        have e21 := N2.out.1 1 _ rfl
        have e22 := N2.out.1 2 _ rfl
        have e23 := N2.out.1 3 _ rfl
        have e24 := N2.out.1 4 _ rfl
        have f20 := N2.out.2 0
        have f21 := N2.out.2 1
        have f22 := N2.out.2 2
        have f23 := N2.out.2 3
        have f24 := N2.out.2 4
        go_wp2_with (go_at_call 56; refine (l1In_any k 1 3600 _).mono ?_; rintro e w2 ⟨rfl, rfl⟩; rw [hk])
        have KS := N2.out.set5 (.int .i64 0) (.int .i64 0) (.int .i64 0) (.slice none 0 0) (.slice none 0 0)
        have k0 := KS.1 0 _ rfl
        have k1 := KS.1 1 _ rfl
        have k2 := KS.1 2 _ rfl
        have k3 := KS.1 3 _ rfl
        have k4 := KS.1 4 _ rfl
        refine bodyPost_ret (v := .tuple #[.agg #[.int .i64 0, .int .i64 0, .int .i64 0, .slice none 0 0, .slice none 0 0], .int .i64 0, .bool false]) (by rw [results_cell_tmp2 Try.results14]; simp [go_sem, k0, k1, k2, k3, k4]) rfl (ToFNB.none_ HNO.out (below_set5 HB.out (by omega) _ _ _ _ _))
  · rw [hv]
    have HNO := Lib.hid (sfF_no (show sfB f k = false by unfold sfB; rw [hv]; rfl))
    have e20 := N2.out.1 0 _ rfl
    have e21 := N2.out.1 1 _ rfl
    have e22 := N2.out.1 2 _ rfl
    have e23 := N2.out.1 3 _ rfl
    have e24 := N2.out.1 4 _ rfl
    have f20 := N2.out.2 0
    have f21 := N2.out.2 1
    have f22 := N2.out.2 2
    have f23 := N2.out.2 3
    have f24 := N2.out.2 4
    go_wp2
    have KS := N2.out.set5 (.int .i64 0) (.int .i64 0) (.int .i64 0) (.slice none 0 0) (.slice none 0 0)
    have k0 := KS.1 0 _ rfl
    have k1 := KS.1 1 _ rfl
    have k2 := KS.1 2 _ rfl
    have k3 := KS.1 3 _ rfl
    have k4 := KS.1 4 _ rfl
    refine bodyPost_ret (v := .tuple #[.agg #[.int .i64 0, .int .i64 0, .int .i64 0, .slice none 0 0, .slice none 0 0], .int .i64 0, .bool false]) (by rw [results_cell_tmp2 Try.results14]; simp [go_sem, k0, k1, k2, k3, k4]) rfl (ToFNB.none_ HNO.out (below_set5 HB.out (by omega) _ _ _ _ _))
end Go.Proofs.Ytbpikbcnpmplfaa
