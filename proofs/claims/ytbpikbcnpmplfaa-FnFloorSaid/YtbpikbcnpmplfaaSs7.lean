/- l8Yield and YieldFloor of the reference. Conditions: the ranges named. -/
import Derived.Test.YtbpikbcnpmplfaaSs5
import Derived.Test.YtbpikbcnpmplfaaSs6
namespace Go.Proofs.Ytbpikbcnpmplfaa
open Go.RowKit
set_option linter.unusedVariables false
set_option linter.unusedSimpArgs false
set_option maxHeartbeats 4000000 in
set_option maxRecDepth 100000 in
theorem l8Yield_any (A D : Option Addr) (c d : Nat) (f : Flr) (w : World) (ha : Cells w A (IntK.row f.wt)) (hn : f.wt.length ≤ 1048576) (hd : Cells w D (ShareK.row f.sh)) (hdd : f.sh.length ≤ d) (hm : f.sh.length ≤ 1000000) (h0 : 0 ≤ (shOf f.sp f.sh).t) (h1 : (shOf f.sp f.sh).t ≤ 1000000) :
    Calls Try.prog 45 #[.agg #[.int .i64 f.t, .int .i64 f.s, .int .i64 f.sp, .slice A f.wt.length c, .slice D f.sh.length d]] w (MkF w (yieF f)) := by
  have HA := Lib.hid ha
  have HD := Lib.hid hd
  clear ha hd
  have N0 := Lib.hid ((BoxF.new5 w (.int .i64 f.t) (.int .i64 f.s) (.int .i64 f.sp) (.slice A f.wt.length c) (.slice D f.sh.length d) 29 w.heap.size rfl).below (below1 (w.alloc (.cells #[.int .i64 f.t, .int .i64 f.s, .int .i64 f.sp, .slice A f.wt.length c, .slice D f.sh.length d] 29)) (.cells #[.int .i64 0, .int .i64 0, .int .i64 0, .slice none 0 0, .slice none 0 0] 29)) (by simp))
  have N2 := Lib.hid (BoxF.new5 (w.alloc (.cells #[.int .i64 f.t, .int .i64 f.s, .int .i64 f.sp, .slice A f.wt.length c, .slice D f.sh.length d] 29)) (.int .i64 0) (.int .i64 0) (.int .i64 0) (.slice none 0 0) (.slice none 0 0) 29 (w.heap.size + 1) (by simp))
  have HB := Lib.hid (below2 w (.cells #[.int .i64 f.t, .int .i64 f.s, .int .i64 f.sp, .slice A f.wt.length c, .slice D f.sh.length d] 29) (.cells #[.int .i64 0, .int .i64 0, .int .i64 0, .slice none 0 0, .slice none 0 0] 29))
  have hs : w.heap.size + 2 ≤ ((w.alloc (.cells #[.int .i64 f.t, .int .i64 f.s, .int .i64 f.sp, .slice A f.wt.length c, .slice D f.sh.length d] 29)).alloc (.cells #[.int .i64 0, .int .i64 0, .int .i64 0, .slice none 0 0, .slice none 0 0] 29)).heap.size := by simp
  go_enter Try.func45, Try.ntmps45
  go_upto_region 1 with fail
  generalize ((w.alloc (.cells #[.int .i64 f.t, .int .i64 f.s, .int .i64 f.sp, .slice A f.wt.length c, .slice D f.sh.length d] 29)).alloc (.cells #[.int .i64 0, .int .i64 0, .int .i64 0, .slice none 0 0, .slice none 0 0] 29)) = W at *
  have b0 := N0.out.1 0 _ rfl
  have b1 := N0.out.1 1 _ rfl
  have b2 := N0.out.1 2 _ rfl
  have b3 := N0.out.1 3 _ rfl
  have b4 := N0.out.1 4 _ rfl
  go_wp2_with fail
  refine (l8Share_any A D c d f f.sp W (HD.out.below HB.out) (by omega)).mono ?_
  rintro e w1 ⟨rfl, hb⟩
  clear b0 b1 b2 b3 b4
  have hb2 := hb.trans ((below1 w1 (.cells #[.int .i64 (shOf f.sp f.sh).m, .int .i64 ((shOf f.sp f.sh).t + 1), .int .i64 (shOf f.sp f.sh).s] 43)).mono hb.size)
  have HS := Lib.hid (BoxF.new3 w1 (.int .i64 (shOf f.sp f.sh).m) (.int .i64 ((shOf f.sp f.sh).t + 1)) (.int .i64 (shOf f.sp f.sh).s) 43 w1.heap.size rfl)
  replace N0 := Lib.hid (N0.out.below hb2 (by omega))
  replace N2 := Lib.hid (N2.out.below hb2 (by omega))
  replace HB := Lib.hid (HB.out.trans (hb2.mono (by omega)))
  have hsx := hb2.size
  have t1 : IntKind.i64.wrap ((shOf f.sp f.sh).t + 1) = (shOf f.sp f.sh).t + 1 := by rw [IntKind.wrap_i64]; omega
  clear hb hb2
  go_upto_region 3 with fail
  generalize (w1.alloc (.cells #[.int .i64 (shOf f.sp f.sh).m, .int .i64 ((shOf f.sp f.sh).t + 1), .int .i64 (shOf f.sp f.sh).s] 43)) = V at *
  clear t1
  have b0 := N0.out.1 0 _ rfl
  have b1 := N0.out.1 1 _ rfl
  have b2 := N0.out.1 2 _ rfl
  have b3 := N0.out.1 3 _ rfl
  have b4 := N0.out.1 4 _ rfl
  have x0 := HS.out.1 0 _ rfl
  have x1 := HS.out.1 1 _ rfl
  have x2 := HS.out.1 2 _ rfl
  go_wp2_with fail
  refine (l8With_any A D c d f ⟨(shOf f.sp f.sh).m, (shOf f.sp f.sh).t + 1, (shOf f.sp f.sh).s⟩ V (HA.out.below HB.out) hn (HD.out.below HB.out) hdd hm).mono ?_
  rintro e w2 ⟨A1, c1, D1, d1, rfl, o1, o2, hb⟩
  clear b0 b1 b2 b3 b4 x0 x1 x2
  have hb1 := below1 w2 (.cells #[.int .i64 (withF f ⟨(shOf f.sp f.sh).m, (shOf f.sp f.sh).t + 1, (shOf f.sp f.sh).s⟩).t, .int .i64 (withF f ⟨(shOf f.sp f.sh).m, (shOf f.sp f.sh).t + 1, (shOf f.sp f.sh).s⟩).s, .int .i64 0, .slice A1 (withF f ⟨(shOf f.sp f.sh).m, (shOf f.sp f.sh).t + 1, (shOf f.sp f.sh).s⟩).wt.length c1, .slice D1 (withF f ⟨(shOf f.sp f.sh).m, (shOf f.sp f.sh).t + 1, (shOf f.sp f.sh).s⟩).sh.length d1] 29)
  have hVs := hb.size
  have hb2 := hb.trans (hb1.mono hb.size)
  have HO1 := Lib.hid (own_keep o1.1 hb1)
  have HO2 := Lib.hid (own_keep o2.1 hb1)
  have hl1 := o1.2.2.1
  have hl2 := o2.2.2.1
  have N6 := Lib.hid (BoxF.new5 w2 (.int .i64 (withF f ⟨(shOf f.sp f.sh).m, (shOf f.sp f.sh).t + 1, (shOf f.sp f.sh).s⟩).t) (.int .i64 (withF f ⟨(shOf f.sp f.sh).m, (shOf f.sp f.sh).t + 1, (shOf f.sp f.sh).s⟩).s) (.int .i64 0) (.slice A1 (withF f ⟨(shOf f.sp f.sh).m, (shOf f.sp f.sh).t + 1, (shOf f.sp f.sh).s⟩).wt.length c1) (.slice D1 (withF f ⟨(shOf f.sp f.sh).m, (shOf f.sp f.sh).t + 1, (shOf f.sp f.sh).s⟩).sh.length d1) 29 w2.heap.size rfl)
  replace N2 := Lib.hid (N2.out.below hb2 (by omega))
  replace HB := Lib.hid (HB.out.trans (hb2.mono (by omega)))
  clear hb hb1 hb2 o1 o2
  go_upto_region 5 with fail
  generalize (w2.alloc (.cells #[.int .i64 (withF f ⟨(shOf f.sp f.sh).m, (shOf f.sp f.sh).t + 1, (shOf f.sp f.sh).s⟩).t, .int .i64 (withF f ⟨(shOf f.sp f.sh).m, (shOf f.sp f.sh).t + 1, (shOf f.sp f.sh).s⟩).s, .int .i64 0, .slice A1 (withF f ⟨(shOf f.sp f.sh).m, (shOf f.sp f.sh).t + 1, (shOf f.sp f.sh).s⟩).wt.length c1, .slice D1 (withF f ⟨(shOf f.sp f.sh).m, (shOf f.sp f.sh).t + 1, (shOf f.sp f.sh).s⟩).sh.length d1] 29)) = V6 at *
  have o0 := N6.out.1 0 _ rfl
  have o1 := N6.out.1 1 _ rfl
  have o2 := N6.out.1 2 _ rfl
  have o3 := N6.out.1 3 _ rfl
  have o4 := N6.out.1 4 _ rfl
  have r0 := N2.out.1 0 _ rfl
  have r1 := N2.out.1 1 _ rfl
  have r2 := N2.out.1 2 _ rfl
  have r3 := N2.out.1 3 _ rfl
  have r4 := N2.out.1 4 _ rfl
  have q0 := N2.out.2 0
  have q1 := N2.out.2 1
  have q2 := N2.out.2 2
  have q3 := N2.out.2 3
  have q4 := N2.out.2 4
  go_wp2
  clear o0 r0 q0 o1 r1 q1 o2 r2 q2 o3 r3 q3 o4 r4 q4
  have KS := N2.out.set5 (.int .i64 (withF f ⟨(shOf f.sp f.sh).m, (shOf f.sp f.sh).t + 1, (shOf f.sp f.sh).s⟩).t) (.int .i64 (withF f ⟨(shOf f.sp f.sh).m, (shOf f.sp f.sh).t + 1, (shOf f.sp f.sh).s⟩).s) (.int .i64 0) (.slice A1 (withF f ⟨(shOf f.sp f.sh).m, (shOf f.sp f.sh).t + 1, (shOf f.sp f.sh).s⟩).wt.length c1) (.slice D1 (withF f ⟨(shOf f.sp f.sh).m, (shOf f.sp f.sh).t + 1, (shOf f.sp f.sh).s⟩).sh.length d1)
  have k0 := KS.1 0 _ rfl
  have k1 := KS.1 1 _ rfl
  have k2 := KS.1 2 _ rfl
  have k3 := KS.1 3 _ rfl
  have k4 := KS.1 4 _ rfl
  clear KS
  have G1 := Lib.hid (own_fin_old5 (L := w.heap.size) HO1.out (by omega) (show w.heap.size + 1 < V.heap.size by omega) (.int .i64 (withF f ⟨(shOf f.sp f.sh).m, (shOf f.sp f.sh).t + 1, (shOf f.sp f.sh).s⟩).t) (.int .i64 (withF f ⟨(shOf f.sp f.sh).m, (shOf f.sp f.sh).t + 1, (shOf f.sp f.sh).s⟩).s) (.int .i64 0) (.slice A1 (withF f ⟨(shOf f.sp f.sh).m, (shOf f.sp f.sh).t + 1, (shOf f.sp f.sh).s⟩).wt.length c1) (.slice D1 (withF f ⟨(shOf f.sp f.sh).m, (shOf f.sp f.sh).t + 1, (shOf f.sp f.sh).s⟩).sh.length d1))
  have G2 := Lib.hid (own_fin_old5 (L := w.heap.size) HO2.out (by omega) (show w.heap.size + 1 < V.heap.size by omega) (.int .i64 (withF f ⟨(shOf f.sp f.sh).m, (shOf f.sp f.sh).t + 1, (shOf f.sp f.sh).s⟩).t) (.int .i64 (withF f ⟨(shOf f.sp f.sh).m, (shOf f.sp f.sh).t + 1, (shOf f.sp f.sh).s⟩).s) (.int .i64 0) (.slice A1 (withF f ⟨(shOf f.sp f.sh).m, (shOf f.sp f.sh).t + 1, (shOf f.sp f.sh).s⟩).wt.length c1) (.slice D1 (withF f ⟨(shOf f.sp f.sh).m, (shOf f.sp f.sh).t + 1, (shOf f.sp f.sh).s⟩).sh.length d1))
  have G3 := Lib.hid (below_set5 HB.out (show w.heap.size ≤ w.heap.size + 1 by omega) (.int .i64 (withF f ⟨(shOf f.sp f.sh).m, (shOf f.sp f.sh).t + 1, (shOf f.sp f.sh).s⟩).t) (.int .i64 (withF f ⟨(shOf f.sp f.sh).m, (shOf f.sp f.sh).t + 1, (shOf f.sp f.sh).s⟩).s) (.int .i64 0) (.slice A1 (withF f ⟨(shOf f.sp f.sh).m, (shOf f.sp f.sh).t + 1, (shOf f.sp f.sh).s⟩).wt.length c1) (.slice D1 (withF f ⟨(shOf f.sp f.sh).m, (shOf f.sp f.sh).t + 1, (shOf f.sp f.sh).s⟩).sh.length d1))
  generalize (((((V6.setCell ⟨w.heap.size + 1, 0, none⟩ (.int .i64 (withF f ⟨(shOf f.sp f.sh).m, (shOf f.sp f.sh).t + 1, (shOf f.sp f.sh).s⟩).t)).setCell ⟨w.heap.size + 1, 1, none⟩ (.int .i64 (withF f ⟨(shOf f.sp f.sh).m, (shOf f.sp f.sh).t + 1, (shOf f.sp f.sh).s⟩).s)).setCell ⟨w.heap.size + 1, 2, none⟩ (.int .i64 0)).setCell ⟨w.heap.size + 1, 3, none⟩ (.slice A1 (withF f ⟨(shOf f.sp f.sh).m, (shOf f.sp f.sh).t + 1, (shOf f.sp f.sh).s⟩).wt.length c1)).setCell ⟨w.heap.size + 1, 4, none⟩ (.slice D1 (withF f ⟨(shOf f.sp f.sh).m, (shOf f.sp f.sh).t + 1, (shOf f.sp f.sh).s⟩).sh.length d1)) = W9 at k0 k1 k2 k3 k4 G1 G2 G3 ⊢
  refine bodyPost_ret (v := .agg #[.int .i64 (withF f ⟨(shOf f.sp f.sh).m, (shOf f.sp f.sh).t + 1, (shOf f.sp f.sh).s⟩).t, .int .i64 (withF f ⟨(shOf f.sp f.sh).m, (shOf f.sp f.sh).t + 1, (shOf f.sp f.sh).s⟩).s, .int .i64 0, .slice A1 (withF f ⟨(shOf f.sp f.sh).m, (shOf f.sp f.sh).t + 1, (shOf f.sp f.sh).s⟩).wt.length c1, .slice D1 (withF f ⟨(shOf f.sp f.sh).m, (shOf f.sp f.sh).t + 1, (shOf f.sp f.sh).s⟩).sh.length d1]) (by simp [results, Try.results45, go_sem, k0, k1, k2, k3, k4]) rfl ?_
  refine ⟨A1, c1, D1, d1, rfl, ?_, ?_, ?_⟩
  · exact Ow.mk (K := IntK) G1.out hl1 (fun _ _ => trivial)
  · exact Ow.mk (K := ShareK) G2.out hl2 (fun _ _ => trivial)
  · exact G3.out
end Go.Proofs.Ytbpikbcnpmplfaa
