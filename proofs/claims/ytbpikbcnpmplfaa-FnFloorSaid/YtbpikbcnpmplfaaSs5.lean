/- YieldFloor and SpeakFor, in the program. Conditions: the ranges named. -/
import Derived.Test.YtbpikbcnpmplfaaSs4
namespace Go.Proofs.Ytbpikbcnpmplfaa
open Go.RowKit
set_option linter.unusedVariables false
set_option linter.unusedSimpArgs false
attribute [local go_sem ↓] Go.wp_at_zero Go.wp_at_succ
open Ss3
theorem yfF_no {f : Flr} (h : yfB f = false) : yfF f = zeroF ∧ yfB f = false := ⟨by unfold yfF; rw [h]; rfl, h⟩
theorem sfF_no {f : Flr} {k : Int} (h : sfB f k = false) : sfF f k = zeroF ∧ sfN f k = 0 ∧ sfB f k = false := ⟨by unfold sfF; rw [h]; rfl, by unfold sfN; rw [h]; rfl, h⟩
/-- A call that returns a floor of its own, a number and a Bool. -/
def ToFNB (w : World) (f : Flr) (n : Int) (ok : Bool) (e : Ending) (w' : World) : Prop := ∃ (A : Option Addr) (c : Nat) (D : Option Addr) (d : Nat), e = .returned (.tuple #[.agg #[.int .i64 f.t, .int .i64 f.s, .int .i64 f.sp, .slice A f.wt.length c, .slice D f.sh.length d], .int .i64 n, .bool ok]) ∧ Ow IntK 3 w.heap.size w'.heap.size w' A c f.wt ∧ Ow ShareK 43 w.heap.size w'.heap.size w' D d f.sh ∧ Below w.heap.size w w'
theorem ToFNB.none_ {w w' : World} {f : Flr} {n : Int} {ok : Bool} (hf : f = zeroF ∧ n = 0 ∧ ok = false) (hb : Below w.heap.size w w') : ToFNB w f n ok (.returned (.tuple #[.agg #[.int .i64 0, .int .i64 0, .int .i64 0, .slice none 0 0, .slice none 0 0], .int .i64 0, .bool false])) w' := by
  obtain ⟨h1, h2, h3⟩ := hf
  subst h1 h2 h3
  exact ⟨none, 0, none, 0, rfl, ow_nil, ow_nil, hb⟩
set_option maxHeartbeats 16000000 in
set_option maxRecDepth 100000 in
theorem YieldFloor_any (A D : Option Addr) (c d : Nat) (f : Flr) (w : World) (ha : Cells w A (IntK.row f.wt)) (hm0 : f.wt.length ≤ 1048576) (hcc : f.wt.length ≤ c) (hd : Cells w D (ShareK.row f.sh)) (hn : f.sh.length ≤ 1048576) :
    Calls Try.prog 10 #[.agg #[.int .i64 f.t, .int .i64 f.s, .int .i64 f.sp, .slice A f.wt.length c, .slice D f.sh.length d]] w (ToFB w (yfF f) (yfB f)) := by
  have HA := Lib.hid ha
  have HD := Lib.hid hd
  clear ha hd
  have N0 := Lib.hid ((BoxF.new5 w (.int .i64 f.t) (.int .i64 f.s) (.int .i64 f.sp) (.slice A f.wt.length c) (.slice D f.sh.length d) 29 w.heap.size rfl).below (below1 (w.alloc (.cells #[.int .i64 f.t, .int .i64 f.s, .int .i64 f.sp, .slice A f.wt.length c, .slice D f.sh.length d] 29)) (.cells #[.int .i64 0, .int .i64 0, .int .i64 0, .slice none 0 0, .slice none 0 0] 29)) (by simp))
  have N2 := Lib.hid (BoxF.new5 (w.alloc (.cells #[.int .i64 f.t, .int .i64 f.s, .int .i64 f.sp, .slice A f.wt.length c, .slice D f.sh.length d] 29)) (.int .i64 0) (.int .i64 0) (.int .i64 0) (.slice none 0 0) (.slice none 0 0) 29 (w.heap.size + 1) (by simp))
  have HB := Lib.hid (below2 w (.cells #[.int .i64 f.t, .int .i64 f.s, .int .i64 f.sp, .slice A f.wt.length c, .slice D f.sh.length d] 29) (.cells #[.int .i64 0, .int .i64 0, .int .i64 0, .slice none 0 0, .slice none 0 0] 29))
  have hs : w.heap.size + 2 ≤ ((w.alloc (.cells #[.int .i64 f.t, .int .i64 f.s, .int .i64 f.sp, .slice A f.wt.length c, .slice D f.sh.length d] 29)).alloc (.cells #[.int .i64 0, .int .i64 0, .int .i64 0, .slice none 0 0, .slice none 0 0] 29)).heap.size := by simp
  go_enter Try.func10, Try.ntmps10
  go_wp2_with fail
  generalize ((w.alloc (.cells #[.int .i64 f.t, .int .i64 f.s, .int .i64 f.sp, .slice A f.wt.length c, .slice D f.sh.length d] 29)).alloc (.cells #[.int .i64 0, .int .i64 0, .int .i64 0, .slice none 0 0, .slice none 0 0] 29)) = W at *
  refine (IsValidFloor_any A D c d f W (HA.out.below HB.out) hm0 hcc (HD.out.below HB.out) hn).mono ?_
  rintro e w1 ⟨rfl, hb⟩
  have N0 := Lib.hid (N0.out.below hb (by omega))
  have N2 := Lib.hid (N2.out.below hb (by omega))
  have HB := Lib.hid (HB.out.trans (hb.mono HB.out.size))
  have hs := Nat.le_trans hs hb.size
  clear hb
  rcases Bool.eq_false_or_eq_true (vldF f) with hv | hv
  · rw [hv]
    have e02 := N0.out.1 2 _ rfl
    by_cases h0 : f.sp = 0
    · have HNO := Lib.hid (yfF_no (show yfB f = false by unfold yfB; rw [h0]; simp))
      have h00 : (f.sp == 0) = true := by simp [h0]
      have e20 := N2.out.1 0 _ rfl
      have e21 := N2.out.1 1 _ rfl
      have e22 := N2.out.1 2 _ rfl
      have e23 := N2.out.1 3 _ rfl
      have e24 := N2.out.1 4 _ rfl
      have f20 := N2.out.2 0
      have f21 := N2.out.2 1
      have f22 := N2.out.2 2
      have f23 := N2.out.2 3
      have f24 := N2.out.2 4
      go_wp2
      have KS := N2.out.set5 (.int .i64 0) (.int .i64 0) (.int .i64 0) (.slice none 0 0) (.slice none 0 0)
      have k0 := KS.1 0 _ rfl
      have k1 := KS.1 1 _ rfl
      have k2 := KS.1 2 _ rfl
      have k3 := KS.1 3 _ rfl
      have k4 := KS.1 4 _ rfl
      refine bodyPost_ret (v := .tuple #[.agg #[.int .i64 0, .int .i64 0, .int .i64 0, .slice none 0 0, .slice none 0 0], .bool false]) (by simp [results, Try.results10, go_sem, k0, k1, k2, k3, k4]) rfl (ToFB.none_ HNO.out.1 HNO.out.2 (below_set5 HB.out (by omega) _ _ _ _ _))
    · have HLB := Lib.hid (show yfB f = true by unfold yfB; rw [hv]; simp [h0])
      have HLV := Lib.hid (show yfF f = yieF f by unfold yfF; rw [HLB.out]; rfl)
      have h00 : (f.sp == 0) = false := by simp [h0]
      have HSL := Lib.hid (shsB_len (vldF_parts hv).2.2.2.2.1)
      have HBD := Lib.hid (shOf_bd hv f.sp)
      have h10 : f.wt.length ≤ 10 := (vldF_parts hv).2.2.2.1
      clear hv h0
      clear e02
      have e00 := N0.out.1 0 _ rfl
      have e01 := N0.out.1 1 _ rfl
      have e02 := N0.out.1 2 _ rfl
      have e03 := N0.out.1 3 _ rfl
      have e04 := N0.out.1 4 _ rfl
      go_wp2_with fail
      refine (newFloor_any A D c d f _ (HA.out.below HB.out) hm0 (HD.out.below HB.out) hn).mono ?_
      rintro e w2 ⟨A1, c1, D1, d1, rfl, o1, o2, hb⟩
      clear e00 e01 e02 e03 e04
      have hlo : w.heap.size + 2 ≤ w1.heap.size := hs
      have hw12 := hb.size
      have N0 := Lib.hid (N0.out.below hb (by omega))
      have N2 := Lib.hid (N2.out.below hb (by omega))
      have HB := Lib.hid (HB.out.trans (hb.mono HB.out.size))
      have hs := Nat.le_trans hs hb.size
      have HO1 := Lib.hid o1.1
      have HO2 := Lib.hid o2.1
      clear hb o1 o2
      have N6 := Lib.hid (BoxF.new5 w2 (.int .i64 f.t) (.int .i64 f.s) (.int .i64 f.sp) (.slice A1 f.wt.length c1) (.slice D1 f.sh.length d1) 29 w2.heap.size rfl)
      have HT6 := Lib.hid (show Ty (w2.alloc (.cells #[.int .i64 f.t, .int .i64 f.s, .int .i64 f.sp, .slice A1 f.wt.length c1, .slice D1 f.sh.length d1] 29)) w2.heap.size 29 from ⟨_, _, heap_alloc_new w2 _⟩)
      have hb := below1 w2 (.cells #[.int .i64 f.t, .int .i64 f.s, .int .i64 f.sp, .slice A1 f.wt.length c1, .slice D1 f.sh.length d1] 29)
      have HO1 := Lib.hid (own_keep HO1.out hb)
      have HO2 := Lib.hid (own_keep HO2.out hb)
      have hq6 : w1.heap.size ≤ w2.heap.size := hw12
      go_upto_region 4 with fail
      have hV : w2.heap.size < (w2.alloc (.cells #[.int .i64 f.t, .int .i64 f.s, .int .i64 f.sp, .slice A1 f.wt.length c1, .slice D1 f.sh.length d1] 29)).heap.size := by simp
      generalize (w2.alloc (.cells #[.int .i64 f.t, .int .i64 f.s, .int .i64 f.sp, .slice A1 f.wt.length c1, .slice D1 f.sh.length d1] 29)) = V at *
      have N2 := Lib.hid (N2.out.below hb (by omega))
      have HB := Lib.hid (HB.out.trans (hb.mono HB.out.size))
      have hs := Nat.le_trans hs hb.size
      clear hb
      generalize w2.heap.size = q6 at *
      go_wp2_with fail
      refine (yield_any q6 w1.heap.size A1 c1 D1 d1 f V N6.out HT6.out HO2.out (by have := HSL.out; omega) (by omega) HBD.out.1 (by have := HBD.out; omega)).mono ?_
      rintro e w3 ⟨D2, d2, rfl, hb3, ht3, own3, tw3⟩
      have hoff := HT6.out.off HO1.out (by decide)
      have hb := tw3.below (B := w1.heap.size) (by omega) (fun q hq => (HO2.out.lt q hq).1) (by omega)
      have HO1 := Lib.hid (tw3.row HO1.out hoff (fun g hg hx => own_apart HO1.out HO2.out (by decide) g hg hx))
      have N6 := Lib.hid hb3
      have HT6 := Lib.hid ht3
      have HO2 := Lib.hid own3
      clear hoff hb3 ht3 own3 tw3
      have N2 := Lib.hid (N2.out.below hb (by omega))
      have HB := Lib.hid (HB.out.trans (hb.mono (by omega)))
      have hV3 := hb.size
      clear hb
      have e20 := N2.out.1 0 _ rfl
      have e21 := N2.out.1 1 _ rfl
      have e22 := N2.out.1 2 _ rfl
      have e23 := N2.out.1 3 _ rfl
      have e24 := N2.out.1 4 _ rfl
      have f20 := N2.out.2 0
      have f21 := N2.out.2 1
      have f22 := N2.out.2 2
      have f23 := N2.out.2 3
      have f24 := N2.out.2 4
      have e60 := N6.out.1 0 _ rfl
      have e61 := N6.out.1 1 _ rfl
      have e62 := N6.out.1 2 _ rfl
      have e63 := N6.out.1 3 _ rfl
      have e64 := N6.out.1 4 _ rfl
      have f60 := N6.out.2 0
      have f61 := N6.out.2 1
      have f62 := N6.out.2 2
      have f63 := N6.out.2 3
      have f64 := N6.out.2 4
      go_wp2
      clear e20 e21 e22 e23 e24 e60 e61 e62 e63 e64 f20 f21 f22 f23 f24 f60 f61 f62 f63 f64
      have KS := N2.out.set5 (.int .i64 (yieF f).t) (.int .i64 (yieF f).s) (.int .i64 (yieF f).sp) (.slice A1 (yieF f).wt.length c1) (.slice D2 (yieF f).sh.length d2)
      have k0 := KS.1 0 _ rfl
      have k1 := KS.1 1 _ rfl
      have k2 := KS.1 2 _ rfl
      have k3 := KS.1 3 _ rfl
      have k4 := KS.1 4 _ rfl
      clear KS
      have G1 := Lib.hid (show World.ownsRow (((((w3.setCell ⟨w.heap.size + 1, 0, none⟩ (.int .i64 (yieF f).t)).setCell ⟨w.heap.size + 1, 1, none⟩ (.int .i64 (yieF f).s)).setCell ⟨w.heap.size + 1, 2, none⟩ (.int .i64 (yieF f).sp)).setCell ⟨w.heap.size + 1, 3, none⟩ (.slice A1 (yieF f).wt.length c1)).setCell ⟨w.heap.size + 1, 4, none⟩ (.slice D2 (yieF f).sh.length d2)) w.heap.size 3 IntK.sz (.slice A1 (yieF f).wt.length c1) (yieF f).wt.length (IntK.row (yieF f).wt) from own_fin_old5 (L := w.heap.size) HO1.out (by omega) (show w.heap.size + 1 < w1.heap.size by omega) (.int .i64 (yieF f).t) (.int .i64 (yieF f).s) (.int .i64 (yieF f).sp) (.slice A1 (yieF f).wt.length c1) (.slice D2 (yieF f).sh.length d2))
      have G2 := Lib.hid (show World.ownsRow (((((w3.setCell ⟨w.heap.size + 1, 0, none⟩ (.int .i64 (yieF f).t)).setCell ⟨w.heap.size + 1, 1, none⟩ (.int .i64 (yieF f).s)).setCell ⟨w.heap.size + 1, 2, none⟩ (.int .i64 (yieF f).sp)).setCell ⟨w.heap.size + 1, 3, none⟩ (.slice A1 (yieF f).wt.length c1)).setCell ⟨w.heap.size + 1, 4, none⟩ (.slice D2 (yieF f).sh.length d2)) w.heap.size 43 ShareK.sz (.slice D2 (yieF f).sh.length d2) (yieF f).sh.length (ShareK.row (yieF f).sh) from own_fin_old5 (L := w.heap.size) HO2.out (by omega) (show w.heap.size + 1 < w1.heap.size by omega) (.int .i64 (yieF f).t) (.int .i64 (yieF f).s) (.int .i64 (yieF f).sp) (.slice A1 (yieF f).wt.length c1) (.slice D2 (yieF f).sh.length d2))
      have G3 := Lib.hid (show Below w.heap.size w (((((w3.setCell ⟨w.heap.size + 1, 0, none⟩ (.int .i64 (yieF f).t)).setCell ⟨w.heap.size + 1, 1, none⟩ (.int .i64 (yieF f).s)).setCell ⟨w.heap.size + 1, 2, none⟩ (.int .i64 (yieF f).sp)).setCell ⟨w.heap.size + 1, 3, none⟩ (.slice A1 (yieF f).wt.length c1)).setCell ⟨w.heap.size + 1, 4, none⟩ (.slice D2 (yieF f).sh.length d2)) from below_set5 HB.out (show w.heap.size ≤ w.heap.size + 1 by omega) (.int .i64 (yieF f).t) (.int .i64 (yieF f).s) (.int .i64 (yieF f).sp) (.slice A1 (yieF f).wt.length c1) (.slice D2 (yieF f).sh.length d2))
      have G4 : (yieF f).sh.length ≤ 1048576 := by have := putS_len ⟨(shOf f.sp f.sh).m, (shOf f.sp f.sh).t + 1, (shOf f.sp f.sh).s⟩ f.sh; have := HSL.out; show (putS _ _).length ≤ _; omega
      have G5 : (yieF f).wt.length ≤ 1048576 := by show f.wt.length ≤ _; omega
      generalize (((((w3.setCell ⟨w.heap.size + 1, 0, none⟩ (.int .i64 (yieF f).t)).setCell ⟨w.heap.size + 1, 1, none⟩ (.int .i64 (yieF f).s)).setCell ⟨w.heap.size + 1, 2, none⟩ (.int .i64 (yieF f).sp)).setCell ⟨w.heap.size + 1, 3, none⟩ (.slice A1 (yieF f).wt.length c1)).setCell ⟨w.heap.size + 1, 4, none⟩ (.slice D2 (yieF f).sh.length d2)) = W9 at k0 k1 k2 k3 k4 G1 G2 G3 ⊢
      refine bodyPost_ret (v := .tuple #[.agg #[.int .i64 (yieF f).t, .int .i64 (yieF f).s, .int .i64 (yieF f).sp, .slice A1 (yieF f).wt.length c1, .slice D2 (yieF f).sh.length d2], .bool true]) (by simp [results, Try.results10, go_sem, k0, k1, k2, k3, k4]) rfl ?_
      clear k0 k1 k2 k3 k4
      rw [HLB.out, HLV.out]
      refine ⟨A1, c1, D2, d2, rfl, ?_, ?_, ?_⟩
      · exact Ow.mk (K := IntK) G1.out G5 (fun _ _ => trivial)
      · exact Ow.mk (K := ShareK) G2.out G4 (fun _ _ => trivial)
      · exact G3.out
  · rw [hv]
    have HNO := Lib.hid (yfF_no (show yfB f = false by unfold yfB; rw [hv]; rfl))
    have e20 := N2.out.1 0 _ rfl
    have e21 := N2.out.1 1 _ rfl
    have e22 := N2.out.1 2 _ rfl
    have e23 := N2.out.1 3 _ rfl
    have e24 := N2.out.1 4 _ rfl
    have f20 := N2.out.2 0
    have f21 := N2.out.2 1
    have f22 := N2.out.2 2
    have f23 := N2.out.2 3
    have f24 := N2.out.2 4
    go_wp2
    have KS := N2.out.set5 (.int .i64 0) (.int .i64 0) (.int .i64 0) (.slice none 0 0) (.slice none 0 0)
    have k0 := KS.1 0 _ rfl
    have k1 := KS.1 1 _ rfl
    have k2 := KS.1 2 _ rfl
    have k3 := KS.1 3 _ rfl
    have k4 := KS.1 4 _ rfl
    refine bodyPost_ret (v := .tuple #[.agg #[.int .i64 0, .int .i64 0, .int .i64 0, .slice none 0 0, .slice none 0 0], .bool false]) (by simp [results, Try.results10, go_sem, k0, k1, k2, k3, k4]) rfl (ToFB.none_ HNO.out.1 HNO.out.2 (below_set5 HB.out (by omega) _ _ _ _ _))
end Go.Proofs.Ytbpikbcnpmplfaa
