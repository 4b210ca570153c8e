/- The laws' helpers on proposals. Conditions: the ranges named. -/
import Derived.Test.YthohogimhijbdaaDk1
import Derived.Deep.Cut
import Derived.Deep.DeepCutAuto
namespace Go.Proofs.Ythohogimhijbdaa
open Go.RowKit
set_option linter.unusedVariables false
set_option linter.unusedSimpArgs false
set_option maxHeartbeats 2000000 in
theorem toProposal_any {X : Nat} (A : Option Addr) (c : Nat) (i t : Int) (a : Amd) (w : World) (h : RdS X w A c a.ws) (hX : X ≤ w.heap.size) :
    Calls Try.prog 35 #[.agg #[.int .i64 i, .int .i64 a.k, .int .i64 a.p, .int .i64 a.n, .slice A a.ws.length c, .int .i64 t]] w fun e w' => ∃ (B : Option Addr) (d : Nat), e = .returned (.agg #[.int .i64 i, .int .i64 a.k, .int .i64 a.p, .int .i64 a.n, .slice B a.ws.length d, .int .i64 t]) ∧ OwS w.heap.size w'.heap.size w' B d a.ws ∧ Below w.heap.size w w' := by
  have HB := Lib.hid ((below2 w (.cells #[.int .i64 i, .int .i64 a.k, .int .i64 a.p, .int .i64 a.n, .slice A a.ws.length c, .int .i64 t] 52) (.cells #[.int .i64 0, .int .i64 0, .int .i64 0, .int .i64 0, .slice none 0 0, .int .i64 0] 55)).trans ((below1 _ (.cells #[.int .i64 i, .int .i64 0, .int .i64 0, .int .i64 0, .slice none 0 0, .int .i64 0] 55)).mono (by simp; omega)))
  have N1 := Lib.hid (((show BoxF (w.alloc (.cells #[.int .i64 i, .int .i64 a.k, .int .i64 a.p, .int .i64 a.n, .slice A a.ws.length c, .int .i64 t] 52)) w.heap.size [.int .i64 i, .int .i64 a.k, .int .i64 a.p, .int .i64 a.n, .slice A a.ws.length c, .int .i64 t] from BoxF.new' w _ _ _ rfl).below (below1 _ (.cells #[.int .i64 0, .int .i64 0, .int .i64 0, .int .i64 0, .slice none 0 0, .int .i64 0] 55)) (by simp)).below (below1 _ (.cells #[.int .i64 i, .int .i64 0, .int .i64 0, .int .i64 0, .slice none 0 0, .int .i64 0] 55)) (by simp; omega))
  have N2 := Lib.hid ((show BoxF ((w.alloc (.cells #[.int .i64 i, .int .i64 a.k, .int .i64 a.p, .int .i64 a.n, .slice A a.ws.length c, .int .i64 t] 52)).alloc (.cells #[.int .i64 0, .int .i64 0, .int .i64 0, .int .i64 0, .slice none 0 0, .int .i64 0] 55)) (w.heap.size + 1) [.int .i64 0, .int .i64 0, .int .i64 0, .int .i64 0, .slice none 0 0, .int .i64 0] from BoxF.new' _ _ _ _ (by simp)).below (below1 _ (.cells #[.int .i64 i, .int .i64 0, .int .i64 0, .int .i64 0, .slice none 0 0, .int .i64 0] 55)) (by simp))
  have N3 := Lib.hid (show BoxF (((w.alloc (.cells #[.int .i64 i, .int .i64 a.k, .int .i64 a.p, .int .i64 a.n, .slice A a.ws.length c, .int .i64 t] 52)).alloc (.cells #[.int .i64 0, .int .i64 0, .int .i64 0, .int .i64 0, .slice none 0 0, .int .i64 0] 55)).alloc (.cells #[.int .i64 i, .int .i64 0, .int .i64 0, .int .i64 0, .slice none 0 0, .int .i64 0] 55)) (w.heap.size + 1 + 1) [.int .i64 i, .int .i64 0, .int .i64 0, .int .i64 0, .slice none 0 0, .int .i64 0] from BoxF.new' _ _ _ _ (by simp))
  have hz : w.heap.size + 2 < (((w.alloc (.cells #[.int .i64 i, .int .i64 a.k, .int .i64 a.p, .int .i64 a.n, .slice A a.ws.length c, .int .i64 t] 52)).alloc (.cells #[.int .i64 0, .int .i64 0, .int .i64 0, .int .i64 0, .slice none 0 0, .int .i64 0] 55)).alloc (.cells #[.int .i64 i, .int .i64 0, .int .i64 0, .int .i64 0, .slice none 0 0, .int .i64 0] 55)).heap.size := by simp
  have HR := Lib.hid (h.below HB.out hX)
  clear h
  go_enter Try.func35, Try.ntmps35
  go_wp2_with fail
  generalize (((w.alloc (.cells #[.int .i64 i, .int .i64 a.k, .int .i64 a.p, .int .i64 a.n, .slice A a.ws.length c, .int .i64 t] 52)).alloc (.cells #[.int .i64 0, .int .i64 0, .int .i64 0, .int .i64 0, .slice none 0 0, .int .i64 0] 55)).alloc (.cells #[.int .i64 i, .int .i64 0, .int .i64 0, .int .i64 0, .slice none 0 0, .int .i64 0] 55)) = W at *
  refine (toA_abs HR.out).mono ?_
  rintro e w1 ⟨B, d, rfl, ow, hb⟩
  have HO := Lib.hid ow
  have HB1 := Lib.hid (after HB.out hb)
  have M1 := N1.out.below hb (by omega)
  have M2 := N2.out.below hb (by omega)
  have M3 := N3.out.below hb (by omega)
  have d1 := M3.1 1 _ rfl
  have df1 := M3.2 1
  have d2 := M3.1 2 _ rfl
  have df2 := M3.2 2
  have d3 := M3.1 3 _ rfl
  have df3 := M3.2 3
  have d4 := M3.1 4 _ rfl
  have df4 := M3.2 4
  have hs1 : W.heap.size ≤ w1.heap.size := hb.size
  have hst : Below (w.heap.size + 1 + 1) w1 ((((w1.setCell ⟨w.heap.size + 1 + 1, 1, none⟩ (.int .i64 a.k)).setCell ⟨w.heap.size + 1 + 1, 2, none⟩ (.int .i64 a.p)).setCell ⟨w.heap.size + 1 + 1, 3, none⟩ (.int .i64 a.n)).setCell ⟨w.heap.size + 1 + 1, 4, none⟩ (.slice B a.ws.length d)) := by
    refine Below.setCell (Below.setCell (Below.setCell (Below.setCell (Below.refl _ _) ?_ _) ?_ _) ?_ _) ?_ _ <;> exact Nat.le_refl _
  have NA := Lib.hid (M1.below hst (by omega))
  have NB := Lib.hid (M2.below hst (by omega))
  have NC := Lib.hid ((((M3.set (k := 1) (by simp) (.int .i64 a.k)).set (k := 2) (by simp) (.int .i64 a.p)).set (k := 3) (by simp) (.int .i64 a.n)).set (k := 4) (by simp) (.slice B a.ws.length d))
  have hl1 : w.heap.size + 1 < W.heap.size := by omega
  have hl2 : w.heap.size + 1 + 1 < W.heap.size := by omega
  have hl3 : w.heap.size ≤ W.heap.size := by omega
  have HOW := Lib.hid (own_stay HO.out.1 HO.out.2.1 (show Keep W.heap.size w1.heap.size w1 ((((w1.setCell ⟨w.heap.size + 1 + 1, 1, none⟩ (.int .i64 a.k)).setCell ⟨w.heap.size + 1 + 1, 2, none⟩ (.int .i64 a.p)).setCell ⟨w.heap.size + 1 + 1, 3, none⟩ (.int .i64 a.n)).setCell ⟨w.heap.size + 1 + 1, 4, none⟩ (.slice B a.ws.length d)) by (repeat (first | with_reducible exact Keep.rfl_ | with_reducible refine Keep.drew ?_ | with_reducible refine Keep.set ?_ (.inl ?_) _)) <;> exact hl2))
  have HBW := Lib.hid (show Below w.heap.size w ((((w1.setCell ⟨w.heap.size + 1 + 1, 1, none⟩ (.int .i64 a.k)).setCell ⟨w.heap.size + 1 + 1, 2, none⟩ (.int .i64 a.p)).setCell ⟨w.heap.size + 1 + 1, 3, none⟩ (.int .i64 a.n)).setCell ⟨w.heap.size + 1 + 1, 4, none⟩ (.slice B a.ws.length d)) from HB1.out.trans (hst.mono (by omega)))
  have hsz4 : w1.heap.size ≤ ((((w1.setCell ⟨w.heap.size + 1 + 1, 1, none⟩ (.int .i64 a.k)).setCell ⟨w.heap.size + 1 + 1, 2, none⟩ (.int .i64 a.p)).setCell ⟨w.heap.size + 1 + 1, 3, none⟩ (.int .i64 a.n)).setCell ⟨w.heap.size + 1 + 1, 4, none⟩ (.slice B a.ws.length d)).heap.size := by simp
  clear M1 M2 M3 hb ow hst
  go_upto_region 4 with fail
  generalize ((((w1.setCell ⟨w.heap.size + 1 + 1, 1, none⟩ (.int .i64 a.k)).setCell ⟨w.heap.size + 1 + 1, 2, none⟩ (.int .i64 a.p)).setCell ⟨w.heap.size + 1 + 1, 3, none⟩ (.int .i64 a.n)).setCell ⟨w.heap.size + 1 + 1, 4, none⟩ (.slice B a.ws.length d)) = Wa at *
  have a5 := NA.out.1 5 _ rfl
  have d5 := NC.out.1 5 _ rfl
  have df5 := NC.out.2 5
  have hst : Below (w.heap.size + 1 + 1) Wa (Wa.setCell ⟨w.heap.size + 1 + 1, 5, none⟩ (.int .i64 t)) := Below.setCell (p := ⟨w.heap.size + 1 + 1, 5, none⟩) (Below.refl _ _) (Nat.le_refl _) _
  have NB := Lib.hid (NB.out.below hst (by omega))
  have NC := Lib.hid (NC.out.set (k := 5) (by simp) (.int .i64 t))
  have HOW := Lib.hid (own_stay HOW.out HO.out.2.1 (show Keep W.heap.size w1.heap.size Wa (Wa.setCell ⟨w.heap.size + 1 + 1, 5, none⟩ (.int .i64 t)) from Keep.rfl_.set (p := ⟨w.heap.size + 1 + 1, 5, none⟩) (.inl hl2) _))
  have HBW := Lib.hid (HBW.out.trans (hst.mono (by omega)))
  have hsz5 : w1.heap.size ≤ (Wa.setCell ⟨w.heap.size + 1 + 1, 5, none⟩ (.int .i64 t)).heap.size := by simpa using hsz4
  clear hst
  go_upto_region 5 with fail
  generalize Wa.setCell ⟨w.heap.size + 1 + 1, 5, none⟩ (.int .i64 t) = Wb at *
  have x0 := NC.out.1 0 _ rfl
  have y0 := NB.out.1 0 _ rfl
  have yf0 := NB.out.2 0
  have x1 := NC.out.1 1 _ rfl
  have y1 := NB.out.1 1 _ rfl
  have yf1 := NB.out.2 1
  have x2 := NC.out.1 2 _ rfl
  have y2 := NB.out.1 2 _ rfl
  have yf2 := NB.out.2 2
  have x3 := NC.out.1 3 _ rfl
  have y3 := NB.out.1 3 _ rfl
  have yf3 := NB.out.2 3
  have x4 := NC.out.1 4 _ rfl
  have y4 := NB.out.1 4 _ rfl
  have yf4 := NB.out.2 4
  have x5 := NC.out.1 5 _ rfl
  have y5 := NB.out.1 5 _ rfl
  have yf5 := NB.out.2 5
  go_wp2
  have KS := NB.out.set6 (.int .i64 i) (.int .i64 a.k) (.int .i64 a.p) (.int .i64 a.n) (.slice B a.ws.length d) (.int .i64 t)
  have k0 := KS.1 0 _ rfl
  have k1 := KS.1 1 _ rfl
  have k2 := KS.1 2 _ rfl
  have k3 := KS.1 3 _ rfl
  have k4 := KS.1 4 _ rfl
  have k5 := KS.1 5 _ rfl
  refine bodyPost_ret (v := .agg #[.int .i64 i, .int .i64 a.k, .int .i64 a.p, .int .i64 a.n, .slice B a.ws.length d, .int .i64 t]) (by simp [results, Try.results35, go_sem, k0, k1, k2, k3, k4, k5]) rfl ?_
  refine ⟨B, d, rfl, ⟨own_mono (own_stay HOW.out HO.out.2.1 ?_) hl3, Under.mono HO.out.2.1 ?_, HO.out.2.2⟩, ?_⟩
  · (repeat (first | with_reducible exact Keep.rfl_ | with_reducible refine Keep.drew ?_ | with_reducible refine Keep.set ?_ (.inl ?_) _)) <;> (show w.heap.size + 1 < _; exact hl1)
  · simpa using hsz5
  · have hb9 := HBW.out
    have hs9 := HBW.out.size
    go_grown
end Go.Proofs.Ythohogimhijbdaa
