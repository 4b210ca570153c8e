/- LeaveWaiting, in the program and in the reference. Conditions: the ranges named. -/
import Derived.Test.YtbpikbcnpmplfaaLv4
import Derived.Test.YtbpikbcnpmplfaaSetc2
namespace Go.Proofs.Ytbpikbcnpmplfaa
open Go.RowKit
set_option linter.unusedVariables false
set_option linter.unusedSimpArgs false
theorem lv_before {f : Flr} {m : Int} {k : Nat} (hk : k < f.wt.length) (he : f.wt[k] = m) (hv : vldF f = true) : ∀ i (hi : i < f.wt.length), i < k → f.wt[i] ≠ m := fun i hi hik e => by
  obtain ⟨_, _, _, _, _, hw, _⟩ := vldF_parts hv
  have h3 := allN_yes.1 hw k hk
  rw [okWt_eq hk] at h3
  simp only [Bool.and_eq_true, Bool.not_eq_true'] at h3
  have h4 := h3.1.2
  unfold hasB at h4
  have h5 : f.wt[k] ∈ f.wt.take k := by rw [List.mem_take_iff_getElem]; exact ⟨i, by omega, e.trans he.symm⟩
  rw [List.contains_iff_mem.2 h5] at h4
  cases h4
set_option maxHeartbeats 2000000 in
theorem LeaveWaiting_any (A D : Option Addr) (c d : Nat) (f : Flr) (m : Int) (w : World) (ha : Cells w A (IntK.row f.wt)) (hm0 : f.wt.length ≤ 1048576) (hcc : f.wt.length ≤ c) (hd : Cells w D (ShareK.row f.sh)) (hn : f.sh.length ≤ 1048576) :
    Calls Try.prog 25 #[.agg #[.int .i64 f.t, .int .i64 f.s, .int .i64 f.sp, .slice A f.wt.length c, .slice D f.sh.length d], .int .i64 m] w (ToFB w (lvF f m) (lvB f m)) := by
  have HA := Lib.hid ha
  have HD := Lib.hid hd
  clear ha hd
  have N0 := Lib.hid ((BoxF.new5 w (.int .i64 f.t) (.int .i64 f.s) (.int .i64 f.sp) (.slice A f.wt.length c) (.slice D f.sh.length d) 29 w.heap.size rfl).below (below1 (w.alloc (.cells #[.int .i64 f.t, .int .i64 f.s, .int .i64 f.sp, .slice A f.wt.length c, .slice D f.sh.length d] 29)) (.cells #[.int .i64 0, .int .i64 0, .int .i64 0, .slice none 0 0, .slice none 0 0] 29)) (by simp))
  have N2 := Lib.hid (BoxF.new5 (w.alloc (.cells #[.int .i64 f.t, .int .i64 f.s, .int .i64 f.sp, .slice A f.wt.length c, .slice D f.sh.length d] 29)) (.int .i64 0) (.int .i64 0) (.int .i64 0) (.slice none 0 0) (.slice none 0 0) 29 (w.heap.size + 1) (by simp))
  have HB := Lib.hid (below2 w (.cells #[.int .i64 f.t, .int .i64 f.s, .int .i64 f.sp, .slice A f.wt.length c, .slice D f.sh.length d] 29) (.cells #[.int .i64 0, .int .i64 0, .int .i64 0, .slice none 0 0, .slice none 0 0] 29))
  have hs : w.heap.size + 2 ≤ ((w.alloc (.cells #[.int .i64 f.t, .int .i64 f.s, .int .i64 f.sp, .slice A f.wt.length c, .slice D f.sh.length d] 29)).alloc (.cells #[.int .i64 0, .int .i64 0, .int .i64 0, .slice none 0 0, .slice none 0 0] 29)).heap.size := by simp
  go_enter Try.func25, Try.ntmps25
  go_wp2_with fail
  generalize ((w.alloc (.cells #[.int .i64 f.t, .int .i64 f.s, .int .i64 f.sp, .slice A f.wt.length c, .slice D f.sh.length d] 29)).alloc (.cells #[.int .i64 0, .int .i64 0, .int .i64 0, .slice none 0 0, .slice none 0 0] 29)) = W at *
  refine (IsValidFloor_any A D c d f W (HA.out.below HB.out) hm0 hcc (HD.out.below HB.out) hn).mono ?_
  rintro e w1 ⟨rfl, hb⟩
  have N0 := Lib.hid (N0.out.below hb (by omega))
  have N2 := Lib.hid (N2.out.below hb (by omega))
  have HB := Lib.hid (HB.out.trans (hb.mono HB.out.size))
  have hs := Nat.le_trans hs hb.size
  clear hb
  rcases Bool.eq_false_or_eq_true (vldF f) with hv | hv
  · rw [hv]
    have e00 := N0.out.1 0 _ rfl
    have e01 := N0.out.1 1 _ rfl
    have e02 := N0.out.1 2 _ rfl
    have e03 := N0.out.1 3 _ rfl
    have e04 := N0.out.1 4 _ rfl
    go_wp2_with fail
    refine (containsInt_any A _ c f.wt m w1 rfl (HA.out.below HB.out) hm0).mono ?_
    rintro e w2 ⟨rfl, rfl⟩
    rcases Bool.eq_false_or_eq_true (hasB m f.wt) with hh | hh
    · rw [hh]
      have HLB := Lib.hid (show lvB f m = true by unfold lvB; rw [hv, hh]; rfl)
      obtain ⟨k, hk, hfi, hkm, hone, h10, hlv⟩ := lv_yes HLB.out
      have HLV := Lib.hid hlv
      have HONE := Lib.hid hone
      have HFI := Lib.hid hfi
      have HBF := Lib.hid (lv_before hk hkm hv)
      have HKM := Lib.hid hkm
      clear hlv hone hfi hkm hv hh
      go_wp2_with fail
      refine (newFloor_any A D c d f _ (HA.out.below HB.out) hm0 (HD.out.below HB.out) hn).mono ?_
      rintro e w2 ⟨A1, c1, D1, d1, rfl, o1, o2, hb⟩
      clear e00 e01 e02 e03 e04
      have hlo : w.heap.size + 2 ≤ w1.heap.size := hs
      have N0 := Lib.hid (N0.out.below hb (by omega))
      have N2 := Lib.hid (N2.out.below hb (by omega))
      have HB := Lib.hid (HB.out.trans (hb.mono HB.out.size))
      have hs := Nat.le_trans hs hb.size
      have HO2 := Lib.hid o2
      clear hb o1 o2
      have e00 := N0.out.1 0 _ rfl
      have e01 := N0.out.1 1 _ rfl
      have e02 := N0.out.1 2 _ rfl
      have e03 := N0.out.1 3 _ rfl
      have e04 := N0.out.1 4 _ rfl
      have M0 := N0.out.below (below1 w2 (.cells #[.int .i64 f.t, .int .i64 f.s, .int .i64 f.sp, .slice A1 f.wt.length c1, .slice D1 f.sh.length d1] 29)) (by omega)
      have m00 := M0.1 0 _ rfl
      have m01 := M0.1 1 _ rfl
      have m02 := M0.1 2 _ rfl
      have m03 := M0.1 3 _ rfl
      have m04 := M0.1 4 _ rfl
      clear M0
      go_wp2_with fail
      clear m00 m01 m02 m03 m04
      clear e00 e01 e02 e03 e04
      have N6 := Lib.hid (BoxF.new5 w2 (.int .i64 f.t) (.int .i64 f.s) (.int .i64 f.sp) (.slice A1 f.wt.length c1) (.slice D1 f.sh.length d1) 29 w2.heap.size rfl)
      have hb := below1 w2 (.cells #[.int .i64 f.t, .int .i64 f.s, .int .i64 f.sp, .slice A1 f.wt.length c1, .slice D1 f.sh.length d1] 29)
      have hg6 : w2.heap.size < (w2.alloc (.cells #[.int .i64 f.t, .int .i64 f.s, .int .i64 f.sp, .slice A1 f.wt.length c1, .slice D1 f.sh.length d1] 29)).heap.size := by simp
      have hlo2 := hs
      have hKD : Keep w1.heap.size w2.heap.size w2 (w2.alloc (.cells #[.int .i64 f.t, .int .i64 f.s, .int .i64 f.sp, .slice A1 f.wt.length c1, .slice D1 f.sh.length d1] 29)) := Keep.rfl_.alloc (Nat.le_refl _) _
      have KD := Lib.hid hKD
      clear hKD
      generalize (w2.alloc (.cells #[.int .i64 f.t, .int .i64 f.s, .int .i64 f.sp, .slice A1 f.wt.length c1, .slice D1 f.sh.length d1] 29)) = V at *
      have N2 := Lib.hid (N2.out.below hb (by omega))
      have HB := Lib.hid (HB.out.trans (hb.mono HB.out.size))
      have hs := Nat.le_trans hs hb.size
      clear hb
      refine (without_any A c k f.wt m V (HA.out.below HB.out) (by omega) hk HONE.out HFI.out).mono ?_
      rintro e w3 ⟨O, oc, rfl, o3, hb⟩
      have hg7 := Nat.lt_of_lt_of_le hg6 hb.size
      have KD := Lib.hid (KD.out.below hb (by omega))
      have HO3 := Lib.hid o3
      clear o3
      have hVs := hs
      have hV3 := hb.size
      have N2 := Lib.hid (N2.out.below hb (by omega))
      have HB := Lib.hid (HB.out.trans (hb.mono HB.out.size))
      have hs := Nat.le_trans hs hb.size
      have N6 := Lib.hid (N6.out.below hb (by omega))
      clear hb
      have e20 := N2.out.1 0 _ rfl
      have e21 := N2.out.1 1 _ rfl
      have e22 := N2.out.1 2 _ rfl
      have e23 := N2.out.1 3 _ rfl
      have e24 := N2.out.1 4 _ rfl
      have f20 := N2.out.2 0
      have f21 := N2.out.2 1
      have f22 := N2.out.2 2
      have f23 := N2.out.2 3
      have f24 := N2.out.2 4
      have e60 := N6.out.1 0 _ rfl
      have e61 := N6.out.1 1 _ rfl
      have e62 := N6.out.1 2 _ rfl
      have e63 := N6.out.1 3 _ rfl
      have e64 := N6.out.1 4 _ rfl
      have f60 := N6.out.2 0
      have f61 := N6.out.2 1
      have f62 := N6.out.2 2
      have f63 := N6.out.2 3
      have f64 := N6.out.2 4
      go_wp2
      clear e20 e21 e22 e23 e24 e60 e61 e62 e63 e64 f20 f21 f22 f23 f24 f60 f61 f62 f63 f64
      have NS := N6.out.set (k := 3) (by simp) (.slice O (cutAt k f.wt).length oc)
      have hb : Below w2.heap.size w3 (w3.setCell ⟨w2.heap.size, 3, none⟩ (.slice O (cutAt k f.wt).length oc)) := by go_grown
      have N2 := Lib.hid (N2.out.below hb (by omega))
      have KS := N2.out.set5 (.int .i64 f.t) (.int .i64 f.s) (.int .i64 f.sp) (.slice O (cutAt k f.wt).length oc) (.slice D1 f.sh.length d1)
      have k0 := KS.1 0 _ rfl
      have k1 := KS.1 1 _ rfl
      have k2 := KS.1 2 _ rfl
      have k3 := KS.1 3 _ rfl
      have k4 := KS.1 4 _ rfl
      refine bodyPost_ret (v := .tuple #[.agg #[.int .i64 f.t, .int .i64 f.s, .int .i64 f.sp, .slice O (cutAt k f.wt).length oc, .slice D1 f.sh.length d1], .bool true]) (by simp [results, Try.results25, go_sem, k0, k1, k2, k3, k4]) rfl ?_
      rw [HLB.out, HLV.out]
      have hb9 := HB.out
      refine ⟨O, oc, D1, d1, rfl, ((HO3.out.stay ((((((Keep.rfl_.set (.inl ?_) _).set (.inl ?_) _).set (.inl ?_) _).set (.inl ?_) _).set (.inl ?_) _).set (.inl ?_) _)).low (by omega)).high (by simp), ((HO2.out.stay ((((((KD.out.set (.inr ?_) _).set (.inl ?_) _).set (.inl ?_) _).set (.inl ?_) _).set (.inl ?_) _).set (.inl ?_) _)).low (by omega)).high (by simp; omega), ?_⟩
      all_goals first | (show _ < _; simp only []; omega) | (show _ ≤ _; simp only []; omega) | omega | exact Nat.le_refl _ | (go_grown; done)
    · rw [hh]
      have HLB := Lib.hid (show lvB f m = false by unfold lvB; rw [hh]; simp)
      have HNO := Lib.hid (lvF_no HLB.out)
      clear e00 e01 e02 e03 e04
      have e20 := N2.out.1 0 _ rfl
      have e21 := N2.out.1 1 _ rfl
      have e22 := N2.out.1 2 _ rfl
      have e23 := N2.out.1 3 _ rfl
      have e24 := N2.out.1 4 _ rfl
      have f20 := N2.out.2 0
      have f21 := N2.out.2 1
      have f22 := N2.out.2 2
      have f23 := N2.out.2 3
      have f24 := N2.out.2 4
      go_wp2
      have KS := N2.out.set5 (.int .i64 0) (.int .i64 0) (.int .i64 0) (.slice none 0 0) (.slice none 0 0)
      have k0 := KS.1 0 _ rfl
      have k1 := KS.1 1 _ rfl
      have k2 := KS.1 2 _ rfl
      have k3 := KS.1 3 _ rfl
      have k4 := KS.1 4 _ rfl
      refine bodyPost_ret (v := .tuple #[.agg #[.int .i64 0, .int .i64 0, .int .i64 0, .slice none 0 0, .slice none 0 0], .bool false]) (by simp [results, Try.results25, go_sem, k0, k1, k2, k3, k4]) rfl (ToFB.none_ HNO.out HLB.out ?_)
      have hb9 := HB.out
      go_grown
  · rw [hv]
    have HLB := Lib.hid (show lvB f m = false by unfold lvB; rw [hv]; rfl)
    have HNO := Lib.hid (lvF_no HLB.out)
    have e20 := N2.out.1 0 _ rfl
    have e21 := N2.out.1 1 _ rfl
    have e22 := N2.out.1 2 _ rfl
    have e23 := N2.out.1 3 _ rfl
    have e24 := N2.out.1 4 _ rfl
    have f20 := N2.out.2 0
    have f21 := N2.out.2 1
    have f22 := N2.out.2 2
    have f23 := N2.out.2 3
    have f24 := N2.out.2 4
    go_wp2
    have KS := N2.out.set5 (.int .i64 0) (.int .i64 0) (.int .i64 0) (.slice none 0 0) (.slice none 0 0)
    have k0 := KS.1 0 _ rfl
    have k1 := KS.1 1 _ rfl
    have k2 := KS.1 2 _ rfl
    have k3 := KS.1 3 _ rfl
    have k4 := KS.1 4 _ rfl
    refine bodyPost_ret (v := .tuple #[.agg #[.int .i64 0, .int .i64 0, .int .i64 0, .slice none 0 0, .slice none 0 0], .bool false]) (by simp [results, Try.results25, go_sem, k0, k1, k2, k3, k4]) rfl (ToFB.none_ HNO.out HLB.out ?_)
    have hb9 := HB.out
    go_grown
set_option maxHeartbeats 2000000 in
theorem sLeaveWaiting_any (A D : Option Addr) (c d : Nat) (f : Flr) (m : Int) (w : World) (ha : Cells w A (IntK.row f.wt)) (hm0 : f.wt.length ≤ 1048576) (hcc : f.wt.length ≤ c) (hd : Cells w D (ShareK.row f.sh)) (hn : f.sh.length ≤ 1048576) :
    Calls Try.prog 26 #[.agg #[.int .i64 f.t, .int .i64 f.s, .int .i64 f.sp, .slice A f.wt.length c, .slice D f.sh.length d], .int .i64 m] w (ToFB w (lvF f m) (lvB f m)) := by
  have HA := Lib.hid ha
  have HD := Lib.hid hd
  clear ha hd
  have N0 := Lib.hid ((BoxF.new5 w (.int .i64 f.t) (.int .i64 f.s) (.int .i64 f.sp) (.slice A f.wt.length c) (.slice D f.sh.length d) 29 w.heap.size rfl).below (below1 (w.alloc (.cells #[.int .i64 f.t, .int .i64 f.s, .int .i64 f.sp, .slice A f.wt.length c, .slice D f.sh.length d] 29)) (.cells #[.int .i64 0, .int .i64 0, .int .i64 0, .slice none 0 0, .slice none 0 0] 29)) (by simp))
  have N2 := Lib.hid (BoxF.new5 (w.alloc (.cells #[.int .i64 f.t, .int .i64 f.s, .int .i64 f.sp, .slice A f.wt.length c, .slice D f.sh.length d] 29)) (.int .i64 0) (.int .i64 0) (.int .i64 0) (.slice none 0 0) (.slice none 0 0) 29 (w.heap.size + 1) (by simp))
  have HB := Lib.hid (below2 w (.cells #[.int .i64 f.t, .int .i64 f.s, .int .i64 f.sp, .slice A f.wt.length c, .slice D f.sh.length d] 29) (.cells #[.int .i64 0, .int .i64 0, .int .i64 0, .slice none 0 0, .slice none 0 0] 29))
  have hs : w.heap.size + 2 ≤ ((w.alloc (.cells #[.int .i64 f.t, .int .i64 f.s, .int .i64 f.sp, .slice A f.wt.length c, .slice D f.sh.length d] 29)).alloc (.cells #[.int .i64 0, .int .i64 0, .int .i64 0, .slice none 0 0, .slice none 0 0] 29)).heap.size := by simp
  go_enter Try.func26, Try.ntmps26
  go_wp2_with fail
  generalize ((w.alloc (.cells #[.int .i64 f.t, .int .i64 f.s, .int .i64 f.sp, .slice A f.wt.length c, .slice D f.sh.length d] 29)).alloc (.cells #[.int .i64 0, .int .i64 0, .int .i64 0, .slice none 0 0, .slice none 0 0] 29)) = W at *
  refine (l8Good_any A D c d f W (HA.out.below HB.out) hm0 hcc (HD.out.below HB.out) hn).mono ?_
  rintro e w1 ⟨rfl, hb⟩
  have N0 := Lib.hid (N0.out.below hb (by omega))
  have N2 := Lib.hid (N2.out.below hb (by omega))
  have HB := Lib.hid (HB.out.trans (hb.mono HB.out.size))
  have hs := Nat.le_trans hs hb.size
  clear hb
  rcases Bool.eq_false_or_eq_true (vldF f) with hv | hv
  · rw [hv]
    have e00 := N0.out.1 0 _ rfl
    have e01 := N0.out.1 1 _ rfl
    have e02 := N0.out.1 2 _ rfl
    have e03 := N0.out.1 3 _ rfl
    have e04 := N0.out.1 4 _ rfl
    go_wp2_with fail
    refine (l1Has_any A _ c f.wt m w1 rfl (HA.out.below HB.out) hm0).mono ?_
    rintro e w2 ⟨rfl, rfl⟩
    rcases Bool.eq_false_or_eq_true (hasB m f.wt) with hh | hh
    · rw [hh]
      have HLB := Lib.hid (show lvB f m = true by unfold lvB; rw [hv, hh]; rfl)
      obtain ⟨k, hk, hfi, hkm, hone, h10, hlv⟩ := lv_yes HLB.out
      have HLV := Lib.hid hlv
      have HONE := Lib.hid hone
      have HFI := Lib.hid hfi
      have HBF := Lib.hid (lv_before hk hkm hv)
      have HKM := Lib.hid hkm
      clear hlv hone hfi hkm hv hh
      go_wp2_with fail
      refine (l8Own_any A D c d f _ (HA.out.below HB.out) hm0 (HD.out.below HB.out) hn).mono ?_
      rintro e w2 ⟨A1, c1, D1, d1, rfl, o1, o2, hb⟩
      clear e00 e01 e02 e03 e04
      have hlo : w.heap.size + 2 ≤ w1.heap.size := hs
      have N0 := Lib.hid (N0.out.below hb (by omega))
      have N2 := Lib.hid (N2.out.below hb (by omega))
      have HB := Lib.hid (HB.out.trans (hb.mono HB.out.size))
      have hs := Nat.le_trans hs hb.size
      have HO2 := Lib.hid o2
      clear hb o1 o2
      have e00 := N0.out.1 0 _ rfl
      have e01 := N0.out.1 1 _ rfl
      have e02 := N0.out.1 2 _ rfl
      have e03 := N0.out.1 3 _ rfl
      have e04 := N0.out.1 4 _ rfl
      have M0 := N0.out.below (below1 w2 (.cells #[.int .i64 f.t, .int .i64 f.s, .int .i64 f.sp, .slice A1 f.wt.length c1, .slice D1 f.sh.length d1] 29)) (by omega)
      have m00 := M0.1 0 _ rfl
      have m01 := M0.1 1 _ rfl
      have m02 := M0.1 2 _ rfl
      have m03 := M0.1 3 _ rfl
      have m04 := M0.1 4 _ rfl
      clear M0
      have HCW := Lib.hid ((HA.out.below HB.out).below (below1 w2 (.cells #[.int .i64 f.t, .int .i64 f.s, .int .i64 f.sp, .slice A1 f.wt.length c1, .slice D1 f.sh.length d1] 29)))
      go_wp2
      go_loop [7] (fun i => ∃ t : Nat, t ≤ k ∧ i = .int .i64 t) (fun i => k - (intOf i).toNat)
      case atStart => exact ⟨0, Nat.zero_le _, rfl⟩
      case round =>
        obtain ⟨t, ht, rfl⟩ := hrel
        obtain ⟨a, rfl, hct⟩ := int_at HCW.out (show t < f.wt.length by omega)
        have i1 : (t : Int) < (f.wt.length : Int) := by omega
        rcases Nat.lt_or_ge t k with hlt | hge
        · have hne : (f.wt[t] != m) = true := bne_iff_ne.2 (HBF.out t (by omega) hlt)
          have hne2 : ¬ f.wt[t] = m := HBF.out t (by omega) hlt
          go_wp2
          go_round
          case rel => exact ⟨t + 1, by omega, by go_num⟩
          case measure => simp [intOf]; omega
        · obtain rfl : t = k := by omega
          have hne : (f.wt[t] != m) = false := by rw [HKM.out]; simp
          rw [HKM.out] at hct
          clear hne
          go_wp2_with fail
          clear m00 m01 m02 m03 m04
          clear e00 e01 e02 e03 e04
          have N6 := Lib.hid (BoxF.new5 w2 (.int .i64 f.t) (.int .i64 f.s) (.int .i64 f.sp) (.slice A1 f.wt.length c1) (.slice D1 f.sh.length d1) 29 w2.heap.size rfl)
          have hb := below1 w2 (.cells #[.int .i64 f.t, .int .i64 f.s, .int .i64 f.sp, .slice A1 f.wt.length c1, .slice D1 f.sh.length d1] 29)
          have hg6 : w2.heap.size < (w2.alloc (.cells #[.int .i64 f.t, .int .i64 f.s, .int .i64 f.sp, .slice A1 f.wt.length c1, .slice D1 f.sh.length d1] 29)).heap.size := by simp
          have hlo2 := hs
          have hKD : Keep w1.heap.size w2.heap.size w2 (w2.alloc (.cells #[.int .i64 f.t, .int .i64 f.s, .int .i64 f.sp, .slice A1 f.wt.length c1, .slice D1 f.sh.length d1] 29)) := Keep.rfl_.alloc (Nat.le_refl _) _
          have KD := Lib.hid hKD
          clear hKD
          generalize (w2.alloc (.cells #[.int .i64 f.t, .int .i64 f.s, .int .i64 f.sp, .slice A1 f.wt.length c1, .slice D1 f.sh.length d1] 29)) = V at *
          have N2 := Lib.hid (N2.out.below hb (by omega))
          have HB := Lib.hid (HB.out.trans (hb.mono HB.out.size))
          have hs := Nat.le_trans hs hb.size
          clear hb
          refine (l8Without_any (some a) c t f.wt V (HA.out.below HB.out) (by omega) hcc hk).mono ?_
          rintro e w3 ⟨O, oc, rfl, o3, hb⟩
          have hg7 := Nat.lt_of_lt_of_le hg6 hb.size
          have KD := Lib.hid (KD.out.below hb (by omega))
          have HO3 := Lib.hid o3
          clear o3
          have hVs := hs
          have hV3 := hb.size
          have N2 := Lib.hid (N2.out.below hb (by omega))
          have HB := Lib.hid (HB.out.trans (hb.mono HB.out.size))
          have hs := Nat.le_trans hs hb.size
          have N6 := Lib.hid (N6.out.below hb (by omega))
          clear hb
          have e20 := N2.out.1 0 _ rfl
          have e21 := N2.out.1 1 _ rfl
          have e22 := N2.out.1 2 _ rfl
          have e23 := N2.out.1 3 _ rfl
          have e24 := N2.out.1 4 _ rfl
          have f20 := N2.out.2 0
          have f21 := N2.out.2 1
          have f22 := N2.out.2 2
          have f23 := N2.out.2 3
          have f24 := N2.out.2 4
          have e60 := N6.out.1 0 _ rfl
          have e61 := N6.out.1 1 _ rfl
          have e62 := N6.out.1 2 _ rfl
          have e63 := N6.out.1 3 _ rfl
          have e64 := N6.out.1 4 _ rfl
          have f60 := N6.out.2 0
          have f61 := N6.out.2 1
          have f62 := N6.out.2 2
          have f63 := N6.out.2 3
          have f64 := N6.out.2 4
          go_wp2
          clear e20 e21 e22 e23 e24 e60 e61 e62 e63 e64 f20 f21 f22 f23 f24 f60 f61 f62 f63 f64
          have NS := N6.out.set (k := 3) (by simp) (.slice O (cutAt t f.wt).length oc)
          have hb : Below w2.heap.size w3 (w3.setCell ⟨w2.heap.size, 3, none⟩ (.slice O (cutAt t f.wt).length oc)) := by go_grown
          have N2 := Lib.hid (N2.out.below hb (by omega))
          have KS := N2.out.set5 (.int .i64 f.t) (.int .i64 f.s) (.int .i64 f.sp) (.slice O (cutAt t f.wt).length oc) (.slice D1 f.sh.length d1)
          have k0 := KS.1 0 _ rfl
          have k1 := KS.1 1 _ rfl
          have k2 := KS.1 2 _ rfl
          have k3 := KS.1 3 _ rfl
          have k4 := KS.1 4 _ rfl
          refine bodyPost_ret (v := .tuple #[.agg #[.int .i64 f.t, .int .i64 f.s, .int .i64 f.sp, .slice O (cutAt t f.wt).length oc, .slice D1 f.sh.length d1], .bool true]) (by simp [results, Try.results26, go_sem, k0, k1, k2, k3, k4]) rfl ?_
          rw [HLB.out, HLV.out]
          have hb9 := HB.out
          refine ⟨O, oc, D1, d1, rfl, ((HO3.out.stay ((((((Keep.rfl_.set (.inl ?_) _).set (.inl ?_) _).set (.inl ?_) _).set (.inl ?_) _).set (.inl ?_) _).set (.inl ?_) _)).low (by omega)).high (by simp), ((HO2.out.stay ((((((KD.out.set (.inr ?_) _).set (.inl ?_) _).set (.inl ?_) _).set (.inl ?_) _).set (.inl ?_) _).set (.inl ?_) _)).low (by omega)).high (by simp; omega), ?_⟩
          all_goals first | (show _ < _; simp only []; omega) | (show _ ≤ _; simp only []; omega) | omega | exact Nat.le_refl _ | (go_grown; done)
    · rw [hh]
      have HLB := Lib.hid (show lvB f m = false by unfold lvB; rw [hh]; simp)
      have HNO := Lib.hid (lvF_no HLB.out)
      clear e00 e01 e02 e03 e04
      have e20 := N2.out.1 0 _ rfl
      have e21 := N2.out.1 1 _ rfl
      have e22 := N2.out.1 2 _ rfl
      have e23 := N2.out.1 3 _ rfl
      have e24 := N2.out.1 4 _ rfl
      have f20 := N2.out.2 0
      have f21 := N2.out.2 1
      have f22 := N2.out.2 2
      have f23 := N2.out.2 3
      have f24 := N2.out.2 4
      go_wp2
      have KS := N2.out.set5 (.int .i64 0) (.int .i64 0) (.int .i64 0) (.slice none 0 0) (.slice none 0 0)
      have k0 := KS.1 0 _ rfl
      have k1 := KS.1 1 _ rfl
      have k2 := KS.1 2 _ rfl
      have k3 := KS.1 3 _ rfl
      have k4 := KS.1 4 _ rfl
      refine bodyPost_ret (v := .tuple #[.agg #[.int .i64 0, .int .i64 0, .int .i64 0, .slice none 0 0, .slice none 0 0], .bool false]) (by simp [results, Try.results26, go_sem, k0, k1, k2, k3, k4]) rfl (ToFB.none_ HNO.out HLB.out ?_)
      have hb9 := HB.out
      go_grown
  · rw [hv]
    have HLB := Lib.hid (show lvB f m = false by unfold lvB; rw [hv]; rfl)
    have HNO := Lib.hid (lvF_no HLB.out)
    have e20 := N2.out.1 0 _ rfl
    have e21 := N2.out.1 1 _ rfl
    have e22 := N2.out.1 2 _ rfl
    have e23 := N2.out.1 3 _ rfl
    have e24 := N2.out.1 4 _ rfl
    have f20 := N2.out.2 0
    have f21 := N2.out.2 1
    have f22 := N2.out.2 2
    have f23 := N2.out.2 3
    have f24 := N2.out.2 4
    go_wp2
    have KS := N2.out.set5 (.int .i64 0) (.int .i64 0) (.int .i64 0) (.slice none 0 0) (.slice none 0 0)
    have k0 := KS.1 0 _ rfl
    have k1 := KS.1 1 _ rfl
    have k2 := KS.1 2 _ rfl
    have k3 := KS.1 3 _ rfl
    have k4 := KS.1 4 _ rfl
    refine bodyPost_ret (v := .tuple #[.agg #[.int .i64 0, .int .i64 0, .int .i64 0, .slice none 0 0, .slice none 0 0], .bool false]) (by simp [results, Try.results26, go_sem, k0, k1, k2, k3, k4]) rfl (ToFB.none_ HNO.out HLB.out ?_)
    have hb9 := HB.out
    go_grown
end Go.Proofs.Ytbpikbcnpmplfaa
