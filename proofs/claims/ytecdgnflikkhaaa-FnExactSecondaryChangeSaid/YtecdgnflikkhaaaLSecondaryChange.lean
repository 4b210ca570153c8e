/- The walk of the law on SecondaryChange: it returns true. Conditions: none. -/
import Derived.Test.YtecdgnflikkhaaaSec
import Derived.Test.YtecdgnflikkhaaaMk
import Derived.Deep.DrawnRows
namespace Go.Proofs.Ytecdgnflikkhaaa
open Go.RowKit
set_option linter.unusedVariables false
attribute [local go_sem ↓] Go.wp_at_zero Go.wp_at_succ

namespace fnExactSecondaryChange
set_option maxRecDepth 100000 in
set_option maxHeartbeats 4000000 in
theorem walk (AX00 : Option Addr) (cX00 : Nat) (a : Amd) (AX10 : Option Addr) (cX10 : Nat) (b : Amd) (w : World) (hc00 : ((a).ws).length ≤ cX00) (hr00 : Cells w AX00 (strs (a).ws)) (hn00 : ((a).ws).length ≤ maxLen) (hs00 : ∀ s ∈ (a).ws, s.size ≤ maxLen) (wk0 : (Lit.int .i64 a.k).wf = true) (wp0 : (Lit.int .i64 a.p).wf = true) (wn0 : (Lit.int .i64 a.n).wf = true) (hc10 : ((b).ws).length ≤ cX10) (hr10 : Cells w AX10 (strs (b).ws)) (hn10 : ((b).ws).length ≤ maxLen) (hs10 : ∀ s ∈ (b).ws, s.size ≤ maxLen) (wk1 : (Lit.int .i64 b.k).wf = true) (wp1 : (Lit.int .i64 b.p).wf = true) (wn1 : (Lit.int .i64 b.n).wf = true) :
    Calls Try.prog 12 #[.agg #[.int .i64 (a).k, .int .i64 (a).p, .int .i64 (a).n, .slice AX00 ((a).ws).length cX00], .agg #[.int .i64 (b).k, .int .i64 (b).p, .int .i64 (b).n, .slice AX10 ((b).ws).length cX10]] w fun e w' => e = .returned (.bool true) ∧ Below w.heap.size w w' := by
  have fX00_i := Lib.hid (show RdS0 w.heap.size w AX00 cX00 (a).ws from ⟨hc00, CellsB.of_cells hr00, hn00, hs00⟩)
  have fX10_i := Lib.hid (show RdS0 w.heap.size w AX10 cX10 (b).ws from ⟨hc10, CellsB.of_cells hr10, hn10, hs10⟩)
  clear hc00 hr00 hn00 hs00 wk0 wp0 wn0 hc10 hr10 hn10 hs10 wk1 wp1 wn1
  go_enter Try.func12, Try.ntmps12
  have t0 : Below w.heap.size w ((w.alloc (.cells #[.int .i64 (a).k, .int .i64 (a).p, .int .i64 (a).n, .slice AX00 ((a).ws).length cX00] 28)).alloc (.cells #[.int .i64 (b).k, .int .i64 (b).p, .int .i64 (b).n, .slice AX10 ((b).ws).length cX10] 28)) := by go_grown
  have nb0 : BoxL ((w.alloc (.cells #[.int .i64 (a).k, .int .i64 (a).p, .int .i64 (a).n, .slice AX00 ((a).ws).length cX00] 28)).alloc (.cells #[.int .i64 (b).k, .int .i64 (b).p, .int .i64 (b).n, .slice AX10 ((b).ws).length cX10] 28)).heap.size ((w.alloc (.cells #[.int .i64 (a).k, .int .i64 (a).p, .int .i64 (a).n, .slice AX00 ((a).ws).length cX00] 28)).alloc (.cells #[.int .i64 (b).k, .int .i64 (b).p, .int .i64 (b).n, .slice AX10 ((b).ws).length cX10] 28)) (w.heap.size) (#[.int .i64 (a).k, .int .i64 (a).p, .int .i64 (a).n, .slice AX00 ((a).ws).length cX00] : Array Value).toList := by
    refine ⟨by simp only [World.size_alloc]; omega, fun i v hi => ?_⟩
    have h1 := (BoxL.new w #[.int .i64 (a).k, .int .i64 (a).p, .int .i64 (a).n, .slice AX00 ((a).ws).length cX00] 28).2 i v hi
    simpa [go_sem] using h1
  have nb1 : BoxL ((w.alloc (.cells #[.int .i64 (a).k, .int .i64 (a).p, .int .i64 (a).n, .slice AX00 ((a).ws).length cX00] 28)).alloc (.cells #[.int .i64 (b).k, .int .i64 (b).p, .int .i64 (b).n, .slice AX10 ((b).ws).length cX10] 28)).heap.size ((w.alloc (.cells #[.int .i64 (a).k, .int .i64 (a).p, .int .i64 (a).n, .slice AX00 ((a).ws).length cX00] 28)).alloc (.cells #[.int .i64 (b).k, .int .i64 (b).p, .int .i64 (b).n, .slice AX10 ((b).ws).length cX10] 28)) (w.heap.size + 1) (#[.int .i64 (b).k, .int .i64 (b).p, .int .i64 (b).n, .slice AX10 ((b).ws).length cX10] : Array Value).toList := by
    refine ⟨by simp only [World.size_alloc]; omega, fun i v hi => ?_⟩
    have h1 := (BoxL.new (w.alloc (.cells #[.int .i64 (a).k, .int .i64 (a).p, .int .i64 (a).n, .slice AX00 ((a).ws).length cX00] 28)) #[.int .i64 (b).k, .int .i64 (b).p, .int .i64 (b).n, .slice AX10 ((b).ws).length cX10] 28).2 i v hi
    simpa using h1
  go_wp2_with fail
  generalize ((w.alloc (.cells #[.int .i64 (a).k, .int .i64 (a).p, .int .i64 (a).n, .slice AX00 ((a).ws).length cX00] 28)).alloc (.cells #[.int .i64 (b).k, .int .i64 (b).p, .int .i64 (b).n, .slice AX10 ((b).ws).length cX10] 28)) = w0 at *
  have bX0_0 := Lib.hid nb0
  have bX1_0 := Lib.hid nb1
  have T0 := Lib.hid t0
  clear t0
  have t0 := T0
  have fX00_0 := Lib.hid (fX00_i.out.below t0.out (Nat.le_refl _))
  have fX10_0 := Lib.hid (fX10_i.out.below t0.out (Nat.le_refl _))
  clear nb0 nb1 T0 fX00_i fX10_i
  refine (szA_abs (1048576) fX00_0.out.2.1.cells fX00_0.out.2.2 (by omega) (by omega)).mono ?_
  rintro e w1 ⟨rfl, hb⟩
  have t1 := Lib.hid (after t0.out hb)
  have s1 := Lib.hid hb.size
  have fX00_1 := Lib.hid (fX00_0.out.below hb t0.out.size)
  have bX0_1 := Lib.hid (bX0_0.out.below hb (Nat.le_refl _))
  have fX10_1 := Lib.hid (fX10_0.out.below hb t0.out.size)
  have bX1_1 := Lib.hid (bX1_0.out.below hb (Nat.le_refl _))
  clear fX00_0 bX0_0 fX10_0 bX1_0 hb
  rcases Int.lt_or_le (szF (a).ws (1048576)) 0 with hz | hz
  · go_wp2_with fail
    go_ret
    exact ⟨rfl, t1.out⟩
  have hz0 : ¬ szF (a).ws (1048576) < 0 := by omega
  obtain ⟨fit0, lo0, hi0⟩ := fitS_of hz0 (by omega) fX00_1.out.2.2
  have FT0 := Lib.hid fit0
  clear fit0 hz
  have eX00 := bX0_1.out.2 0 _ rfl
  have eX01 := bX0_1.out.2 1 _ rfl
  have eX02 := bX0_1.out.2 2 _ rfl
  have eX03 := bX0_1.out.2 3 _ rfl
  have zX0 := Nat.lt_of_lt_of_le bX0_1.out.1 s1.out
  have eX10 := bX1_1.out.2 0 _ rfl
  have eX11 := bX1_1.out.2 1 _ rfl
  have eX12 := bX1_1.out.2 2 _ rfl
  have eX13 := bX1_1.out.2 3 _ rfl
  have zX1 := Nat.lt_of_lt_of_le bX1_1.out.1 s1.out
  go_wp2_with fail
  refine (szA_abs (szF (a).ws (1048576)) fX10_1.out.2.1.cells fX10_1.out.2.2 lo0 hi0).mono ?_
  rintro e w2 ⟨rfl, hb⟩
  have t2 := Lib.hid (after t1.out hb)
  have s2 := Lib.hid hb.size
  have fX00_2 := Lib.hid (fX00_1.out.below hb t1.out.size)
  have bX0_2 := Lib.hid (bX0_1.out.below hb s1.out)
  have fX10_2 := Lib.hid (fX10_1.out.below hb t1.out.size)
  have bX1_2 := Lib.hid (bX1_1.out.below hb s1.out)
  clear eX00 eX01 eX02 eX03 zX0 eX10 eX11 eX12 eX13 zX1 fX00_1 bX0_1 fX10_1 bX1_1 hb
  rcases Int.lt_or_le (szF (b).ws (szF (a).ws (1048576))) 0 with hz | hz
  · go_wp2_with fail
    go_ret
    exact ⟨rfl, t2.out⟩
  have hz1 : ¬ szF (b).ws (szF (a).ws (1048576)) < 0 := by omega
  obtain ⟨fit1, lo1, hi1⟩ := fitS_of hz1 (by omega) fX10_2.out.2.2
  have FT1 := Lib.hid fit1
  clear fit1 hz
  have fX00_2r := Lib.hid (fX00_2.out.up FT0.out)
  have fX10_2r := Lib.hid (fX10_2.out.up FT1.out)
  clear fX00_2 fX10_2
  have eX00 := bX0_2.out.2 0 _ rfl
  have eX01 := bX0_2.out.2 1 _ rfl
  have eX02 := bX0_2.out.2 2 _ rfl
  have eX03 := bX0_2.out.2 3 _ rfl
  have zX0 := Nat.lt_of_lt_of_le bX0_2.out.1 (Nat.le_trans s1.out s2.out)
  have eX10 := bX1_2.out.2 0 _ rfl
  have eX11 := bX1_2.out.2 1 _ rfl
  have eX12 := bX1_2.out.2 2 _ rfl
  have eX13 := bX1_2.out.2 3 _ rfl
  have zX1 := Nat.lt_of_lt_of_le bX1_2.out.1 (Nat.le_trans s1.out s2.out)
  go_upto_region 8 with fail
  go_cut [6, 7] (fun s0 s1 wx => ∃ (g : Nat) (AW0 : Option Addr) (cW0 : Nat), s0 = .pointer (some ⟨g, 0, none⟩) ∧ s1 = .bool (scOk a b) ∧ w2.heap.size ≤ g ∧ BoxL wx.heap.size wx g [.int .i64 ((scR a b)).k, .int .i64 ((scR a b)).p, .int .i64 ((scR a b)).n, .slice AW0 (((scR a b)).ws).length cW0] ∧ OwS w2.heap.size wx.heap.size wx AW0 cW0 (((scR a b)).ws) ∧ Below w2.heap.size w2 wx)
  case first =>
    clear s1 s2 t0 t1
    refine wp_region_noPanic ?_
    refine wp_region_held_drew (S := (fun w' => Below w2.heap.size w2 w' ∧ (∀ b o, b < w2.heap.size → w'.cell? ⟨b, o, none⟩ = w2.cell? ⟨b, o, none⟩))) (by kernel_rfl) ?_ (fun hHeld => ?_)
    · ((try dsimp only); refine mkS ?_; exact (Below.refl _ _).drew)
    generalize w2.drew = ud at *
    refine take_yes (i := 0) (d := 28) (v := ?_) rfl rfl (by kernel_rfl) (by kernel_rfl) (by kernel_rfl) (fun _ _ _ h => h) (by kernel_rfl) ?_ hHeld ?_
    rotate_left
    · (intro w hSw; (try dsimp only at hSw); go_simp; try (with_reducible rfl))
    try simp only [Act.put, List.setIfInBounds_toArray, List.set_cons_zero, List.set_cons_succ]
    refine take_yes (i := 2) (d := 30) (v := ?_) rfl rfl (by kernel_rfl) (by kernel_rfl) (by kernel_rfl) (fun _ _ _ h => h) (by kernel_rfl) ?_ hHeld ?_
    rotate_left
    · (intro w hSw; (try dsimp only at hSw); go_simp; try (with_reducible rfl))
    try simp only [Act.put, List.setIfInBounds_toArray, List.set_cons_zero, List.set_cons_succ]
    refine wpAnyH_ready (rs := [1, 8]) (by kernel_rfl) (by simp) ?_
    refine AllReadyH.cons rfl (fun K hK => ?_) (AllReadyH.cons rfl (fun K hK => ?_) (AllReadyH.nil))
    · go_simp
      (go_at_call 22; refine (toA_abs (fX00_2r.out.below (S1 hHeld) t2.out.size)).mono ?_; rintro e u0 ⟨AWa00, cWa00, rfl, oWa00, hb⟩)
      obtain ⟨hB, hzz⟩ := callS hHeld (Nat.le_refl _) hb
      have HB := Lib.hid hB
      have FWa00 := Lib.hid oWa00.rd
      clear oWa00
      clear hb hB hzz
      (first | refine hK.out _ _ ?_ (fun hHeld1 => ?_) | (go_wp2_with fail; refine hK.out _ _ ?_ (fun hHeld1 => ?_)))
      · ((try dsimp only); refine mkS ?_; exact HB.out)
      clear hK K hHeld
      have hHeld := hHeld1
      clear hHeld1
      try simp only [Act.put, List.setIfInBounds_toArray, List.set_cons_zero, List.set_cons_succ]
      clear HB
      refine wpAnyH_ready (rs := [3, 8]) (by kernel_rfl) (by simp) ?_
      refine AllReadyH.cons rfl (fun K hK => ?_) (AllReadyH.cons rfl (fun K hK => ?_) (AllReadyH.nil))
      · go_simp
        (go_at_call 22; refine (toA_abs (fX10_2r.out.below (S1 hHeld) t2.out.size)).mono ?_; rintro e u1 ⟨AWa10, cWa10, rfl, oWa10, hb⟩)
        obtain ⟨hB, hzz⟩ := callS hHeld (Nat.le_refl _) hb
        have HB := Lib.hid hB
        have FWa10 := Lib.hid oWa10.rd
        clear oWa10
        have FWa00y := Lib.hid (FWa00.out.step hb)
        clear FWa00
        have FWa00 := FWa00y
        clear FWa00y
        clear hb hB hzz
        (first | refine hK.out _ _ ?_ (fun hHeld1 => ?_) | (go_wp2_with fail; refine hK.out _ _ ?_ (fun hHeld1 => ?_)))
        · ((try dsimp only); refine mkS ?_; exact HB.out)
        clear hK K hHeld
        have hHeld := hHeld1
        clear hHeld1
        try simp only [Act.put, List.setIfInBounds_toArray, List.set_cons_zero, List.set_cons_succ]
        clear HB
        refine wpAnyH_ready (rs := [4, 8]) (by kernel_rfl) (by simp) ?_
        refine AllReadyH.cons rfl (fun K hK => ?_) (AllReadyH.cons rfl (fun K hK => ?_) (AllReadyH.nil))
        · go_simp
          (go_at_call 46; refine (sSecondaryChange_abs FWa00.out FWa10.out).mono ?_; rintro e u9 ⟨AW0, cW0, rfl, oW0, hb⟩)
          have hlo := hHeld.1.size
          obtain ⟨hB, hzz⟩ := callS hHeld (Nat.le_refl _) hb
          have HB := Lib.hid hB
          have HO0 := Lib.hid (oW0.low hlo)
          clear hb hB hzz oW0 FWa00 FWa10
          (first | refine hK.out _ _ ?_ (fun hHeld1 => ?_) | (go_wp2_with fail; refine hK.out _ _ ?_ (fun hHeld1 => ?_)))
          · ((try dsimp only); refine mkS ?_; exact HB.out)
          clear hK K hHeld
          have hHeld := hHeld1
          clear hHeld1
          try simp only [Act.put, List.setIfInBounds_toArray, List.set_cons_zero, List.set_cons_succ]
          refine take_yes (i := 5) (d := 27) (v := ?_) rfl rfl (by kernel_rfl) (by kernel_rfl) (by kernel_rfl) (fun _ _ _ h => h) (by kernel_rfl) ?_ hHeld ?_
          rotate_left
          · (intro w hSw; (try dsimp only at hSw); go_simp; try (with_reducible rfl))
          try simp only [Act.put, List.setIfInBounds_toArray, List.set_cons_zero, List.set_cons_succ]
          refine take_yes (i := 6) (d := 33) (v := ?_) rfl rfl (by kernel_rfl) (by kernel_rfl) (by kernel_rfl) (fun _ _ _ h => h) (by kernel_rfl) ?_ hHeld ?_
          rotate_left
          · (intro w hSw; (try dsimp only at hSw); go_simp; try (with_reducible rfl))
          try simp only [Act.put, List.setIfInBounds_toArray, List.set_cons_zero, List.set_cons_succ]
          refine take_yes (i := 7) (d := 34) (v := ?_) rfl rfl (by kernel_rfl) (by kernel_rfl) (by kernel_rfl) (fun _ _ _ h => h) (by kernel_rfl) ?_ hHeld ?_
          rotate_left
          · (intro w hSw; (try dsimp only at hSw); go_simp; try (with_reducible rfl))
          try simp only [Act.put, List.setIfInBounds_toArray, List.set_cons_zero, List.set_cons_succ]
          refine wpAnyH_ready (rs := [8]) (by kernel_rfl) (by simp) ?_
          refine AllReadyH.cons rfl (fun K hK => ?_) (AllReadyH.nil)
          have hge : w2.heap.size ≤ u9.heap.size := hHeld.1.size
          try go_simp
          (first | refine hK.out _ _ ?_ (fun hHeld1 => ?_) | (go_wp2_with fail; refine hK.out _ _ ?_ (fun hHeld1 => ?_)))
          · ((try dsimp only); refine allocS ?_ ?_; assumption; exact Nat.le_refl _)
          clear hK K hHeld
          have hHeld := hHeld1
          clear hHeld1
          try simp only [Act.put, List.setIfInBounds_toArray, List.set_cons_zero, List.set_cons_succ]
          have hne0 : (Value.slice AW0 (((scR a b)).ws).length cW0).ownBlock ≠ some u9.heap.size := fun e => by have h1 := (HO0.out.1.lt _ e).2; omega
          have HOy0 := Lib.hid (OwS.fin_new HO0.out (Nat.le_refl _) (.cells #[.int .i64 0, .int .i64 0, .int .i64 0, .slice none 0 0] 31))
          clear HO0
          have HO0 := HOy0
          clear HOy0
          have HBX := Lib.hid (BoxF.new4 u9 (.int .i64 0) (.int .i64 0) (.int .i64 0) (.slice none 0 0) 31 _ rfl)
          have hbl : u9.heap.size < (u9.alloc (.cells #[.int .i64 0, .int .i64 0, .int .i64 0, .slice none 0 0] 31)).heap.size := by simp
          generalize u9.alloc (.cells #[.int .i64 0, .int .i64 0, .int .i64 0, .slice none 0 0] 31) = v at *
          have g0 := HBX.out.1 0 _ rfl; have z0 := HBX.out.2 0
          have g1 := HBX.out.1 1 _ rfl; have z1 := HBX.out.2 1
          have g2 := HBX.out.1 2 _ rfl; have z2 := HBX.out.2 2
          have g3 := HBX.out.1 3 _ rfl; have z3 := HBX.out.2 3
          refine wpAnyH_ready (rs := [9]) (by kernel_rfl) (by simp) ?_
          refine AllReadyH.cons rfl (fun K hK => ?_) AllReadyH.nil
          go_simp
          (first | refine hK.out _ _ ?_ (fun hHeld1 => ?_) | (go_wp2_with fail; refine hK.out _ _ ?_ (fun hHeld1 => ?_)))
          · ((try dsimp only); refine set4S ?_ ?_; assumption; first | exact hge | (simp; omega) | omega)
          clear hK K hHeld
          have hHeld := hHeld1
          clear hHeld1
          try simp only [Act.put, List.setIfInBounds_toArray, List.set_cons_zero, List.set_cons_succ]
          refine take_yes (i := 10) (d := 7) (v := ?_) rfl rfl (by kernel_rfl) (by kernel_rfl) (by kernel_rfl) (fun _ _ _ h => h) (by kernel_rfl) ?_ hHeld ?_
          rotate_left
          · (intro w hSw; (try dsimp only at hSw); go_simp; try (with_reducible rfl))
          try simp only [Act.put, List.setIfInBounds_toArray, List.set_cons_zero, List.set_cons_succ]
          refine wpAnyH_done (by kernel_rfl) ?_ _
          refine NoPanic.normal ?_
          have KS := HBX.out.set4 (.int .i64 ((scR a b)).k) (.int .i64 ((scR a b)).p) (.int .i64 ((scR a b)).n) (.slice AW0 (((scR a b)).ws).length cW0)
          have HT := Lib.hid hHeld.1
          clear hHeld g0 z0 g1 z1 g2 z2 g3 z3
          go_wp2_with fail
          go_meet
          refine ⟨_, AW0, cW0, rfl, rfl, hge, ⟨by simp only [World.size_setCell]; exact hbl, KS.1⟩, ⟨own_off4 HO0.out.1 hne0 _ _ _ _, HO0.out.2.1.mono (by simp only [World.size_setCell]; exact Nat.le_refl _), HO0.out.2.2⟩, HT.out⟩
        · have hge : w2.heap.size ≤ u1.heap.size := hHeld.1.size
          try go_simp
          (first | refine hK.out _ _ ?_ (fun hHeld1 => ?_) | (go_wp2_with fail; refine hK.out _ _ ?_ (fun hHeld1 => ?_)))
          · ((try dsimp only); refine allocS ?_ ?_; assumption; exact Nat.le_refl _)
          clear hK K hHeld
          have hHeld := hHeld1
          clear hHeld1
          try simp only [Act.put, List.setIfInBounds_toArray, List.set_cons_zero, List.set_cons_succ]
          have FWa00y := Lib.hid (FWa00.out.step (below1 u1 (.cells #[.int .i64 0, .int .i64 0, .int .i64 0, .slice none 0 0] 31)))
          clear FWa00
          have FWa00 := FWa00y
          clear FWa00y
          have FWa10y := Lib.hid (FWa10.out.step (below1 u1 (.cells #[.int .i64 0, .int .i64 0, .int .i64 0, .slice none 0 0] 31)))
          clear FWa10
          have FWa10 := FWa10y
          clear FWa10y
          have HBX := Lib.hid (BoxF.new4 u1 (.int .i64 0) (.int .i64 0) (.int .i64 0) (.slice none 0 0) 31 _ rfl)
          have hbl : u1.heap.size < (u1.alloc (.cells #[.int .i64 0, .int .i64 0, .int .i64 0, .slice none 0 0] 31)).heap.size := by simp
          generalize u1.alloc (.cells #[.int .i64 0, .int .i64 0, .int .i64 0, .slice none 0 0] 31) = v at *
          refine wpAnyH_ready (rs := [4]) (by kernel_rfl) (by simp) ?_
          refine AllReadyH.cons rfl (fun K hK => ?_) (AllReadyH.nil)
          go_simp
          (go_at_call 46; refine (sSecondaryChange_abs FWa00.out FWa10.out).mono ?_; rintro e u9 ⟨AW0, cW0, rfl, oW0, hb⟩)
          have hlo := hHeld.1.size
          obtain ⟨hB, hzz⟩ := callS hHeld (Nat.le_refl _) hb
          have HB := Lib.hid hB
          have hne0 : (Value.slice AW0 (((scR a b)).ws).length cW0).ownBlock ≠ some u1.heap.size := fun e => by have h1 := (oW0.1.lt _ e).1; omega
          have HO0 := Lib.hid (oW0.low hlo)
          have hbl2 := Nat.lt_of_lt_of_le hbl hb.size; have HBY := Lib.hid (HBX.out.below hb hbl); clear hbl HBX; have hbl := hbl2; have HBX := HBY; clear hbl2 HBY
          clear hb hB hzz oW0 FWa00 FWa10
          (first | refine hK.out _ _ ?_ (fun hHeld1 => ?_) | (go_wp2_with fail; refine hK.out _ _ ?_ (fun hHeld1 => ?_)))
          · ((try dsimp only); refine mkS ?_; exact HB.out)
          clear hK K hHeld
          have hHeld := hHeld1
          clear hHeld1
          try simp only [Act.put, List.setIfInBounds_toArray, List.set_cons_zero, List.set_cons_succ]
          refine take_yes (i := 5) (d := 27) (v := ?_) rfl rfl (by kernel_rfl) (by kernel_rfl) (by kernel_rfl) (fun _ _ _ h => h) (by kernel_rfl) ?_ hHeld ?_
          rotate_left
          · (intro w hSw; (try dsimp only at hSw); go_simp; try (with_reducible rfl))
          try simp only [Act.put, List.setIfInBounds_toArray, List.set_cons_zero, List.set_cons_succ]
          refine take_yes (i := 6) (d := 33) (v := ?_) rfl rfl (by kernel_rfl) (by kernel_rfl) (by kernel_rfl) (fun _ _ _ h => h) (by kernel_rfl) ?_ hHeld ?_
          rotate_left
          · (intro w hSw; (try dsimp only at hSw); go_simp; try (with_reducible rfl))
          try simp only [Act.put, List.setIfInBounds_toArray, List.set_cons_zero, List.set_cons_succ]
          refine take_yes (i := 7) (d := 34) (v := ?_) rfl rfl (by kernel_rfl) (by kernel_rfl) (by kernel_rfl) (fun _ _ _ h => h) (by kernel_rfl) ?_ hHeld ?_
          rotate_left
          · (intro w hSw; (try dsimp only at hSw); go_simp; try (with_reducible rfl))
          try simp only [Act.put, List.setIfInBounds_toArray, List.set_cons_zero, List.set_cons_succ]
          have g0 := HBX.out.1 0 _ rfl; have z0 := HBX.out.2 0
          have g1 := HBX.out.1 1 _ rfl; have z1 := HBX.out.2 1
          have g2 := HBX.out.1 2 _ rfl; have z2 := HBX.out.2 2
          have g3 := HBX.out.1 3 _ rfl; have z3 := HBX.out.2 3
          refine wpAnyH_ready (rs := [9]) (by kernel_rfl) (by simp) ?_
          refine AllReadyH.cons rfl (fun K hK => ?_) AllReadyH.nil
          go_simp
          (first | refine hK.out _ _ ?_ (fun hHeld1 => ?_) | (go_wp2_with fail; refine hK.out _ _ ?_ (fun hHeld1 => ?_)))
          · ((try dsimp only); refine set4S ?_ ?_; assumption; first | exact hge | (simp; omega) | omega)
          clear hK K hHeld
          have hHeld := hHeld1
          clear hHeld1
          try simp only [Act.put, List.setIfInBounds_toArray, List.set_cons_zero, List.set_cons_succ]
          refine take_yes (i := 10) (d := 7) (v := ?_) rfl rfl (by kernel_rfl) (by kernel_rfl) (by kernel_rfl) (fun _ _ _ h => h) (by kernel_rfl) ?_ hHeld ?_
          rotate_left
          · (intro w hSw; (try dsimp only at hSw); go_simp; try (with_reducible rfl))
          try simp only [Act.put, List.setIfInBounds_toArray, List.set_cons_zero, List.set_cons_succ]
          refine wpAnyH_done (by kernel_rfl) ?_ _
          refine NoPanic.normal ?_
          have KS := HBX.out.set4 (.int .i64 ((scR a b)).k) (.int .i64 ((scR a b)).p) (.int .i64 ((scR a b)).n) (.slice AW0 (((scR a b)).ws).length cW0)
          have HT := Lib.hid hHeld.1
          clear hHeld g0 z0 g1 z1 g2 z2 g3 z3
          go_wp2_with fail
          go_meet
          refine ⟨_, AW0, cW0, rfl, rfl, hge, ⟨by simp only [World.size_setCell]; exact hbl, KS.1⟩, ⟨own_off4 HO0.out.1 hne0 _ _ _ _, HO0.out.2.1.mono (by simp only [World.size_setCell]; exact Nat.le_refl _), HO0.out.2.2⟩, HT.out⟩
      · have hge : w2.heap.size ≤ u0.heap.size := hHeld.1.size
        try go_simp
        (first | refine hK.out _ _ ?_ (fun hHeld1 => ?_) | (go_wp2_with fail; refine hK.out _ _ ?_ (fun hHeld1 => ?_)))
        · ((try dsimp only); refine allocS ?_ ?_; assumption; exact Nat.le_refl _)
        clear hK K hHeld
        have hHeld := hHeld1
        clear hHeld1
        try simp only [Act.put, List.setIfInBounds_toArray, List.set_cons_zero, List.set_cons_succ]
        have FWa00y := Lib.hid (FWa00.out.step (below1 u0 (.cells #[.int .i64 0, .int .i64 0, .int .i64 0, .slice none 0 0] 31)))
        clear FWa00
        have FWa00 := FWa00y
        clear FWa00y
        have HBX := Lib.hid (BoxF.new4 u0 (.int .i64 0) (.int .i64 0) (.int .i64 0) (.slice none 0 0) 31 _ rfl)
        have hbl : u0.heap.size < (u0.alloc (.cells #[.int .i64 0, .int .i64 0, .int .i64 0, .slice none 0 0] 31)).heap.size := by simp
        generalize u0.alloc (.cells #[.int .i64 0, .int .i64 0, .int .i64 0, .slice none 0 0] 31) = v at *
        refine wpAnyH_ready (rs := [3]) (by kernel_rfl) (by simp) ?_
        refine AllReadyH.cons rfl (fun K hK => ?_) (AllReadyH.nil)
        go_simp
        (go_at_call 22; refine (toA_abs (fX10_2r.out.below (S1 hHeld) t2.out.size)).mono ?_; rintro e u1 ⟨AWa10, cWa10, rfl, oWa10, hb⟩)
        obtain ⟨hB, hzz⟩ := callS hHeld (Nat.le_refl _) hb
        have HB := Lib.hid hB
        have FWa10 := Lib.hid oWa10.rd
        clear oWa10
        have FWa00y := Lib.hid (FWa00.out.step hb)
        clear FWa00
        have FWa00 := FWa00y
        clear FWa00y
        have hbl2 := Nat.lt_of_lt_of_le hbl hb.size; have HBY := Lib.hid (HBX.out.below hb hbl); clear hbl HBX; have hbl := hbl2; have HBX := HBY; clear hbl2 HBY
        clear hb hB hzz
        (first | refine hK.out _ _ ?_ (fun hHeld1 => ?_) | (go_wp2_with fail; refine hK.out _ _ ?_ (fun hHeld1 => ?_)))
        · ((try dsimp only); refine mkS ?_; exact HB.out)
        clear hK K hHeld
        have hHeld := hHeld1
        clear hHeld1
        try simp only [Act.put, List.setIfInBounds_toArray, List.set_cons_zero, List.set_cons_succ]
        clear HB
        refine wpAnyH_ready (rs := [4]) (by kernel_rfl) (by simp) ?_
        refine AllReadyH.cons rfl (fun K hK => ?_) (AllReadyH.nil)
        go_simp
        (go_at_call 46; refine (sSecondaryChange_abs FWa00.out FWa10.out).mono ?_; rintro e u9 ⟨AW0, cW0, rfl, oW0, hb⟩)
        have hlo := hHeld.1.size
        obtain ⟨hB, hzz⟩ := callS hHeld (Nat.le_refl _) hb
        have HB := Lib.hid hB
        have hne0 : (Value.slice AW0 (((scR a b)).ws).length cW0).ownBlock ≠ some u0.heap.size := fun e => by have h1 := (oW0.1.lt _ e).1; omega
        have HO0 := Lib.hid (oW0.low hlo)
        have hbl2 := Nat.lt_of_lt_of_le hbl hb.size; have HBY := Lib.hid (HBX.out.below hb hbl); clear hbl HBX; have hbl := hbl2; have HBX := HBY; clear hbl2 HBY
        clear hb hB hzz oW0 FWa00 FWa10
        (first | refine hK.out _ _ ?_ (fun hHeld1 => ?_) | (go_wp2_with fail; refine hK.out _ _ ?_ (fun hHeld1 => ?_)))
        · ((try dsimp only); refine mkS ?_; exact HB.out)
        clear hK K hHeld
        have hHeld := hHeld1
        clear hHeld1
        try simp only [Act.put, List.setIfInBounds_toArray, List.set_cons_zero, List.set_cons_succ]
        refine take_yes (i := 5) (d := 27) (v := ?_) rfl rfl (by kernel_rfl) (by kernel_rfl) (by kernel_rfl) (fun _ _ _ h => h) (by kernel_rfl) ?_ hHeld ?_
        rotate_left
        · (intro w hSw; (try dsimp only at hSw); go_simp; try (with_reducible rfl))
        try simp only [Act.put, List.setIfInBounds_toArray, List.set_cons_zero, List.set_cons_succ]
        refine take_yes (i := 6) (d := 33) (v := ?_) rfl rfl (by kernel_rfl) (by kernel_rfl) (by kernel_rfl) (fun _ _ _ h => h) (by kernel_rfl) ?_ hHeld ?_
        rotate_left
        · (intro w hSw; (try dsimp only at hSw); go_simp; try (with_reducible rfl))
        try simp only [Act.put, List.setIfInBounds_toArray, List.set_cons_zero, List.set_cons_succ]
        refine take_yes (i := 7) (d := 34) (v := ?_) rfl rfl (by kernel_rfl) (by kernel_rfl) (by kernel_rfl) (fun _ _ _ h => h) (by kernel_rfl) ?_ hHeld ?_
        rotate_left
        · (intro w hSw; (try dsimp only at hSw); go_simp; try (with_reducible rfl))
        try simp only [Act.put, List.setIfInBounds_toArray, List.set_cons_zero, List.set_cons_succ]
        have g0 := HBX.out.1 0 _ rfl; have z0 := HBX.out.2 0
        have g1 := HBX.out.1 1 _ rfl; have z1 := HBX.out.2 1
        have g2 := HBX.out.1 2 _ rfl; have z2 := HBX.out.2 2
        have g3 := HBX.out.1 3 _ rfl; have z3 := HBX.out.2 3
        refine wpAnyH_ready (rs := [9]) (by kernel_rfl) (by simp) ?_
        refine AllReadyH.cons rfl (fun K hK => ?_) AllReadyH.nil
        go_simp
        (first | refine hK.out _ _ ?_ (fun hHeld1 => ?_) | (go_wp2_with fail; refine hK.out _ _ ?_ (fun hHeld1 => ?_)))
        · ((try dsimp only); refine set4S ?_ ?_; assumption; first | exact hge | (simp; omega) | omega)
        clear hK K hHeld
        have hHeld := hHeld1
        clear hHeld1
        try simp only [Act.put, List.setIfInBounds_toArray, List.set_cons_zero, List.set_cons_succ]
        refine take_yes (i := 10) (d := 7) (v := ?_) rfl rfl (by kernel_rfl) (by kernel_rfl) (by kernel_rfl) (fun _ _ _ h => h) (by kernel_rfl) ?_ hHeld ?_
        rotate_left
        · (intro w hSw; (try dsimp only at hSw); go_simp; try (with_reducible rfl))
        try simp only [Act.put, List.setIfInBounds_toArray, List.set_cons_zero, List.set_cons_succ]
        refine wpAnyH_done (by kernel_rfl) ?_ _
        refine NoPanic.normal ?_
        have KS := HBX.out.set4 (.int .i64 ((scR a b)).k) (.int .i64 ((scR a b)).p) (.int .i64 ((scR a b)).n) (.slice AW0 (((scR a b)).ws).length cW0)
        have HT := Lib.hid hHeld.1
        clear hHeld g0 z0 g1 z1 g2 z2 g3 z3
        go_wp2_with fail
        go_meet
        refine ⟨_, AW0, cW0, rfl, rfl, hge, ⟨by simp only [World.size_setCell]; exact hbl, KS.1⟩, ⟨own_off4 HO0.out.1 hne0 _ _ _ _, HO0.out.2.1.mono (by simp only [World.size_setCell]; exact Nat.le_refl _), HO0.out.2.2⟩, HT.out⟩
    · have hge : w2.heap.size ≤ ud.heap.size := hHeld.1.size
      try go_simp
      (first | refine hK.out _ _ ?_ (fun hHeld1 => ?_) | (go_wp2_with fail; refine hK.out _ _ ?_ (fun hHeld1 => ?_)))
      · ((try dsimp only); refine allocS ?_ ?_; assumption; exact Nat.le_refl _)
      clear hK K hHeld
      have hHeld := hHeld1
      clear hHeld1
      try simp only [Act.put, List.setIfInBounds_toArray, List.set_cons_zero, List.set_cons_succ]
      have HBX := Lib.hid (BoxF.new4 ud (.int .i64 0) (.int .i64 0) (.int .i64 0) (.slice none 0 0) 31 _ rfl)
      have hbl : ud.heap.size < (ud.alloc (.cells #[.int .i64 0, .int .i64 0, .int .i64 0, .slice none 0 0] 31)).heap.size := by simp
      generalize ud.alloc (.cells #[.int .i64 0, .int .i64 0, .int .i64 0, .slice none 0 0] 31) = v at *
      refine wpAnyH_ready (rs := [1]) (by kernel_rfl) (by simp) ?_
      refine AllReadyH.cons rfl (fun K hK => ?_) (AllReadyH.nil)
      go_simp
      (go_at_call 22; refine (toA_abs (fX00_2r.out.below (S1 hHeld) t2.out.size)).mono ?_; rintro e u0 ⟨AWa00, cWa00, rfl, oWa00, hb⟩)
      obtain ⟨hB, hzz⟩ := callS hHeld (Nat.le_refl _) hb
      have HB := Lib.hid hB
      have FWa00 := Lib.hid oWa00.rd
      clear oWa00
      have hbl2 := Nat.lt_of_lt_of_le hbl hb.size; have HBY := Lib.hid (HBX.out.below hb hbl); clear hbl HBX; have hbl := hbl2; have HBX := HBY; clear hbl2 HBY
      clear hb hB hzz
      (first | refine hK.out _ _ ?_ (fun hHeld1 => ?_) | (go_wp2_with fail; refine hK.out _ _ ?_ (fun hHeld1 => ?_)))
      · ((try dsimp only); refine mkS ?_; exact HB.out)
      clear hK K hHeld
      have hHeld := hHeld1
      clear hHeld1
      try simp only [Act.put, List.setIfInBounds_toArray, List.set_cons_zero, List.set_cons_succ]
      clear HB
      refine wpAnyH_ready (rs := [3]) (by kernel_rfl) (by simp) ?_
      refine AllReadyH.cons rfl (fun K hK => ?_) (AllReadyH.nil)
      go_simp
      (go_at_call 22; refine (toA_abs (fX10_2r.out.below (S1 hHeld) t2.out.size)).mono ?_; rintro e u1 ⟨AWa10, cWa10, rfl, oWa10, hb⟩)
      obtain ⟨hB, hzz⟩ := callS hHeld (Nat.le_refl _) hb
      have HB := Lib.hid hB
      have FWa10 := Lib.hid oWa10.rd
      clear oWa10
      have FWa00y := Lib.hid (FWa00.out.step hb)
      clear FWa00
      have FWa00 := FWa00y
      clear FWa00y
      have hbl2 := Nat.lt_of_lt_of_le hbl hb.size; have HBY := Lib.hid (HBX.out.below hb hbl); clear hbl HBX; have hbl := hbl2; have HBX := HBY; clear hbl2 HBY
      clear hb hB hzz
      (first | refine hK.out _ _ ?_ (fun hHeld1 => ?_) | (go_wp2_with fail; refine hK.out _ _ ?_ (fun hHeld1 => ?_)))
      · ((try dsimp only); refine mkS ?_; exact HB.out)
      clear hK K hHeld
      have hHeld := hHeld1
      clear hHeld1
      try simp only [Act.put, List.setIfInBounds_toArray, List.set_cons_zero, List.set_cons_succ]
      clear HB
      refine wpAnyH_ready (rs := [4]) (by kernel_rfl) (by simp) ?_
      refine AllReadyH.cons rfl (fun K hK => ?_) (AllReadyH.nil)
      go_simp
      (go_at_call 46; refine (sSecondaryChange_abs FWa00.out FWa10.out).mono ?_; rintro e u9 ⟨AW0, cW0, rfl, oW0, hb⟩)
      have hlo := hHeld.1.size
      obtain ⟨hB, hzz⟩ := callS hHeld (Nat.le_refl _) hb
      have HB := Lib.hid hB
      have hne0 : (Value.slice AW0 (((scR a b)).ws).length cW0).ownBlock ≠ some ud.heap.size := fun e => by have h1 := (oW0.1.lt _ e).1; omega
      have HO0 := Lib.hid (oW0.low hlo)
      have hbl2 := Nat.lt_of_lt_of_le hbl hb.size; have HBY := Lib.hid (HBX.out.below hb hbl); clear hbl HBX; have hbl := hbl2; have HBX := HBY; clear hbl2 HBY
      clear hb hB hzz oW0 FWa00 FWa10
      (first | refine hK.out _ _ ?_ (fun hHeld1 => ?_) | (go_wp2_with fail; refine hK.out _ _ ?_ (fun hHeld1 => ?_)))
      · ((try dsimp only); refine mkS ?_; exact HB.out)
      clear hK K hHeld
      have hHeld := hHeld1
      clear hHeld1
      try simp only [Act.put, List.setIfInBounds_toArray, List.set_cons_zero, List.set_cons_succ]
      refine take_yes (i := 5) (d := 27) (v := ?_) rfl rfl (by kernel_rfl) (by kernel_rfl) (by kernel_rfl) (fun _ _ _ h => h) (by kernel_rfl) ?_ hHeld ?_
      rotate_left
      · (intro w hSw; (try dsimp only at hSw); go_simp; try (with_reducible rfl))
      try simp only [Act.put, List.setIfInBounds_toArray, List.set_cons_zero, List.set_cons_succ]
      refine take_yes (i := 6) (d := 33) (v := ?_) rfl rfl (by kernel_rfl) (by kernel_rfl) (by kernel_rfl) (fun _ _ _ h => h) (by kernel_rfl) ?_ hHeld ?_
      rotate_left
      · (intro w hSw; (try dsimp only at hSw); go_simp; try (with_reducible rfl))
      try simp only [Act.put, List.setIfInBounds_toArray, List.set_cons_zero, List.set_cons_succ]
      refine take_yes (i := 7) (d := 34) (v := ?_) rfl rfl (by kernel_rfl) (by kernel_rfl) (by kernel_rfl) (fun _ _ _ h => h) (by kernel_rfl) ?_ hHeld ?_
      rotate_left
      · (intro w hSw; (try dsimp only at hSw); go_simp; try (with_reducible rfl))
      try simp only [Act.put, List.setIfInBounds_toArray, List.set_cons_zero, List.set_cons_succ]
      have g0 := HBX.out.1 0 _ rfl; have z0 := HBX.out.2 0
      have g1 := HBX.out.1 1 _ rfl; have z1 := HBX.out.2 1
      have g2 := HBX.out.1 2 _ rfl; have z2 := HBX.out.2 2
      have g3 := HBX.out.1 3 _ rfl; have z3 := HBX.out.2 3
      refine wpAnyH_ready (rs := [9]) (by kernel_rfl) (by simp) ?_
      refine AllReadyH.cons rfl (fun K hK => ?_) AllReadyH.nil
      go_simp
      (first | refine hK.out _ _ ?_ (fun hHeld1 => ?_) | (go_wp2_with fail; refine hK.out _ _ ?_ (fun hHeld1 => ?_)))
      · ((try dsimp only); refine set4S ?_ ?_; assumption; first | exact hge | (simp; omega) | omega)
      clear hK K hHeld
      have hHeld := hHeld1
      clear hHeld1
      try simp only [Act.put, List.setIfInBounds_toArray, List.set_cons_zero, List.set_cons_succ]
      refine take_yes (i := 10) (d := 7) (v := ?_) rfl rfl (by kernel_rfl) (by kernel_rfl) (by kernel_rfl) (fun _ _ _ h => h) (by kernel_rfl) ?_ hHeld ?_
      rotate_left
      · (intro w hSw; (try dsimp only at hSw); go_simp; try (with_reducible rfl))
      try simp only [Act.put, List.setIfInBounds_toArray, List.set_cons_zero, List.set_cons_succ]
      refine wpAnyH_done (by kernel_rfl) ?_ _
      refine NoPanic.normal ?_
      have KS := HBX.out.set4 (.int .i64 ((scR a b)).k) (.int .i64 ((scR a b)).p) (.int .i64 ((scR a b)).n) (.slice AW0 (((scR a b)).ws).length cW0)
      have HT := Lib.hid hHeld.1
      clear hHeld g0 z0 g1 z1 g2 z2 g3 z3
      go_wp2_with fail
      go_meet
      refine ⟨_, AW0, cW0, rfl, rfl, hge, ⟨by simp only [World.size_setCell]; exact hbl, KS.1⟩, ⟨own_off4 HO0.out.1 hne0 _ _ _ _, HO0.out.2.1.mono (by simp only [World.size_setCell]; exact Nat.le_refl _), HO0.out.2.2⟩, HT.out⟩
  case rest =>
    obtain ⟨gW, AW0, cW0, rfl, rfl, hgW, bxW, oW0, hb⟩ := hcut
    obtain ⟨w3, rfl⟩ : ∃ W, W = wc := ⟨_, rfl⟩
    have t3 := Lib.hid (after t2.out hb)
    have s3 := Lib.hid hb.size
    have fX00_3 := Lib.hid (fX00_2r.out.below hb t2.out.size)
    have bX0_3 := Lib.hid (bX0_2.out.below hb (Nat.le_trans s1.out s2.out))
    have fX10_3 := Lib.hid (fX10_2r.out.below hb t2.out.size)
    have bX1_3 := Lib.hid (bX1_2.out.below hb (Nat.le_trans s1.out s2.out))
    have fW0_3 := Lib.hid oW0
    have bW_3 := Lib.hid bxW
    clear eX00 eX01 eX02 eX03 zX0 eX10 eX11 eX12 eX13 zX1 fX00_2r bX0_2 fX10_2r bX1_2 oW0 bxW hb
    have eX00 := bX0_3.out.2 0 _ rfl
    have eX01 := bX0_3.out.2 1 _ rfl
    have eX02 := bX0_3.out.2 2 _ rfl
    have eX03 := bX0_3.out.2 3 _ rfl
    have zX0 := Nat.lt_of_lt_of_le bX0_3.out.1 (Nat.le_trans s1.out (Nat.le_trans s2.out s3.out))
    have eX10 := bX1_3.out.2 0 _ rfl
    have eX11 := bX1_3.out.2 1 _ rfl
    have eX12 := bX1_3.out.2 2 _ rfl
    have eX13 := bX1_3.out.2 3 _ rfl
    have zX1 := Nat.lt_of_lt_of_le bX1_3.out.1 (Nat.le_trans s1.out (Nat.le_trans s2.out s3.out))
    have eW0 := bW_3.out.2 0 _ rfl
    have eW1 := bW_3.out.2 1 _ rfl
    have eW2 := bW_3.out.2 2 _ rfl
    have eW3 := bW_3.out.2 3 _ rfl
    have zW := Nat.lt_of_lt_of_le bW_3.out.1 (Nat.le_refl _)
    go_wp2_with fail
    clear eX00 eX01 eX02 eX03 zX0 eX10 eX11 eX12 eX13 zX1 eW0 eW1 eW2 eW3 zW
    refine (toA_abs fX00_3.out).mono ?_
    rintro e w4 ⟨AY00, cY00, rfl, oY00, hb⟩
    have t4 := Lib.hid (after t3.out hb)
    have s4 := Lib.hid hb.size
    have fX00_4 := Lib.hid (fX00_3.out.below hb t3.out.size)
    have bX0_4 := Lib.hid (bX0_3.out.below hb (Nat.le_trans s1.out (Nat.le_trans s2.out s3.out)))
    have fX10_4 := Lib.hid (fX10_3.out.below hb t3.out.size)
    have bX1_4 := Lib.hid (bX1_3.out.below hb (Nat.le_trans s1.out (Nat.le_trans s2.out s3.out)))
    have fW0_4 := Lib.hid (fW0_3.out.below hb (Nat.le_refl _))
    have bW_4 := Lib.hid (bW_3.out.below hb (Nat.le_refl _))
    have fY00_4 := Lib.hid oY00
    clear fX00_3 bX0_3 fX10_3 bX1_3 fW0_3 bW_3 oY00 hb
    have nb := (BoxL.new w4 #[.int .i64 (a).k, .int .i64 (a).p, .int .i64 (a).n, .slice AY00 ((a).ws).length cY00] 31).mono (show w4.heap.size + 1 ≤ (w4.alloc (.cells #[.int .i64 (a).k, .int .i64 (a).p, .int .i64 (a).n, .slice AY00 ((a).ws).length cY00] 31)).heap.size by simp)
    have hb : Below w4.heap.size w4 (w4.alloc (.cells #[.int .i64 (a).k, .int .i64 (a).p, .int .i64 (a).n, .slice AY00 ((a).ws).length cY00] 31)) := by go_grown
    have eX00 := bX0_4.out.2 0 _ rfl
    have eX01 := bX0_4.out.2 1 _ rfl
    have eX02 := bX0_4.out.2 2 _ rfl
    have eX03 := bX0_4.out.2 3 _ rfl
    have zX0 := Nat.lt_of_lt_of_le bX0_4.out.1 (Nat.le_trans s1.out (Nat.le_trans s2.out (Nat.le_trans s3.out s4.out)))
    have eX10 := bX1_4.out.2 0 _ rfl
    have eX11 := bX1_4.out.2 1 _ rfl
    have eX12 := bX1_4.out.2 2 _ rfl
    have eX13 := bX1_4.out.2 3 _ rfl
    have zX1 := Nat.lt_of_lt_of_le bX1_4.out.1 (Nat.le_trans s1.out (Nat.le_trans s2.out (Nat.le_trans s3.out s4.out)))
    have eW0 := bW_4.out.2 0 _ rfl
    have eW1 := bW_4.out.2 1 _ rfl
    have eW2 := bW_4.out.2 2 _ rfl
    have eW3 := bW_4.out.2 3 _ rfl
    have zW := Nat.lt_of_lt_of_le bW_4.out.1 s4.out
    go_wp2_with fail
    clear eX00 eX01 eX02 eX03 zX0 eX10 eX11 eX12 eX13 zX1 eW0 eW1 eW2 eW3 zW
    generalize w4.alloc (.cells #[.int .i64 (a).k, .int .i64 (a).p, .int .i64 (a).n, .slice AY00 ((a).ws).length cY00] 31) = w5 at *
    have t5 := Lib.hid (after t4.out hb)
    have s5 := Lib.hid hb.size
    have fX00_5 := Lib.hid (fX00_4.out.below hb t4.out.size)
    have bX0_5 := Lib.hid (bX0_4.out.below hb (Nat.le_trans s1.out (Nat.le_trans s2.out (Nat.le_trans s3.out s4.out))))
    have fX10_5 := Lib.hid (fX10_4.out.below hb t4.out.size)
    have bX1_5 := Lib.hid (bX1_4.out.below hb (Nat.le_trans s1.out (Nat.le_trans s2.out (Nat.le_trans s3.out s4.out))))
    have fW0_5 := Lib.hid (fW0_4.out.below hb s4.out)
    have bW_5 := Lib.hid (bW_4.out.below hb s4.out)
    have fY00_5 := Lib.hid (fY00_4.out.below hb (Nat.le_refl _))
    have bY0_5 := Lib.hid nb
    clear fX00_4 bX0_4 fX10_4 bX1_4 fW0_4 bW_4 fY00_4 nb hb
    refine (toA_abs fX10_5.out).mono ?_
    rintro e w6 ⟨AY10, cY10, rfl, oY10, hb⟩
    have t6 := Lib.hid (after t5.out hb)
    have s6 := Lib.hid hb.size
    have fX00_6 := Lib.hid (fX00_5.out.below hb t5.out.size)
    have bX0_6 := Lib.hid (bX0_5.out.below hb (Nat.le_trans s1.out (Nat.le_trans s2.out (Nat.le_trans s3.out (Nat.le_trans s4.out s5.out)))))
    have fX10_6 := Lib.hid (fX10_5.out.below hb t5.out.size)
    have bX1_6 := Lib.hid (bX1_5.out.below hb (Nat.le_trans s1.out (Nat.le_trans s2.out (Nat.le_trans s3.out (Nat.le_trans s4.out s5.out)))))
    have fW0_6 := Lib.hid (fW0_5.out.below hb (Nat.le_trans s4.out s5.out))
    have bW_6 := Lib.hid (bW_5.out.below hb (Nat.le_trans s4.out s5.out))
    have fY00_6 := Lib.hid (fY00_5.out.below hb s5.out)
    have bY0_6 := Lib.hid (bY0_5.out.below hb (Nat.le_refl _))
    have fY10_6 := Lib.hid oY10
    clear fX00_5 bX0_5 fX10_5 bX1_5 fW0_5 bW_5 fY00_5 bY0_5 oY10 hb
    have nb := (BoxL.new w6 #[.int .i64 (b).k, .int .i64 (b).p, .int .i64 (b).n, .slice AY10 ((b).ws).length cY10] 31).mono (show w6.heap.size + 1 ≤ (w6.alloc (.cells #[.int .i64 (b).k, .int .i64 (b).p, .int .i64 (b).n, .slice AY10 ((b).ws).length cY10] 31)).heap.size by simp)
    have hb : Below w6.heap.size w6 (w6.alloc (.cells #[.int .i64 (b).k, .int .i64 (b).p, .int .i64 (b).n, .slice AY10 ((b).ws).length cY10] 31)) := by go_grown
    have eX00 := bX0_6.out.2 0 _ rfl
    have eX01 := bX0_6.out.2 1 _ rfl
    have eX02 := bX0_6.out.2 2 _ rfl
    have eX03 := bX0_6.out.2 3 _ rfl
    have zX0 := Nat.lt_of_lt_of_le bX0_6.out.1 (Nat.le_trans s1.out (Nat.le_trans s2.out (Nat.le_trans s3.out (Nat.le_trans s4.out (Nat.le_trans s5.out s6.out)))))
    have eX10 := bX1_6.out.2 0 _ rfl
    have eX11 := bX1_6.out.2 1 _ rfl
    have eX12 := bX1_6.out.2 2 _ rfl
    have eX13 := bX1_6.out.2 3 _ rfl
    have zX1 := Nat.lt_of_lt_of_le bX1_6.out.1 (Nat.le_trans s1.out (Nat.le_trans s2.out (Nat.le_trans s3.out (Nat.le_trans s4.out (Nat.le_trans s5.out s6.out)))))
    have eW0 := bW_6.out.2 0 _ rfl
    have eW1 := bW_6.out.2 1 _ rfl
    have eW2 := bW_6.out.2 2 _ rfl
    have eW3 := bW_6.out.2 3 _ rfl
    have zW := Nat.lt_of_lt_of_le bW_6.out.1 (Nat.le_trans s4.out (Nat.le_trans s5.out s6.out))
    have eY00 := bY0_6.out.2 0 _ rfl
    have eY01 := bY0_6.out.2 1 _ rfl
    have eY02 := bY0_6.out.2 2 _ rfl
    have eY03 := bY0_6.out.2 3 _ rfl
    have zY0 := Nat.lt_of_lt_of_le bY0_6.out.1 s6.out
    go_wp2_with fail
    clear eX00 eX01 eX02 eX03 zX0 eX10 eX11 eX12 eX13 zX1 eW0 eW1 eW2 eW3 zW eY00 eY01 eY02 eY03 zY0
    generalize w6.alloc (.cells #[.int .i64 (b).k, .int .i64 (b).p, .int .i64 (b).n, .slice AY10 ((b).ws).length cY10] 31) = w7 at *
    have t7 := Lib.hid (after t6.out hb)
    have s7 := Lib.hid hb.size
    have fX00_7 := Lib.hid (fX00_6.out.below hb t6.out.size)
    have bX0_7 := Lib.hid (bX0_6.out.below hb (Nat.le_trans s1.out (Nat.le_trans s2.out (Nat.le_trans s3.out (Nat.le_trans s4.out (Nat.le_trans s5.out s6.out))))))
    have fX10_7 := Lib.hid (fX10_6.out.below hb t6.out.size)
    have bX1_7 := Lib.hid (bX1_6.out.below hb (Nat.le_trans s1.out (Nat.le_trans s2.out (Nat.le_trans s3.out (Nat.le_trans s4.out (Nat.le_trans s5.out s6.out))))))
    have fW0_7 := Lib.hid (fW0_6.out.below hb (Nat.le_trans s4.out (Nat.le_trans s5.out s6.out)))
    have bW_7 := Lib.hid (bW_6.out.below hb (Nat.le_trans s4.out (Nat.le_trans s5.out s6.out)))
    have fY00_7 := Lib.hid (fY00_6.out.below hb (Nat.le_trans s5.out s6.out))
    have bY0_7 := Lib.hid (bY0_6.out.below hb s6.out)
    have fY10_7 := Lib.hid (fY10_6.out.below hb (Nat.le_refl _))
    have bY1_7 := Lib.hid nb
    clear fX00_6 bX0_6 fX10_6 bX1_6 fW0_6 bW_6 fY00_6 bY0_6 fY10_6 nb hb
    refine (SecondaryChange_abs fY00_7.out.rd fY10_7.out.rd).mono ?_
    rintro e w8 ⟨AG0, cG0, rfl, oG0, hb⟩
    have t8 := Lib.hid (after t7.out hb)
    have s8 := Lib.hid hb.size
    have fX00_8 := Lib.hid (fX00_7.out.below hb t7.out.size)
    have bX0_8 := Lib.hid (bX0_7.out.below hb (Nat.le_trans s1.out (Nat.le_trans s2.out (Nat.le_trans s3.out (Nat.le_trans s4.out (Nat.le_trans s5.out (Nat.le_trans s6.out s7.out)))))))
    have fX10_8 := Lib.hid (fX10_7.out.below hb t7.out.size)
    have bX1_8 := Lib.hid (bX1_7.out.below hb (Nat.le_trans s1.out (Nat.le_trans s2.out (Nat.le_trans s3.out (Nat.le_trans s4.out (Nat.le_trans s5.out (Nat.le_trans s6.out s7.out)))))))
    have fW0_8 := Lib.hid (fW0_7.out.below hb (Nat.le_trans s4.out (Nat.le_trans s5.out (Nat.le_trans s6.out s7.out))))
    have bW_8 := Lib.hid (bW_7.out.below hb (Nat.le_trans s4.out (Nat.le_trans s5.out (Nat.le_trans s6.out s7.out))))
    have fY00_8 := Lib.hid (fY00_7.out.below hb (Nat.le_trans s5.out (Nat.le_trans s6.out s7.out)))
    have bY0_8 := Lib.hid (bY0_7.out.below hb (Nat.le_trans s6.out s7.out))
    have fY10_8 := Lib.hid (fY10_7.out.below hb s7.out)
    have bY1_8 := Lib.hid (bY1_7.out.below hb (Nat.le_refl _))
    have fG0_8 := Lib.hid oG0
    clear fX00_7 bX0_7 fX10_7 bX1_7 fW0_7 bW_7 fY00_7 bY0_7 fY10_7 bY1_7 oG0 hb
    have nb := (BoxL.new w8 #[.int .i64 ((scR a b)).k, .int .i64 ((scR a b)).p, .int .i64 ((scR a b)).n, .slice AG0 (((scR a b)).ws).length cG0] 31).mono (show w8.heap.size + 1 ≤ (w8.alloc (.cells #[.int .i64 ((scR a b)).k, .int .i64 ((scR a b)).p, .int .i64 ((scR a b)).n, .slice AG0 (((scR a b)).ws).length cG0] 31)).heap.size by simp)
    have hb : Below w8.heap.size w8 (w8.alloc (.cells #[.int .i64 ((scR a b)).k, .int .i64 ((scR a b)).p, .int .i64 ((scR a b)).n, .slice AG0 (((scR a b)).ws).length cG0] 31)) := by go_grown
    have eX00 := bX0_8.out.2 0 _ rfl
    have eX01 := bX0_8.out.2 1 _ rfl
    have eX02 := bX0_8.out.2 2 _ rfl
    have eX03 := bX0_8.out.2 3 _ rfl
    have zX0 := Nat.lt_of_lt_of_le bX0_8.out.1 (Nat.le_trans s1.out (Nat.le_trans s2.out (Nat.le_trans s3.out (Nat.le_trans s4.out (Nat.le_trans s5.out (Nat.le_trans s6.out (Nat.le_trans s7.out s8.out)))))))
    have eX10 := bX1_8.out.2 0 _ rfl
    have eX11 := bX1_8.out.2 1 _ rfl
    have eX12 := bX1_8.out.2 2 _ rfl
    have eX13 := bX1_8.out.2 3 _ rfl
    have zX1 := Nat.lt_of_lt_of_le bX1_8.out.1 (Nat.le_trans s1.out (Nat.le_trans s2.out (Nat.le_trans s3.out (Nat.le_trans s4.out (Nat.le_trans s5.out (Nat.le_trans s6.out (Nat.le_trans s7.out s8.out)))))))
    have eW0 := bW_8.out.2 0 _ rfl
    have eW1 := bW_8.out.2 1 _ rfl
    have eW2 := bW_8.out.2 2 _ rfl
    have eW3 := bW_8.out.2 3 _ rfl
    have zW := Nat.lt_of_lt_of_le bW_8.out.1 (Nat.le_trans s4.out (Nat.le_trans s5.out (Nat.le_trans s6.out (Nat.le_trans s7.out s8.out))))
    have eY00 := bY0_8.out.2 0 _ rfl
    have eY01 := bY0_8.out.2 1 _ rfl
    have eY02 := bY0_8.out.2 2 _ rfl
    have eY03 := bY0_8.out.2 3 _ rfl
    have zY0 := Nat.lt_of_lt_of_le bY0_8.out.1 (Nat.le_trans s6.out (Nat.le_trans s7.out s8.out))
    have eY10 := bY1_8.out.2 0 _ rfl
    have eY11 := bY1_8.out.2 1 _ rfl
    have eY12 := bY1_8.out.2 2 _ rfl
    have eY13 := bY1_8.out.2 3 _ rfl
    have zY1 := Nat.lt_of_lt_of_le bY1_8.out.1 s8.out
    go_wp2_with fail
    clear eX00 eX01 eX02 eX03 zX0 eX10 eX11 eX12 eX13 zX1 eW0 eW1 eW2 eW3 zW eY00 eY01 eY02 eY03 zY0 eY10 eY11 eY12 eY13 zY1
    generalize w8.alloc (.cells #[.int .i64 ((scR a b)).k, .int .i64 ((scR a b)).p, .int .i64 ((scR a b)).n, .slice AG0 (((scR a b)).ws).length cG0] 31) = w9 at *
    have t9 := Lib.hid (after t8.out hb)
    have s9 := Lib.hid hb.size
    have fX00_9 := Lib.hid (fX00_8.out.below hb t8.out.size)
    have bX0_9 := Lib.hid (bX0_8.out.below hb (Nat.le_trans s1.out (Nat.le_trans s2.out (Nat.le_trans s3.out (Nat.le_trans s4.out (Nat.le_trans s5.out (Nat.le_trans s6.out (Nat.le_trans s7.out s8.out))))))))
    have fX10_9 := Lib.hid (fX10_8.out.below hb t8.out.size)
    have bX1_9 := Lib.hid (bX1_8.out.below hb (Nat.le_trans s1.out (Nat.le_trans s2.out (Nat.le_trans s3.out (Nat.le_trans s4.out (Nat.le_trans s5.out (Nat.le_trans s6.out (Nat.le_trans s7.out s8.out))))))))
    have fW0_9 := Lib.hid (fW0_8.out.below hb (Nat.le_trans s4.out (Nat.le_trans s5.out (Nat.le_trans s6.out (Nat.le_trans s7.out s8.out)))))
    have bW_9 := Lib.hid (bW_8.out.below hb (Nat.le_trans s4.out (Nat.le_trans s5.out (Nat.le_trans s6.out (Nat.le_trans s7.out s8.out)))))
    have fY00_9 := Lib.hid (fY00_8.out.below hb (Nat.le_trans s5.out (Nat.le_trans s6.out (Nat.le_trans s7.out s8.out))))
    have bY0_9 := Lib.hid (bY0_8.out.below hb (Nat.le_trans s6.out (Nat.le_trans s7.out s8.out)))
    have fY10_9 := Lib.hid (fY10_8.out.below hb (Nat.le_trans s7.out s8.out))
    have bY1_9 := Lib.hid (bY1_8.out.below hb s8.out)
    have fG0_9 := Lib.hid (fG0_8.out.below hb (Nat.le_refl _))
    have bG_9 := Lib.hid nb
    clear fX00_8 bX0_8 fX10_8 bX1_8 fW0_8 bW_8 fY00_8 bY0_8 fY10_8 bY1_8 fG0_8 nb hb
    refine (eqA_abs fG0_9.out.rd fW0_9.out.rd).mono ?_
    rintro e w10 ⟨rfl, hb⟩
    have t10 := Lib.hid (after t9.out hb)
    have s10 := Lib.hid hb.size
    have fX00_10 := Lib.hid (fX00_9.out.below hb t9.out.size)
    have bX0_10 := Lib.hid (bX0_9.out.below hb (Nat.le_trans s1.out (Nat.le_trans s2.out (Nat.le_trans s3.out (Nat.le_trans s4.out (Nat.le_trans s5.out (Nat.le_trans s6.out (Nat.le_trans s7.out (Nat.le_trans s8.out s9.out)))))))))
    have fX10_10 := Lib.hid (fX10_9.out.below hb t9.out.size)
    have bX1_10 := Lib.hid (bX1_9.out.below hb (Nat.le_trans s1.out (Nat.le_trans s2.out (Nat.le_trans s3.out (Nat.le_trans s4.out (Nat.le_trans s5.out (Nat.le_trans s6.out (Nat.le_trans s7.out (Nat.le_trans s8.out s9.out)))))))))
    have fW0_10 := Lib.hid (fW0_9.out.below hb (Nat.le_trans s4.out (Nat.le_trans s5.out (Nat.le_trans s6.out (Nat.le_trans s7.out (Nat.le_trans s8.out s9.out))))))
    have bW_10 := Lib.hid (bW_9.out.below hb (Nat.le_trans s4.out (Nat.le_trans s5.out (Nat.le_trans s6.out (Nat.le_trans s7.out (Nat.le_trans s8.out s9.out))))))
    have fY00_10 := Lib.hid (fY00_9.out.below hb (Nat.le_trans s5.out (Nat.le_trans s6.out (Nat.le_trans s7.out (Nat.le_trans s8.out s9.out)))))
    have bY0_10 := Lib.hid (bY0_9.out.below hb (Nat.le_trans s6.out (Nat.le_trans s7.out (Nat.le_trans s8.out s9.out))))
    have fY10_10 := Lib.hid (fY10_9.out.below hb (Nat.le_trans s7.out (Nat.le_trans s8.out s9.out)))
    have bY1_10 := Lib.hid (bY1_9.out.below hb (Nat.le_trans s8.out s9.out))
    have fG0_10 := Lib.hid (fG0_9.out.below hb s9.out)
    have bG_10 := Lib.hid (bG_9.out.below hb (Nat.le_refl _))
    clear fX00_9 bX0_9 fX10_9 bX1_9 fW0_9 bW_9 fY00_9 bY0_9 fY10_9 bY1_9 fG0_9 bG_9 hb
    have eX00 := bX0_10.out.2 0 _ rfl
    have eX01 := bX0_10.out.2 1 _ rfl
    have eX02 := bX0_10.out.2 2 _ rfl
    have eX03 := bX0_10.out.2 3 _ rfl
    have zX0 := Nat.lt_of_lt_of_le bX0_10.out.1 (Nat.le_trans s1.out (Nat.le_trans s2.out (Nat.le_trans s3.out (Nat.le_trans s4.out (Nat.le_trans s5.out (Nat.le_trans s6.out (Nat.le_trans s7.out (Nat.le_trans s8.out (Nat.le_trans s9.out s10.out)))))))))
    have eX10 := bX1_10.out.2 0 _ rfl
    have eX11 := bX1_10.out.2 1 _ rfl
    have eX12 := bX1_10.out.2 2 _ rfl
    have eX13 := bX1_10.out.2 3 _ rfl
    have zX1 := Nat.lt_of_lt_of_le bX1_10.out.1 (Nat.le_trans s1.out (Nat.le_trans s2.out (Nat.le_trans s3.out (Nat.le_trans s4.out (Nat.le_trans s5.out (Nat.le_trans s6.out (Nat.le_trans s7.out (Nat.le_trans s8.out (Nat.le_trans s9.out s10.out)))))))))
    have eW0 := bW_10.out.2 0 _ rfl
    have eW1 := bW_10.out.2 1 _ rfl
    have eW2 := bW_10.out.2 2 _ rfl
    have eW3 := bW_10.out.2 3 _ rfl
    have zW := Nat.lt_of_lt_of_le bW_10.out.1 (Nat.le_trans s4.out (Nat.le_trans s5.out (Nat.le_trans s6.out (Nat.le_trans s7.out (Nat.le_trans s8.out (Nat.le_trans s9.out s10.out))))))
    have eY00 := bY0_10.out.2 0 _ rfl
    have eY01 := bY0_10.out.2 1 _ rfl
    have eY02 := bY0_10.out.2 2 _ rfl
    have eY03 := bY0_10.out.2 3 _ rfl
    have zY0 := Nat.lt_of_lt_of_le bY0_10.out.1 (Nat.le_trans s6.out (Nat.le_trans s7.out (Nat.le_trans s8.out (Nat.le_trans s9.out s10.out))))
    have eY10 := bY1_10.out.2 0 _ rfl
    have eY11 := bY1_10.out.2 1 _ rfl
    have eY12 := bY1_10.out.2 2 _ rfl
    have eY13 := bY1_10.out.2 3 _ rfl
    have zY1 := Nat.lt_of_lt_of_le bY1_10.out.1 (Nat.le_trans s8.out (Nat.le_trans s9.out s10.out))
    have eG0 := bG_10.out.2 0 _ rfl
    have eG1 := bG_10.out.2 1 _ rfl
    have eG2 := bG_10.out.2 2 _ rfl
    have eG3 := bG_10.out.2 3 _ rfl
    have zG := Nat.lt_of_lt_of_le bG_10.out.1 s10.out
    go_wp2_with fail
    go_region_held3 (fun w' => Below w10.heap.size w10 w' ∧ (∀ b o, b < w10.heap.size → w'.cell? ⟨b, o, none⟩ = w10.cell? ⟨b, o, none⟩))
      ((first | (refine mkS ?_; assumption) | (refine drewS ?_; assumption) | (refine mkS ?_; go_grown)))
      (first
        | (go_at_call 22; refine (toA_abs (B := w.heap.size) ?_).mono ?_; exact fX00_10.out.below (S1 (by assumption)) t10.out.size; rintro e v ⟨AZ00, cZ00, rfl, oZ00, hb⟩; obtain ⟨hB, hzz⟩ := callS (by assumption) (Nat.le_refl _) hb; have HBy := Lib.hid hB; clear hb)
        | (go_at_call 24; refine (eqA_abs (B := w4.heap.size) (B' := v.heap.size) ?_ ?_).mono ?_; exact fY00_10.out.rd.below HBy.out (Nat.le_trans s5.out (Nat.le_trans s6.out (Nat.le_trans s7.out (Nat.le_trans s8.out (Nat.le_trans s9.out s10.out))))); exact oZ00.rd; rintro e w11 ⟨rfl, hb⟩; obtain ⟨hB, hzz⟩ := callS (by assumption) (Nat.le_refl _) hb; have HBz := Lib.hid hB; clear hb))
    have t11 := Lib.hid (after t10.out HBz.out)
    have s11 := Lib.hid HBz.out.size
    have fX00_11 := Lib.hid (fX00_10.out.below HBz.out t10.out.size)
    have bX0_11 := Lib.hid (bX0_10.out.below HBz.out (Nat.le_trans s1.out (Nat.le_trans s2.out (Nat.le_trans s3.out (Nat.le_trans s4.out (Nat.le_trans s5.out (Nat.le_trans s6.out (Nat.le_trans s7.out (Nat.le_trans s8.out (Nat.le_trans s9.out s10.out))))))))))
    have fX10_11 := Lib.hid (fX10_10.out.below HBz.out t10.out.size)
    have bX1_11 := Lib.hid (bX1_10.out.below HBz.out (Nat.le_trans s1.out (Nat.le_trans s2.out (Nat.le_trans s3.out (Nat.le_trans s4.out (Nat.le_trans s5.out (Nat.le_trans s6.out (Nat.le_trans s7.out (Nat.le_trans s8.out (Nat.le_trans s9.out s10.out))))))))))
    have fW0_11 := Lib.hid (fW0_10.out.below HBz.out (Nat.le_trans s4.out (Nat.le_trans s5.out (Nat.le_trans s6.out (Nat.le_trans s7.out (Nat.le_trans s8.out (Nat.le_trans s9.out s10.out)))))))
    have bW_11 := Lib.hid (bW_10.out.below HBz.out (Nat.le_trans s4.out (Nat.le_trans s5.out (Nat.le_trans s6.out (Nat.le_trans s7.out (Nat.le_trans s8.out (Nat.le_trans s9.out s10.out)))))))
    have fY00_11 := Lib.hid (fY00_10.out.below HBz.out (Nat.le_trans s5.out (Nat.le_trans s6.out (Nat.le_trans s7.out (Nat.le_trans s8.out (Nat.le_trans s9.out s10.out))))))
    have bY0_11 := Lib.hid (bY0_10.out.below HBz.out (Nat.le_trans s6.out (Nat.le_trans s7.out (Nat.le_trans s8.out (Nat.le_trans s9.out s10.out)))))
    have fY10_11 := Lib.hid (fY10_10.out.below HBz.out (Nat.le_trans s7.out (Nat.le_trans s8.out (Nat.le_trans s9.out s10.out))))
    have bY1_11 := Lib.hid (bY1_10.out.below HBz.out (Nat.le_trans s8.out (Nat.le_trans s9.out s10.out)))
    have fG0_11 := Lib.hid (fG0_10.out.below HBz.out (Nat.le_trans s9.out s10.out))
    have bG_11 := Lib.hid (bG_10.out.below HBz.out s10.out)
    clear eX00 eX01 eX02 eX03 zX0 eX10 eX11 eX12 eX13 zX1 eW0 eW1 eW2 eW3 zW eY00 eY01 eY02 eY03 zY0 eY10 eY11 eY12 eY13 zY1 eG0 eG1 eG2 eG3 zG fX00_10 bX0_10 fX10_10 bX1_10 fW0_10 bW_10 fY00_10 bY0_10 fY10_10 bY1_10 fG0_10 bG_10
    have eX00 := bX0_11.out.2 0 _ rfl
    have eX01 := bX0_11.out.2 1 _ rfl
    have eX02 := bX0_11.out.2 2 _ rfl
    have eX03 := bX0_11.out.2 3 _ rfl
    have zX0 := Nat.lt_of_lt_of_le bX0_11.out.1 (Nat.le_trans s1.out (Nat.le_trans s2.out (Nat.le_trans s3.out (Nat.le_trans s4.out (Nat.le_trans s5.out (Nat.le_trans s6.out (Nat.le_trans s7.out (Nat.le_trans s8.out (Nat.le_trans s9.out (Nat.le_trans s10.out s11.out))))))))))
    have eX10 := bX1_11.out.2 0 _ rfl
    have eX11 := bX1_11.out.2 1 _ rfl
    have eX12 := bX1_11.out.2 2 _ rfl
    have eX13 := bX1_11.out.2 3 _ rfl
    have zX1 := Nat.lt_of_lt_of_le bX1_11.out.1 (Nat.le_trans s1.out (Nat.le_trans s2.out (Nat.le_trans s3.out (Nat.le_trans s4.out (Nat.le_trans s5.out (Nat.le_trans s6.out (Nat.le_trans s7.out (Nat.le_trans s8.out (Nat.le_trans s9.out (Nat.le_trans s10.out s11.out))))))))))
    have eW0 := bW_11.out.2 0 _ rfl
    have eW1 := bW_11.out.2 1 _ rfl
    have eW2 := bW_11.out.2 2 _ rfl
    have eW3 := bW_11.out.2 3 _ rfl
    have zW := Nat.lt_of_lt_of_le bW_11.out.1 (Nat.le_trans s4.out (Nat.le_trans s5.out (Nat.le_trans s6.out (Nat.le_trans s7.out (Nat.le_trans s8.out (Nat.le_trans s9.out (Nat.le_trans s10.out s11.out)))))))
    have eY00 := bY0_11.out.2 0 _ rfl
    have eY01 := bY0_11.out.2 1 _ rfl
    have eY02 := bY0_11.out.2 2 _ rfl
    have eY03 := bY0_11.out.2 3 _ rfl
    have zY0 := Nat.lt_of_lt_of_le bY0_11.out.1 (Nat.le_trans s6.out (Nat.le_trans s7.out (Nat.le_trans s8.out (Nat.le_trans s9.out (Nat.le_trans s10.out s11.out)))))
    have eY10 := bY1_11.out.2 0 _ rfl
    have eY11 := bY1_11.out.2 1 _ rfl
    have eY12 := bY1_11.out.2 2 _ rfl
    have eY13 := bY1_11.out.2 3 _ rfl
    have zY1 := Nat.lt_of_lt_of_le bY1_11.out.1 (Nat.le_trans s8.out (Nat.le_trans s9.out (Nat.le_trans s10.out s11.out)))
    have eG0 := bG_11.out.2 0 _ rfl
    have eG1 := bG_11.out.2 1 _ rfl
    have eG2 := bG_11.out.2 2 _ rfl
    have eG3 := bG_11.out.2 3 _ rfl
    have zG := Nat.lt_of_lt_of_le bG_11.out.1 (Nat.le_trans s10.out s11.out)
    go_wp2_with fail
    go_region_held3 (fun w' => Below w11.heap.size w11 w' ∧ (∀ b o, b < w11.heap.size → w'.cell? ⟨b, o, none⟩ = w11.cell? ⟨b, o, none⟩))
      ((first | (refine mkS ?_; assumption) | (refine drewS ?_; assumption) | (refine mkS ?_; go_grown)))
      (first
        | (go_at_call 22; refine (toA_abs (B := w.heap.size) ?_).mono ?_; exact fX10_11.out.below (S1 (by assumption)) t11.out.size; rintro e v ⟨AZ10, cZ10, rfl, oZ10, hb⟩; obtain ⟨hB, hzz⟩ := callS (by assumption) (Nat.le_refl _) hb; have HBy := Lib.hid hB; clear hb)
        | (go_at_call 24; refine (eqA_abs (B := w6.heap.size) (B' := v.heap.size) ?_ ?_).mono ?_; exact fY10_11.out.rd.below HBy.out (Nat.le_trans s7.out (Nat.le_trans s8.out (Nat.le_trans s9.out (Nat.le_trans s10.out s11.out)))); exact oZ10.rd; rintro e w12 ⟨rfl, hb⟩; obtain ⟨hB, hzz⟩ := callS (by assumption) (Nat.le_refl _) hb; have HBz := Lib.hid hB; clear hb))
    have t12 := Lib.hid (after t11.out HBz.out)
    have s12 := Lib.hid HBz.out.size
    have fX00_12 := Lib.hid (fX00_11.out.below HBz.out t11.out.size)
    have bX0_12 := Lib.hid (bX0_11.out.below HBz.out (Nat.le_trans s1.out (Nat.le_trans s2.out (Nat.le_trans s3.out (Nat.le_trans s4.out (Nat.le_trans s5.out (Nat.le_trans s6.out (Nat.le_trans s7.out (Nat.le_trans s8.out (Nat.le_trans s9.out (Nat.le_trans s10.out s11.out)))))))))))
    have fX10_12 := Lib.hid (fX10_11.out.below HBz.out t11.out.size)
    have bX1_12 := Lib.hid (bX1_11.out.below HBz.out (Nat.le_trans s1.out (Nat.le_trans s2.out (Nat.le_trans s3.out (Nat.le_trans s4.out (Nat.le_trans s5.out (Nat.le_trans s6.out (Nat.le_trans s7.out (Nat.le_trans s8.out (Nat.le_trans s9.out (Nat.le_trans s10.out s11.out)))))))))))
    have fW0_12 := Lib.hid (fW0_11.out.below HBz.out (Nat.le_trans s4.out (Nat.le_trans s5.out (Nat.le_trans s6.out (Nat.le_trans s7.out (Nat.le_trans s8.out (Nat.le_trans s9.out (Nat.le_trans s10.out s11.out))))))))
    have bW_12 := Lib.hid (bW_11.out.below HBz.out (Nat.le_trans s4.out (Nat.le_trans s5.out (Nat.le_trans s6.out (Nat.le_trans s7.out (Nat.le_trans s8.out (Nat.le_trans s9.out (Nat.le_trans s10.out s11.out))))))))
    have fY00_12 := Lib.hid (fY00_11.out.below HBz.out (Nat.le_trans s5.out (Nat.le_trans s6.out (Nat.le_trans s7.out (Nat.le_trans s8.out (Nat.le_trans s9.out (Nat.le_trans s10.out s11.out)))))))
    have bY0_12 := Lib.hid (bY0_11.out.below HBz.out (Nat.le_trans s6.out (Nat.le_trans s7.out (Nat.le_trans s8.out (Nat.le_trans s9.out (Nat.le_trans s10.out s11.out))))))
    have fY10_12 := Lib.hid (fY10_11.out.below HBz.out (Nat.le_trans s7.out (Nat.le_trans s8.out (Nat.le_trans s9.out (Nat.le_trans s10.out s11.out)))))
    have bY1_12 := Lib.hid (bY1_11.out.below HBz.out (Nat.le_trans s8.out (Nat.le_trans s9.out (Nat.le_trans s10.out s11.out))))
    have fG0_12 := Lib.hid (fG0_11.out.below HBz.out (Nat.le_trans s9.out (Nat.le_trans s10.out s11.out)))
    have bG_12 := Lib.hid (bG_11.out.below HBz.out (Nat.le_trans s10.out s11.out))
    clear eX00 eX01 eX02 eX03 zX0 eX10 eX11 eX12 eX13 zX1 eW0 eW1 eW2 eW3 zW eY00 eY01 eY02 eY03 zY0 eY10 eY11 eY12 eY13 zY1 eG0 eG1 eG2 eG3 zG fX00_11 bX0_11 fX10_11 bX1_11 fW0_11 bW_11 fY00_11 bY0_11 fY10_11 bY1_11 fG0_11 bG_11
    have eX00 := bX0_12.out.2 0 _ rfl
    have eX01 := bX0_12.out.2 1 _ rfl
    have eX02 := bX0_12.out.2 2 _ rfl
    have eX03 := bX0_12.out.2 3 _ rfl
    have zX0 := Nat.lt_of_lt_of_le bX0_12.out.1 (Nat.le_trans s1.out (Nat.le_trans s2.out (Nat.le_trans s3.out (Nat.le_trans s4.out (Nat.le_trans s5.out (Nat.le_trans s6.out (Nat.le_trans s7.out (Nat.le_trans s8.out (Nat.le_trans s9.out (Nat.le_trans s10.out (Nat.le_trans s11.out s12.out)))))))))))
    have eX10 := bX1_12.out.2 0 _ rfl
    have eX11 := bX1_12.out.2 1 _ rfl
    have eX12 := bX1_12.out.2 2 _ rfl
    have eX13 := bX1_12.out.2 3 _ rfl
    have zX1 := Nat.lt_of_lt_of_le bX1_12.out.1 (Nat.le_trans s1.out (Nat.le_trans s2.out (Nat.le_trans s3.out (Nat.le_trans s4.out (Nat.le_trans s5.out (Nat.le_trans s6.out (Nat.le_trans s7.out (Nat.le_trans s8.out (Nat.le_trans s9.out (Nat.le_trans s10.out (Nat.le_trans s11.out s12.out)))))))))))
    have eW0 := bW_12.out.2 0 _ rfl
    have eW1 := bW_12.out.2 1 _ rfl
    have eW2 := bW_12.out.2 2 _ rfl
    have eW3 := bW_12.out.2 3 _ rfl
    have zW := Nat.lt_of_lt_of_le bW_12.out.1 (Nat.le_trans s4.out (Nat.le_trans s5.out (Nat.le_trans s6.out (Nat.le_trans s7.out (Nat.le_trans s8.out (Nat.le_trans s9.out (Nat.le_trans s10.out (Nat.le_trans s11.out s12.out))))))))
    have eY00 := bY0_12.out.2 0 _ rfl
    have eY01 := bY0_12.out.2 1 _ rfl
    have eY02 := bY0_12.out.2 2 _ rfl
    have eY03 := bY0_12.out.2 3 _ rfl
    have zY0 := Nat.lt_of_lt_of_le bY0_12.out.1 (Nat.le_trans s6.out (Nat.le_trans s7.out (Nat.le_trans s8.out (Nat.le_trans s9.out (Nat.le_trans s10.out (Nat.le_trans s11.out s12.out))))))
    have eY10 := bY1_12.out.2 0 _ rfl
    have eY11 := bY1_12.out.2 1 _ rfl
    have eY12 := bY1_12.out.2 2 _ rfl
    have eY13 := bY1_12.out.2 3 _ rfl
    have zY1 := Nat.lt_of_lt_of_le bY1_12.out.1 (Nat.le_trans s8.out (Nat.le_trans s9.out (Nat.le_trans s10.out (Nat.le_trans s11.out s12.out))))
    have eG0 := bG_12.out.2 0 _ rfl
    have eG1 := bG_12.out.2 1 _ rfl
    have eG2 := bG_12.out.2 2 _ rfl
    have eG3 := bG_12.out.2 3 _ rfl
    have zG := Nat.lt_of_lt_of_le bG_12.out.1 (Nat.le_trans s10.out (Nat.le_trans s11.out s12.out))
    go_wp2_with fail
    clear eX00 eX01 eX02 eX03 zX0 eX10 eX11 eX12 eX13 zX1 eW0 eW1 eW2 eW3 zW eY00 eY01 eY02 eY03 zY0 eY10 eY11 eY12 eY13 zY1 eG0 eG1 eG2 eG3 zG
    have lnY00 := fY00_12.out.2.2.1
    refine (markA_abs' 1 1 (by simp) fY00_12.out (by omega) (by omega)).mono ?_
    rintro e w13 ⟨rfl, oY00, ho⟩
    have t13 := Lib.hid (t12.out.trans (ho.below (Nat.le_trans s4.out (Nat.le_trans s5.out (Nat.le_trans s6.out (Nat.le_trans s7.out (Nat.le_trans s8.out (Nat.le_trans s9.out (Nat.le_trans s10.out (Nat.le_trans s11.out s12.out)))))))) |>.mono t3.out.size))
    have s13 := Lib.hid ho.size
    have fX00_13 := Lib.hid (fX00_12.out.below (ho.below (Nat.le_trans s4.out (Nat.le_trans s5.out (Nat.le_trans s6.out (Nat.le_trans s7.out (Nat.le_trans s8.out (Nat.le_trans s9.out (Nat.le_trans s10.out (Nat.le_trans s11.out s12.out))))))))) t3.out.size)
    have bX0_13 := Lib.hid (bX0_12.out.below (ho.below (Nat.le_trans s4.out (Nat.le_trans s5.out (Nat.le_trans s6.out (Nat.le_trans s7.out (Nat.le_trans s8.out (Nat.le_trans s9.out (Nat.le_trans s10.out (Nat.le_trans s11.out s12.out))))))))) (Nat.le_trans s1.out (Nat.le_trans s2.out s3.out)))
    have fX10_13 := Lib.hid (fX10_12.out.below (ho.below (Nat.le_trans s4.out (Nat.le_trans s5.out (Nat.le_trans s6.out (Nat.le_trans s7.out (Nat.le_trans s8.out (Nat.le_trans s9.out (Nat.le_trans s10.out (Nat.le_trans s11.out s12.out))))))))) t3.out.size)
    have bX1_13 := Lib.hid (bX1_12.out.below (ho.below (Nat.le_trans s4.out (Nat.le_trans s5.out (Nat.le_trans s6.out (Nat.le_trans s7.out (Nat.le_trans s8.out (Nat.le_trans s9.out (Nat.le_trans s10.out (Nat.le_trans s11.out s12.out))))))))) (Nat.le_trans s1.out (Nat.le_trans s2.out s3.out)))
    have fW0_13 := Lib.hid (fW0_12.out.only ho (.inl (Nat.le_refl _)))
    have bW_13 := Lib.hid (bW_12.out.below (ho.below (Nat.le_trans s4.out (Nat.le_trans s5.out (Nat.le_trans s6.out (Nat.le_trans s7.out (Nat.le_trans s8.out (Nat.le_trans s9.out (Nat.le_trans s10.out (Nat.le_trans s11.out s12.out))))))))) (Nat.le_refl _))
    have bY0_13 := Lib.hid (bY0_12.out.only ho (Nat.le_refl _) (Nat.lt_of_lt_of_le bY0_12.out.1 (Nat.le_trans s6.out (Nat.le_trans s7.out (Nat.le_trans s8.out (Nat.le_trans s9.out (Nat.le_trans s10.out (Nat.le_trans s11.out s12.out))))))))
    have fY10_13 := Lib.hid (fY10_12.out.only ho (.inr s5.out))
    have bY1_13 := Lib.hid (bY1_12.out.only ho (Nat.le_trans s5.out s6.out) (Nat.lt_of_lt_of_le bY1_12.out.1 (Nat.le_trans s8.out (Nat.le_trans s9.out (Nat.le_trans s10.out (Nat.le_trans s11.out s12.out))))))
    have fG0_13 := Lib.hid (fG0_12.out.only ho (.inr (Nat.le_trans s5.out (Nat.le_trans s6.out s7.out))))
    have bG_13 := Lib.hid (bG_12.out.only ho (Nat.le_trans s5.out (Nat.le_trans s6.out (Nat.le_trans s7.out s8.out))) (Nat.lt_of_lt_of_le bG_12.out.1 (Nat.le_trans s10.out (Nat.le_trans s11.out s12.out))))
    have fY00_13 := Lib.hid oY00
    clear fX00_12 bX0_12 fX10_12 bX1_12 fW0_12 bW_12 bY0_12 fY10_12 bY1_12 fG0_12 bG_12 fY00_12 oY00 ho
    have eX00 := bX0_13.out.2 0 _ rfl
    have eX01 := bX0_13.out.2 1 _ rfl
    have eX02 := bX0_13.out.2 2 _ rfl
    have eX03 := bX0_13.out.2 3 _ rfl
    have zX0 := Nat.lt_of_lt_of_le bX0_13.out.1 (Nat.le_trans s1.out (Nat.le_trans s2.out (Nat.le_trans s3.out (Nat.le_trans s4.out (Nat.le_trans s5.out (Nat.le_trans s6.out (Nat.le_trans s7.out (Nat.le_trans s8.out (Nat.le_trans s9.out (Nat.le_trans s10.out (Nat.le_trans s11.out (Nat.le_trans s12.out s13.out))))))))))))
    have eX10 := bX1_13.out.2 0 _ rfl
    have eX11 := bX1_13.out.2 1 _ rfl
    have eX12 := bX1_13.out.2 2 _ rfl
    have eX13 := bX1_13.out.2 3 _ rfl
    have zX1 := Nat.lt_of_lt_of_le bX1_13.out.1 (Nat.le_trans s1.out (Nat.le_trans s2.out (Nat.le_trans s3.out (Nat.le_trans s4.out (Nat.le_trans s5.out (Nat.le_trans s6.out (Nat.le_trans s7.out (Nat.le_trans s8.out (Nat.le_trans s9.out (Nat.le_trans s10.out (Nat.le_trans s11.out (Nat.le_trans s12.out s13.out))))))))))))
    have eW0 := bW_13.out.2 0 _ rfl
    have eW1 := bW_13.out.2 1 _ rfl
    have eW2 := bW_13.out.2 2 _ rfl
    have eW3 := bW_13.out.2 3 _ rfl
    have zW := Nat.lt_of_lt_of_le bW_13.out.1 (Nat.le_trans s4.out (Nat.le_trans s5.out (Nat.le_trans s6.out (Nat.le_trans s7.out (Nat.le_trans s8.out (Nat.le_trans s9.out (Nat.le_trans s10.out (Nat.le_trans s11.out (Nat.le_trans s12.out s13.out)))))))))
    have eY00 := bY0_13.out.2 0 _ rfl
    have eY01 := bY0_13.out.2 1 _ rfl
    have eY02 := bY0_13.out.2 2 _ rfl
    have eY03 := bY0_13.out.2 3 _ rfl
    have zY0 := Nat.lt_of_lt_of_le bY0_13.out.1 (Nat.le_trans s6.out (Nat.le_trans s7.out (Nat.le_trans s8.out (Nat.le_trans s9.out (Nat.le_trans s10.out (Nat.le_trans s11.out (Nat.le_trans s12.out s13.out)))))))
    have eY10 := bY1_13.out.2 0 _ rfl
    have eY11 := bY1_13.out.2 1 _ rfl
    have eY12 := bY1_13.out.2 2 _ rfl
    have eY13 := bY1_13.out.2 3 _ rfl
    have zY1 := Nat.lt_of_lt_of_le bY1_13.out.1 (Nat.le_trans s8.out (Nat.le_trans s9.out (Nat.le_trans s10.out (Nat.le_trans s11.out (Nat.le_trans s12.out s13.out)))))
    have eG0 := bG_13.out.2 0 _ rfl
    have eG1 := bG_13.out.2 1 _ rfl
    have eG2 := bG_13.out.2 2 _ rfl
    have eG3 := bG_13.out.2 3 _ rfl
    have zG := Nat.lt_of_lt_of_le bG_13.out.1 (Nat.le_trans s10.out (Nat.le_trans s11.out (Nat.le_trans s12.out s13.out)))
    go_wp2_with fail
    clear eX00 eX01 eX02 eX03 zX0 eX10 eX11 eX12 eX13 zX1 eW0 eW1 eW2 eW3 zW eY00 eY01 eY02 eY03 zY0 eY10 eY11 eY12 eY13 zY1 eG0 eG1 eG2 eG3 zG
    have lnY10 := fY10_13.out.2.2.1
    refine (markA_abs' (1 + (a).ws.length) (1 + ((a).ws.length : Int)) (by simp) fY10_13.out (by omega) (by omega)).mono ?_
    rintro e w14 ⟨rfl, oY10, ho⟩
    have t14 := Lib.hid (t13.out.trans (ho.below (Nat.le_trans s6.out (Nat.le_trans s7.out (Nat.le_trans s8.out (Nat.le_trans s9.out (Nat.le_trans s10.out (Nat.le_trans s11.out (Nat.le_trans s12.out s13.out))))))) |>.mono t5.out.size))
    have s14 := Lib.hid ho.size
    have fX00_14 := Lib.hid (fX00_13.out.below (ho.below (Nat.le_trans s6.out (Nat.le_trans s7.out (Nat.le_trans s8.out (Nat.le_trans s9.out (Nat.le_trans s10.out (Nat.le_trans s11.out (Nat.le_trans s12.out s13.out)))))))) t5.out.size)
    have bX0_14 := Lib.hid (bX0_13.out.below (ho.below (Nat.le_trans s6.out (Nat.le_trans s7.out (Nat.le_trans s8.out (Nat.le_trans s9.out (Nat.le_trans s10.out (Nat.le_trans s11.out (Nat.le_trans s12.out s13.out)))))))) (Nat.le_trans s1.out (Nat.le_trans s2.out (Nat.le_trans s3.out (Nat.le_trans s4.out s5.out)))))
    have fX10_14 := Lib.hid (fX10_13.out.below (ho.below (Nat.le_trans s6.out (Nat.le_trans s7.out (Nat.le_trans s8.out (Nat.le_trans s9.out (Nat.le_trans s10.out (Nat.le_trans s11.out (Nat.le_trans s12.out s13.out)))))))) t5.out.size)
    have bX1_14 := Lib.hid (bX1_13.out.below (ho.below (Nat.le_trans s6.out (Nat.le_trans s7.out (Nat.le_trans s8.out (Nat.le_trans s9.out (Nat.le_trans s10.out (Nat.le_trans s11.out (Nat.le_trans s12.out s13.out)))))))) (Nat.le_trans s1.out (Nat.le_trans s2.out (Nat.le_trans s3.out (Nat.le_trans s4.out s5.out)))))
    have fW0_14 := Lib.hid (fW0_13.out.only ho (.inl (Nat.le_trans s4.out s5.out)))
    have bW_14 := Lib.hid (bW_13.out.below (ho.below (Nat.le_trans s6.out (Nat.le_trans s7.out (Nat.le_trans s8.out (Nat.le_trans s9.out (Nat.le_trans s10.out (Nat.le_trans s11.out (Nat.le_trans s12.out s13.out)))))))) (Nat.le_trans s4.out s5.out))
    have fY00_14 := Lib.hid (fY00_13.out.only ho (.inl s5.out))
    have bY0_14 := Lib.hid (bY0_13.out.below (ho.below (Nat.le_trans s6.out (Nat.le_trans s7.out (Nat.le_trans s8.out (Nat.le_trans s9.out (Nat.le_trans s10.out (Nat.le_trans s11.out (Nat.le_trans s12.out s13.out)))))))) (Nat.le_refl _))
    have bY1_14 := Lib.hid (bY1_13.out.only ho (Nat.le_refl _) (Nat.lt_of_lt_of_le bY1_13.out.1 (Nat.le_trans s8.out (Nat.le_trans s9.out (Nat.le_trans s10.out (Nat.le_trans s11.out (Nat.le_trans s12.out s13.out)))))))
    have fG0_14 := Lib.hid (fG0_13.out.only ho (.inr s7.out))
    have bG_14 := Lib.hid (bG_13.out.only ho (Nat.le_trans s7.out s8.out) (Nat.lt_of_lt_of_le bG_13.out.1 (Nat.le_trans s10.out (Nat.le_trans s11.out (Nat.le_trans s12.out s13.out)))))
    have fY10_14 := Lib.hid oY10
    clear fX00_13 bX0_13 fX10_13 bX1_13 fW0_13 bW_13 fY00_13 bY0_13 bY1_13 fG0_13 bG_13 fY10_13 oY10 ho
    clear fY00_14 bY0_14 fY10_14 bY1_14
    have eX00 := bX0_14.out.2 0 _ rfl
    have eX01 := bX0_14.out.2 1 _ rfl
    have eX02 := bX0_14.out.2 2 _ rfl
    have eX03 := bX0_14.out.2 3 _ rfl
    have zX0 := Nat.lt_of_lt_of_le bX0_14.out.1 (Nat.le_trans s1.out (Nat.le_trans s2.out (Nat.le_trans s3.out (Nat.le_trans s4.out (Nat.le_trans s5.out (Nat.le_trans s6.out (Nat.le_trans s7.out (Nat.le_trans s8.out (Nat.le_trans s9.out (Nat.le_trans s10.out (Nat.le_trans s11.out (Nat.le_trans s12.out (Nat.le_trans s13.out s14.out)))))))))))))
    have eX10 := bX1_14.out.2 0 _ rfl
    have eX11 := bX1_14.out.2 1 _ rfl
    have eX12 := bX1_14.out.2 2 _ rfl
    have eX13 := bX1_14.out.2 3 _ rfl
    have zX1 := Nat.lt_of_lt_of_le bX1_14.out.1 (Nat.le_trans s1.out (Nat.le_trans s2.out (Nat.le_trans s3.out (Nat.le_trans s4.out (Nat.le_trans s5.out (Nat.le_trans s6.out (Nat.le_trans s7.out (Nat.le_trans s8.out (Nat.le_trans s9.out (Nat.le_trans s10.out (Nat.le_trans s11.out (Nat.le_trans s12.out (Nat.le_trans s13.out s14.out)))))))))))))
    have eW0 := bW_14.out.2 0 _ rfl
    have eW1 := bW_14.out.2 1 _ rfl
    have eW2 := bW_14.out.2 2 _ rfl
    have eW3 := bW_14.out.2 3 _ rfl
    have zW := Nat.lt_of_lt_of_le bW_14.out.1 (Nat.le_trans s4.out (Nat.le_trans s5.out (Nat.le_trans s6.out (Nat.le_trans s7.out (Nat.le_trans s8.out (Nat.le_trans s9.out (Nat.le_trans s10.out (Nat.le_trans s11.out (Nat.le_trans s12.out (Nat.le_trans s13.out s14.out))))))))))
    have eG0 := bG_14.out.2 0 _ rfl
    have eG1 := bG_14.out.2 1 _ rfl
    have eG2 := bG_14.out.2 2 _ rfl
    have eG3 := bG_14.out.2 3 _ rfl
    have zG := Nat.lt_of_lt_of_le bG_14.out.1 (Nat.le_trans s10.out (Nat.le_trans s11.out (Nat.le_trans s12.out (Nat.le_trans s13.out s14.out))))
    go_wp2_with fail
    clear eX00 eX01 eX02 eX03 zX0 eX10 eX11 eX12 eX13 zX1 eW0 eW1 eW2 eW3 zW eG0 eG1 eG2 eG3 zG
    refine (eqA_abs fG0_14.out.rd fW0_14.out.rd).mono ?_
    rintro e w15 ⟨rfl, hb⟩
    have t15 := Lib.hid (after t14.out hb)
    have s15 := Lib.hid hb.size
    have fX00_15 := Lib.hid (fX00_14.out.below hb t14.out.size)
    have bX0_15 := Lib.hid (bX0_14.out.below hb (Nat.le_trans s1.out (Nat.le_trans s2.out (Nat.le_trans s3.out (Nat.le_trans s4.out (Nat.le_trans s5.out (Nat.le_trans s6.out (Nat.le_trans s7.out (Nat.le_trans s8.out (Nat.le_trans s9.out (Nat.le_trans s10.out (Nat.le_trans s11.out (Nat.le_trans s12.out (Nat.le_trans s13.out s14.out))))))))))))))
    have fX10_15 := Lib.hid (fX10_14.out.below hb t14.out.size)
    have bX1_15 := Lib.hid (bX1_14.out.below hb (Nat.le_trans s1.out (Nat.le_trans s2.out (Nat.le_trans s3.out (Nat.le_trans s4.out (Nat.le_trans s5.out (Nat.le_trans s6.out (Nat.le_trans s7.out (Nat.le_trans s8.out (Nat.le_trans s9.out (Nat.le_trans s10.out (Nat.le_trans s11.out (Nat.le_trans s12.out (Nat.le_trans s13.out s14.out))))))))))))))
    have fW0_15 := Lib.hid (fW0_14.out.below hb (Nat.le_trans s4.out (Nat.le_trans s5.out (Nat.le_trans s6.out (Nat.le_trans s7.out (Nat.le_trans s8.out (Nat.le_trans s9.out (Nat.le_trans s10.out (Nat.le_trans s11.out (Nat.le_trans s12.out (Nat.le_trans s13.out s14.out)))))))))))
    have bW_15 := Lib.hid (bW_14.out.below hb (Nat.le_trans s4.out (Nat.le_trans s5.out (Nat.le_trans s6.out (Nat.le_trans s7.out (Nat.le_trans s8.out (Nat.le_trans s9.out (Nat.le_trans s10.out (Nat.le_trans s11.out (Nat.le_trans s12.out (Nat.le_trans s13.out s14.out)))))))))))
    have fG0_15 := Lib.hid (fG0_14.out.below hb (Nat.le_trans s9.out (Nat.le_trans s10.out (Nat.le_trans s11.out (Nat.le_trans s12.out (Nat.le_trans s13.out s14.out))))))
    have bG_15 := Lib.hid (bG_14.out.below hb (Nat.le_trans s10.out (Nat.le_trans s11.out (Nat.le_trans s12.out (Nat.le_trans s13.out s14.out)))))
    clear fX00_14 bX0_14 fX10_14 bX1_14 fW0_14 bW_14 fG0_14 bG_14 hb
    have eX00 := bX0_15.out.2 0 _ rfl
    have eX01 := bX0_15.out.2 1 _ rfl
    have eX02 := bX0_15.out.2 2 _ rfl
    have eX03 := bX0_15.out.2 3 _ rfl
    have zX0 := Nat.lt_of_lt_of_le bX0_15.out.1 (Nat.le_trans s1.out (Nat.le_trans s2.out (Nat.le_trans s3.out (Nat.le_trans s4.out (Nat.le_trans s5.out (Nat.le_trans s6.out (Nat.le_trans s7.out (Nat.le_trans s8.out (Nat.le_trans s9.out (Nat.le_trans s10.out (Nat.le_trans s11.out (Nat.le_trans s12.out (Nat.le_trans s13.out (Nat.le_trans s14.out s15.out))))))))))))))
    have eX10 := bX1_15.out.2 0 _ rfl
    have eX11 := bX1_15.out.2 1 _ rfl
    have eX12 := bX1_15.out.2 2 _ rfl
    have eX13 := bX1_15.out.2 3 _ rfl
    have zX1 := Nat.lt_of_lt_of_le bX1_15.out.1 (Nat.le_trans s1.out (Nat.le_trans s2.out (Nat.le_trans s3.out (Nat.le_trans s4.out (Nat.le_trans s5.out (Nat.le_trans s6.out (Nat.le_trans s7.out (Nat.le_trans s8.out (Nat.le_trans s9.out (Nat.le_trans s10.out (Nat.le_trans s11.out (Nat.le_trans s12.out (Nat.le_trans s13.out (Nat.le_trans s14.out s15.out))))))))))))))
    have eW0 := bW_15.out.2 0 _ rfl
    have eW1 := bW_15.out.2 1 _ rfl
    have eW2 := bW_15.out.2 2 _ rfl
    have eW3 := bW_15.out.2 3 _ rfl
    have zW := Nat.lt_of_lt_of_le bW_15.out.1 (Nat.le_trans s4.out (Nat.le_trans s5.out (Nat.le_trans s6.out (Nat.le_trans s7.out (Nat.le_trans s8.out (Nat.le_trans s9.out (Nat.le_trans s10.out (Nat.le_trans s11.out (Nat.le_trans s12.out (Nat.le_trans s13.out (Nat.le_trans s14.out s15.out)))))))))))
    have eG0 := bG_15.out.2 0 _ rfl
    have eG1 := bG_15.out.2 1 _ rfl
    have eG2 := bG_15.out.2 2 _ rfl
    have eG3 := bG_15.out.2 3 _ rfl
    have zG := Nat.lt_of_lt_of_le bG_15.out.1 (Nat.le_trans s10.out (Nat.le_trans s11.out (Nat.le_trans s12.out (Nat.le_trans s13.out (Nat.le_trans s14.out s15.out)))))
    go_wp2_with fail
    clear eX00 eX01 eX02 eX03 zX0 eX10 eX11 eX12 eX13 zX1 eW0 eW1 eW2 eW3 zW eG0 eG1 eG2 eG3 zG
    have lnG0 := fG0_15.out.2.2.1
    refine (markA_abs' 1 1 (by simp) fG0_15.out (by omega) (by omega)).mono ?_
    rintro e w16 ⟨rfl, oG0, ho⟩
    have t16 := Lib.hid (t15.out.trans (ho.below (Nat.le_trans s8.out (Nat.le_trans s9.out (Nat.le_trans s10.out (Nat.le_trans s11.out (Nat.le_trans s12.out (Nat.le_trans s13.out (Nat.le_trans s14.out s15.out))))))) |>.mono t7.out.size))
    have s16 := Lib.hid ho.size
    have fX00_16 := Lib.hid (fX00_15.out.below (ho.below (Nat.le_trans s8.out (Nat.le_trans s9.out (Nat.le_trans s10.out (Nat.le_trans s11.out (Nat.le_trans s12.out (Nat.le_trans s13.out (Nat.le_trans s14.out s15.out)))))))) t7.out.size)
    have bX0_16 := Lib.hid (bX0_15.out.below (ho.below (Nat.le_trans s8.out (Nat.le_trans s9.out (Nat.le_trans s10.out (Nat.le_trans s11.out (Nat.le_trans s12.out (Nat.le_trans s13.out (Nat.le_trans s14.out s15.out)))))))) (Nat.le_trans s1.out (Nat.le_trans s2.out (Nat.le_trans s3.out (Nat.le_trans s4.out (Nat.le_trans s5.out (Nat.le_trans s6.out s7.out)))))))
    have fX10_16 := Lib.hid (fX10_15.out.below (ho.below (Nat.le_trans s8.out (Nat.le_trans s9.out (Nat.le_trans s10.out (Nat.le_trans s11.out (Nat.le_trans s12.out (Nat.le_trans s13.out (Nat.le_trans s14.out s15.out)))))))) t7.out.size)
    have bX1_16 := Lib.hid (bX1_15.out.below (ho.below (Nat.le_trans s8.out (Nat.le_trans s9.out (Nat.le_trans s10.out (Nat.le_trans s11.out (Nat.le_trans s12.out (Nat.le_trans s13.out (Nat.le_trans s14.out s15.out)))))))) (Nat.le_trans s1.out (Nat.le_trans s2.out (Nat.le_trans s3.out (Nat.le_trans s4.out (Nat.le_trans s5.out (Nat.le_trans s6.out s7.out)))))))
    have fW0_16 := Lib.hid (fW0_15.out.only ho (.inl (Nat.le_trans s4.out (Nat.le_trans s5.out (Nat.le_trans s6.out s7.out)))))
    have bW_16 := Lib.hid (bW_15.out.below (ho.below (Nat.le_trans s8.out (Nat.le_trans s9.out (Nat.le_trans s10.out (Nat.le_trans s11.out (Nat.le_trans s12.out (Nat.le_trans s13.out (Nat.le_trans s14.out s15.out)))))))) (Nat.le_trans s4.out (Nat.le_trans s5.out (Nat.le_trans s6.out s7.out))))
    have bG_16 := Lib.hid (bG_15.out.only ho (Nat.le_refl _) (Nat.lt_of_lt_of_le bG_15.out.1 (Nat.le_trans s10.out (Nat.le_trans s11.out (Nat.le_trans s12.out (Nat.le_trans s13.out (Nat.le_trans s14.out s15.out)))))))
    have fG0_16 := Lib.hid oG0
    clear fX00_15 bX0_15 fX10_15 bX1_15 fW0_15 bW_15 bG_15 fG0_15 oG0 ho
    have eX00 := bX0_16.out.2 0 _ rfl
    have eX01 := bX0_16.out.2 1 _ rfl
    have eX02 := bX0_16.out.2 2 _ rfl
    have eX03 := bX0_16.out.2 3 _ rfl
    have zX0 := Nat.lt_of_lt_of_le bX0_16.out.1 (Nat.le_trans s1.out (Nat.le_trans s2.out (Nat.le_trans s3.out (Nat.le_trans s4.out (Nat.le_trans s5.out (Nat.le_trans s6.out (Nat.le_trans s7.out (Nat.le_trans s8.out (Nat.le_trans s9.out (Nat.le_trans s10.out (Nat.le_trans s11.out (Nat.le_trans s12.out (Nat.le_trans s13.out (Nat.le_trans s14.out (Nat.le_trans s15.out s16.out)))))))))))))))
    have eX10 := bX1_16.out.2 0 _ rfl
    have eX11 := bX1_16.out.2 1 _ rfl
    have eX12 := bX1_16.out.2 2 _ rfl
    have eX13 := bX1_16.out.2 3 _ rfl
    have zX1 := Nat.lt_of_lt_of_le bX1_16.out.1 (Nat.le_trans s1.out (Nat.le_trans s2.out (Nat.le_trans s3.out (Nat.le_trans s4.out (Nat.le_trans s5.out (Nat.le_trans s6.out (Nat.le_trans s7.out (Nat.le_trans s8.out (Nat.le_trans s9.out (Nat.le_trans s10.out (Nat.le_trans s11.out (Nat.le_trans s12.out (Nat.le_trans s13.out (Nat.le_trans s14.out (Nat.le_trans s15.out s16.out)))))))))))))))
    have eW0 := bW_16.out.2 0 _ rfl
    have eW1 := bW_16.out.2 1 _ rfl
    have eW2 := bW_16.out.2 2 _ rfl
    have eW3 := bW_16.out.2 3 _ rfl
    have zW := Nat.lt_of_lt_of_le bW_16.out.1 (Nat.le_trans s4.out (Nat.le_trans s5.out (Nat.le_trans s6.out (Nat.le_trans s7.out (Nat.le_trans s8.out (Nat.le_trans s9.out (Nat.le_trans s10.out (Nat.le_trans s11.out (Nat.le_trans s12.out (Nat.le_trans s13.out (Nat.le_trans s14.out (Nat.le_trans s15.out s16.out))))))))))))
    have eG0 := bG_16.out.2 0 _ rfl
    have eG1 := bG_16.out.2 1 _ rfl
    have eG2 := bG_16.out.2 2 _ rfl
    have eG3 := bG_16.out.2 3 _ rfl
    have zG := Nat.lt_of_lt_of_le bG_16.out.1 (Nat.le_trans s10.out (Nat.le_trans s11.out (Nat.le_trans s12.out (Nat.le_trans s13.out (Nat.le_trans s14.out (Nat.le_trans s15.out s16.out))))))
    go_wp2_with fail
    clear eX00 eX01 eX02 eX03 zX0 eX10 eX11 eX12 eX13 zX1 eW0 eW1 eW2 eW3 zW eG0 eG1 eG2 eG3 zG
    refine (heldA_abs' 1 1 (by simp) fG0_16.out.rd (by omega) (by omega)).mono ?_
    rintro e w17 ⟨rfl, hb⟩
    have t17 := Lib.hid (after t16.out hb)
    have s17 := Lib.hid hb.size
    have fX00_17 := Lib.hid (fX00_16.out.below hb t16.out.size)
    have bX0_17 := Lib.hid (bX0_16.out.below hb (Nat.le_trans s1.out (Nat.le_trans s2.out (Nat.le_trans s3.out (Nat.le_trans s4.out (Nat.le_trans s5.out (Nat.le_trans s6.out (Nat.le_trans s7.out (Nat.le_trans s8.out (Nat.le_trans s9.out (Nat.le_trans s10.out (Nat.le_trans s11.out (Nat.le_trans s12.out (Nat.le_trans s13.out (Nat.le_trans s14.out (Nat.le_trans s15.out s16.out))))))))))))))))
    have fX10_17 := Lib.hid (fX10_16.out.below hb t16.out.size)
    have bX1_17 := Lib.hid (bX1_16.out.below hb (Nat.le_trans s1.out (Nat.le_trans s2.out (Nat.le_trans s3.out (Nat.le_trans s4.out (Nat.le_trans s5.out (Nat.le_trans s6.out (Nat.le_trans s7.out (Nat.le_trans s8.out (Nat.le_trans s9.out (Nat.le_trans s10.out (Nat.le_trans s11.out (Nat.le_trans s12.out (Nat.le_trans s13.out (Nat.le_trans s14.out (Nat.le_trans s15.out s16.out))))))))))))))))
    have fW0_17 := Lib.hid (fW0_16.out.below hb (Nat.le_trans s4.out (Nat.le_trans s5.out (Nat.le_trans s6.out (Nat.le_trans s7.out (Nat.le_trans s8.out (Nat.le_trans s9.out (Nat.le_trans s10.out (Nat.le_trans s11.out (Nat.le_trans s12.out (Nat.le_trans s13.out (Nat.le_trans s14.out (Nat.le_trans s15.out s16.out)))))))))))))
    have bW_17 := Lib.hid (bW_16.out.below hb (Nat.le_trans s4.out (Nat.le_trans s5.out (Nat.le_trans s6.out (Nat.le_trans s7.out (Nat.le_trans s8.out (Nat.le_trans s9.out (Nat.le_trans s10.out (Nat.le_trans s11.out (Nat.le_trans s12.out (Nat.le_trans s13.out (Nat.le_trans s14.out (Nat.le_trans s15.out s16.out)))))))))))))
    have fG0_17 := Lib.hid (fG0_16.out.below hb (Nat.le_trans s9.out (Nat.le_trans s10.out (Nat.le_trans s11.out (Nat.le_trans s12.out (Nat.le_trans s13.out (Nat.le_trans s14.out (Nat.le_trans s15.out s16.out))))))))
    have bG_17 := Lib.hid (bG_16.out.below hb (Nat.le_trans s10.out (Nat.le_trans s11.out (Nat.le_trans s12.out (Nat.le_trans s13.out (Nat.le_trans s14.out (Nat.le_trans s15.out s16.out)))))))
    clear fX00_16 bX0_16 fX10_16 bX1_16 fW0_16 bW_16 fG0_16 bG_16 hb
    have eX00 := bX0_17.out.2 0 _ rfl
    have eX01 := bX0_17.out.2 1 _ rfl
    have eX02 := bX0_17.out.2 2 _ rfl
    have eX03 := bX0_17.out.2 3 _ rfl
    have zX0 := Nat.lt_of_lt_of_le bX0_17.out.1 (Nat.le_trans s1.out (Nat.le_trans s2.out (Nat.le_trans s3.out (Nat.le_trans s4.out (Nat.le_trans s5.out (Nat.le_trans s6.out (Nat.le_trans s7.out (Nat.le_trans s8.out (Nat.le_trans s9.out (Nat.le_trans s10.out (Nat.le_trans s11.out (Nat.le_trans s12.out (Nat.le_trans s13.out (Nat.le_trans s14.out (Nat.le_trans s15.out (Nat.le_trans s16.out s17.out))))))))))))))))
    have eX10 := bX1_17.out.2 0 _ rfl
    have eX11 := bX1_17.out.2 1 _ rfl
    have eX12 := bX1_17.out.2 2 _ rfl
    have eX13 := bX1_17.out.2 3 _ rfl
    have zX1 := Nat.lt_of_lt_of_le bX1_17.out.1 (Nat.le_trans s1.out (Nat.le_trans s2.out (Nat.le_trans s3.out (Nat.le_trans s4.out (Nat.le_trans s5.out (Nat.le_trans s6.out (Nat.le_trans s7.out (Nat.le_trans s8.out (Nat.le_trans s9.out (Nat.le_trans s10.out (Nat.le_trans s11.out (Nat.le_trans s12.out (Nat.le_trans s13.out (Nat.le_trans s14.out (Nat.le_trans s15.out (Nat.le_trans s16.out s17.out))))))))))))))))
    have eW0 := bW_17.out.2 0 _ rfl
    have eW1 := bW_17.out.2 1 _ rfl
    have eW2 := bW_17.out.2 2 _ rfl
    have eW3 := bW_17.out.2 3 _ rfl
    have zW := Nat.lt_of_lt_of_le bW_17.out.1 (Nat.le_trans s4.out (Nat.le_trans s5.out (Nat.le_trans s6.out (Nat.le_trans s7.out (Nat.le_trans s8.out (Nat.le_trans s9.out (Nat.le_trans s10.out (Nat.le_trans s11.out (Nat.le_trans s12.out (Nat.le_trans s13.out (Nat.le_trans s14.out (Nat.le_trans s15.out (Nat.le_trans s16.out s17.out)))))))))))))
    have eG0 := bG_17.out.2 0 _ rfl
    have eG1 := bG_17.out.2 1 _ rfl
    have eG2 := bG_17.out.2 2 _ rfl
    have eG3 := bG_17.out.2 3 _ rfl
    have zG := Nat.lt_of_lt_of_le bG_17.out.1 (Nat.le_trans s10.out (Nat.le_trans s11.out (Nat.le_trans s12.out (Nat.le_trans s13.out (Nat.le_trans s14.out (Nat.le_trans s15.out (Nat.le_trans s16.out s17.out)))))))
    go_upto_region 31 with fail
    go_cut [15, 16] (fun s0 s1 wx => ∃ (g : Nat) (AH0 : Option Addr) (cH0 : Nat), s0 = .pointer (some ⟨g, 0, none⟩) ∧ s1 = .bool (scOk a b) ∧ w17.heap.size ≤ g ∧ BoxL wx.heap.size wx g [.int .i64 ((scR a b)).k, .int .i64 ((scR a b)).p, .int .i64 ((scR a b)).n, .slice AH0 (((scR a b)).ws).length cH0] ∧ OwS w17.heap.size wx.heap.size wx AH0 cH0 (((scR a b)).ws) ∧ Below w17.heap.size w17 wx)
    case first =>
      clear fW0_17 bW_17 fG0_17 bG_17 s1 s2 s3 s4 s5 s6 s7 s8 s9 s10 s11 s12 s13 s14 s15 s16 s17 t0 t1 t2 t3 t4 t5 t6 t7 t8 t9 t10 t11 t12 t13 t14 t15 t16
      clear eW0 eW1 eW2 eW3 zW
      clear eG0 eG1 eG2 eG3 zG
      refine wp_region_noPanic ?_
      refine wp_region_held_drew (S := (fun w' => Below w17.heap.size w17 w' ∧ (∀ b o, b < w17.heap.size → w'.cell? ⟨b, o, none⟩ = w17.cell? ⟨b, o, none⟩))) (by kernel_rfl) ?_ (fun hHeld => ?_)
      · ((try dsimp only); refine mkS ?_; exact (Below.refl _ _).drew)
      generalize w17.drew = ud at *
      refine take_yes (i := 0) (d := 95) (v := ?_) rfl rfl (by kernel_rfl) (by kernel_rfl) (by kernel_rfl) (fun _ _ _ h => h) (by kernel_rfl) ?_ hHeld ?_
      rotate_left
      · (intro w hSw; (try dsimp only at hSw); go_simp; try (with_reducible rfl))
      try simp only [Act.put, List.setIfInBounds_toArray, List.set_cons_zero, List.set_cons_succ]
      refine take_yes (i := 2) (d := 97) (v := ?_) rfl rfl (by kernel_rfl) (by kernel_rfl) (by kernel_rfl) (fun _ _ _ h => h) (by kernel_rfl) ?_ hHeld ?_
      rotate_left
      · (intro w hSw; (try dsimp only at hSw); go_simp; try (with_reducible rfl))
      try simp only [Act.put, List.setIfInBounds_toArray, List.set_cons_zero, List.set_cons_succ]
      refine wpAnyH_ready (rs := [1, 8]) (by kernel_rfl) (by simp) ?_
      refine AllReadyH.cons rfl (fun K hK => ?_) (AllReadyH.cons rfl (fun K hK => ?_) (AllReadyH.nil))
      · go_simp
        (go_at_call 22; refine (toA_abs (fX00_17.out.below (S1 hHeld) t17.out.size)).mono ?_; rintro e u0 ⟨AHa00, cHa00, rfl, oHa00, hb⟩)
        obtain ⟨hB, hzz⟩ := callS hHeld (Nat.le_refl _) hb
        have HB := Lib.hid hB
        have FHa00 := Lib.hid oHa00.rd
        clear oHa00
        clear hb hB hzz
        (first | refine hK.out _ _ ?_ (fun hHeld1 => ?_) | (go_wp2_with fail; refine hK.out _ _ ?_ (fun hHeld1 => ?_)))
        · ((try dsimp only); refine mkS ?_; exact HB.out)
        clear hK K hHeld
        have hHeld := hHeld1
        clear hHeld1
        try simp only [Act.put, List.setIfInBounds_toArray, List.set_cons_zero, List.set_cons_succ]
        clear HB
        refine wpAnyH_ready (rs := [3, 8]) (by kernel_rfl) (by simp) ?_
        refine AllReadyH.cons rfl (fun K hK => ?_) (AllReadyH.cons rfl (fun K hK => ?_) (AllReadyH.nil))
        · go_simp
          (go_at_call 22; refine (toA_abs (fX10_17.out.below (S1 hHeld) t17.out.size)).mono ?_; rintro e u1 ⟨AHa10, cHa10, rfl, oHa10, hb⟩)
          obtain ⟨hB, hzz⟩ := callS hHeld (Nat.le_refl _) hb
          have HB := Lib.hid hB
          have FHa10 := Lib.hid oHa10.rd
          clear oHa10
          have FHa00y := Lib.hid (FHa00.out.step hb)
          clear FHa00
          have FHa00 := FHa00y
          clear FHa00y
          clear hb hB hzz
          (first | refine hK.out _ _ ?_ (fun hHeld1 => ?_) | (go_wp2_with fail; refine hK.out _ _ ?_ (fun hHeld1 => ?_)))
          · ((try dsimp only); refine mkS ?_; exact HB.out)
          clear hK K hHeld
          have hHeld := hHeld1
          clear hHeld1
          try simp only [Act.put, List.setIfInBounds_toArray, List.set_cons_zero, List.set_cons_succ]
          clear HB
          refine wpAnyH_ready (rs := [4, 8]) (by kernel_rfl) (by simp) ?_
          refine AllReadyH.cons rfl (fun K hK => ?_) (AllReadyH.cons rfl (fun K hK => ?_) (AllReadyH.nil))
          · go_simp
            (go_at_call 47; refine (SecondaryChange_abs FHa00.out FHa10.out).mono ?_; rintro e u9 ⟨AH0, cH0, rfl, oH0, hb⟩)
            have hlo := hHeld.1.size
            obtain ⟨hB, hzz⟩ := callS hHeld (Nat.le_refl _) hb
            have HB := Lib.hid hB
            have HO0 := Lib.hid (oH0.low hlo)
            clear hb hB hzz oH0 FHa00 FHa10
            (first | refine hK.out _ _ ?_ (fun hHeld1 => ?_) | (go_wp2_with fail; refine hK.out _ _ ?_ (fun hHeld1 => ?_)))
            · ((try dsimp only); refine mkS ?_; exact HB.out)
            clear hK K hHeld
            have hHeld := hHeld1
            clear hHeld1
            try simp only [Act.put, List.setIfInBounds_toArray, List.set_cons_zero, List.set_cons_succ]
            refine take_yes (i := 5) (d := 94) (v := ?_) rfl rfl (by kernel_rfl) (by kernel_rfl) (by kernel_rfl) (fun _ _ _ h => h) (by kernel_rfl) ?_ hHeld ?_
            rotate_left
            · (intro w hSw; (try dsimp only at hSw); go_simp; try (with_reducible rfl))
            try simp only [Act.put, List.setIfInBounds_toArray, List.set_cons_zero, List.set_cons_succ]
            refine take_yes (i := 6) (d := 100) (v := ?_) rfl rfl (by kernel_rfl) (by kernel_rfl) (by kernel_rfl) (fun _ _ _ h => h) (by kernel_rfl) ?_ hHeld ?_
            rotate_left
            · (intro w hSw; (try dsimp only at hSw); go_simp; try (with_reducible rfl))
            try simp only [Act.put, List.setIfInBounds_toArray, List.set_cons_zero, List.set_cons_succ]
            refine take_yes (i := 7) (d := 101) (v := ?_) rfl rfl (by kernel_rfl) (by kernel_rfl) (by kernel_rfl) (fun _ _ _ h => h) (by kernel_rfl) ?_ hHeld ?_
            rotate_left
            · (intro w hSw; (try dsimp only at hSw); go_simp; try (with_reducible rfl))
            try simp only [Act.put, List.setIfInBounds_toArray, List.set_cons_zero, List.set_cons_succ]
            refine wpAnyH_ready (rs := [8]) (by kernel_rfl) (by simp) ?_
            refine AllReadyH.cons rfl (fun K hK => ?_) (AllReadyH.nil)
            have hge : w17.heap.size ≤ u9.heap.size := hHeld.1.size
            try go_simp
            (first | refine hK.out _ _ ?_ (fun hHeld1 => ?_) | (go_wp2_with fail; refine hK.out _ _ ?_ (fun hHeld1 => ?_)))
            · ((try dsimp only); refine allocS ?_ ?_; assumption; exact Nat.le_refl _)
            clear hK K hHeld
            have hHeld := hHeld1
            clear hHeld1
            try simp only [Act.put, List.setIfInBounds_toArray, List.set_cons_zero, List.set_cons_succ]
            have hne0 : (Value.slice AH0 (((scR a b)).ws).length cH0).ownBlock ≠ some u9.heap.size := fun e => by have h1 := (HO0.out.1.lt _ e).2; omega
            have HOy0 := Lib.hid (OwS.fin_new HO0.out (Nat.le_refl _) (.cells #[.int .i64 0, .int .i64 0, .int .i64 0, .slice none 0 0] 31))
            clear HO0
            have HO0 := HOy0
            clear HOy0
            have HBX := Lib.hid (BoxF.new4 u9 (.int .i64 0) (.int .i64 0) (.int .i64 0) (.slice none 0 0) 31 _ rfl)
            have hbl : u9.heap.size < (u9.alloc (.cells #[.int .i64 0, .int .i64 0, .int .i64 0, .slice none 0 0] 31)).heap.size := by simp
            generalize u9.alloc (.cells #[.int .i64 0, .int .i64 0, .int .i64 0, .slice none 0 0] 31) = v at *
            have g0 := HBX.out.1 0 _ rfl; have z0 := HBX.out.2 0
            have g1 := HBX.out.1 1 _ rfl; have z1 := HBX.out.2 1
            have g2 := HBX.out.1 2 _ rfl; have z2 := HBX.out.2 2
            have g3 := HBX.out.1 3 _ rfl; have z3 := HBX.out.2 3
            refine wpAnyH_ready (rs := [9]) (by kernel_rfl) (by simp) ?_
            refine AllReadyH.cons rfl (fun K hK => ?_) AllReadyH.nil
            go_simp
            (first | refine hK.out _ _ ?_ (fun hHeld1 => ?_) | (go_wp2_with fail; refine hK.out _ _ ?_ (fun hHeld1 => ?_)))
            · ((try dsimp only); refine set4S ?_ ?_; assumption; first | exact hge | (simp; omega) | omega)
            clear hK K hHeld
            have hHeld := hHeld1
            clear hHeld1
            try simp only [Act.put, List.setIfInBounds_toArray, List.set_cons_zero, List.set_cons_succ]
            refine take_yes (i := 10) (d := 16) (v := ?_) rfl rfl (by kernel_rfl) (by kernel_rfl) (by kernel_rfl) (fun _ _ _ h => h) (by kernel_rfl) ?_ hHeld ?_
            rotate_left
            · (intro w hSw; (try dsimp only at hSw); go_simp; try (with_reducible rfl))
            try simp only [Act.put, List.setIfInBounds_toArray, List.set_cons_zero, List.set_cons_succ]
            refine wpAnyH_done (by kernel_rfl) ?_ _
            refine NoPanic.normal ?_
            have KS := HBX.out.set4 (.int .i64 ((scR a b)).k) (.int .i64 ((scR a b)).p) (.int .i64 ((scR a b)).n) (.slice AH0 (((scR a b)).ws).length cH0)
            have HT := Lib.hid hHeld.1
            clear hHeld g0 z0 g1 z1 g2 z2 g3 z3
            go_wp2_with fail
            go_meet
            refine ⟨_, AH0, cH0, rfl, rfl, hge, ⟨by simp only [World.size_setCell]; exact hbl, KS.1⟩, ⟨own_off4 HO0.out.1 hne0 _ _ _ _, HO0.out.2.1.mono (by simp only [World.size_setCell]; exact Nat.le_refl _), HO0.out.2.2⟩, HT.out⟩
          · have hge : w17.heap.size ≤ u1.heap.size := hHeld.1.size
            try go_simp
            (first | refine hK.out _ _ ?_ (fun hHeld1 => ?_) | (go_wp2_with fail; refine hK.out _ _ ?_ (fun hHeld1 => ?_)))
            · ((try dsimp only); refine allocS ?_ ?_; assumption; exact Nat.le_refl _)
            clear hK K hHeld
            have hHeld := hHeld1
            clear hHeld1
            try simp only [Act.put, List.setIfInBounds_toArray, List.set_cons_zero, List.set_cons_succ]
            have FHa00y := Lib.hid (FHa00.out.step (below1 u1 (.cells #[.int .i64 0, .int .i64 0, .int .i64 0, .slice none 0 0] 31)))
            clear FHa00
            have FHa00 := FHa00y
            clear FHa00y
            have FHa10y := Lib.hid (FHa10.out.step (below1 u1 (.cells #[.int .i64 0, .int .i64 0, .int .i64 0, .slice none 0 0] 31)))
            clear FHa10
            have FHa10 := FHa10y
            clear FHa10y
            have HBX := Lib.hid (BoxF.new4 u1 (.int .i64 0) (.int .i64 0) (.int .i64 0) (.slice none 0 0) 31 _ rfl)
            have hbl : u1.heap.size < (u1.alloc (.cells #[.int .i64 0, .int .i64 0, .int .i64 0, .slice none 0 0] 31)).heap.size := by simp
            generalize u1.alloc (.cells #[.int .i64 0, .int .i64 0, .int .i64 0, .slice none 0 0] 31) = v at *
            refine wpAnyH_ready (rs := [4]) (by kernel_rfl) (by simp) ?_
            refine AllReadyH.cons rfl (fun K hK => ?_) (AllReadyH.nil)
            go_simp
            (go_at_call 47; refine (SecondaryChange_abs FHa00.out FHa10.out).mono ?_; rintro e u9 ⟨AH0, cH0, rfl, oH0, hb⟩)
            have hlo := hHeld.1.size
            obtain ⟨hB, hzz⟩ := callS hHeld (Nat.le_refl _) hb
            have HB := Lib.hid hB
            have hne0 : (Value.slice AH0 (((scR a b)).ws).length cH0).ownBlock ≠ some u1.heap.size := fun e => by have h1 := (oH0.1.lt _ e).1; omega
            have HO0 := Lib.hid (oH0.low hlo)
            have hbl2 := Nat.lt_of_lt_of_le hbl hb.size; have HBY := Lib.hid (HBX.out.below hb hbl); clear hbl HBX; have hbl := hbl2; have HBX := HBY; clear hbl2 HBY
            clear hb hB hzz oH0 FHa00 FHa10
            (first | refine hK.out _ _ ?_ (fun hHeld1 => ?_) | (go_wp2_with fail; refine hK.out _ _ ?_ (fun hHeld1 => ?_)))
            · ((try dsimp only); refine mkS ?_; exact HB.out)
            clear hK K hHeld
            have hHeld := hHeld1
            clear hHeld1
            try simp only [Act.put, List.setIfInBounds_toArray, List.set_cons_zero, List.set_cons_succ]
            refine take_yes (i := 5) (d := 94) (v := ?_) rfl rfl (by kernel_rfl) (by kernel_rfl) (by kernel_rfl) (fun _ _ _ h => h) (by kernel_rfl) ?_ hHeld ?_
            rotate_left
            · (intro w hSw; (try dsimp only at hSw); go_simp; try (with_reducible rfl))
            try simp only [Act.put, List.setIfInBounds_toArray, List.set_cons_zero, List.set_cons_succ]
            refine take_yes (i := 6) (d := 100) (v := ?_) rfl rfl (by kernel_rfl) (by kernel_rfl) (by kernel_rfl) (fun _ _ _ h => h) (by kernel_rfl) ?_ hHeld ?_
            rotate_left
            · (intro w hSw; (try dsimp only at hSw); go_simp; try (with_reducible rfl))
            try simp only [Act.put, List.setIfInBounds_toArray, List.set_cons_zero, List.set_cons_succ]
            refine take_yes (i := 7) (d := 101) (v := ?_) rfl rfl (by kernel_rfl) (by kernel_rfl) (by kernel_rfl) (fun _ _ _ h => h) (by kernel_rfl) ?_ hHeld ?_
            rotate_left
            · (intro w hSw; (try dsimp only at hSw); go_simp; try (with_reducible rfl))
            try simp only [Act.put, List.setIfInBounds_toArray, List.set_cons_zero, List.set_cons_succ]
            have g0 := HBX.out.1 0 _ rfl; have z0 := HBX.out.2 0
            have g1 := HBX.out.1 1 _ rfl; have z1 := HBX.out.2 1
            have g2 := HBX.out.1 2 _ rfl; have z2 := HBX.out.2 2
            have g3 := HBX.out.1 3 _ rfl; have z3 := HBX.out.2 3
            refine wpAnyH_ready (rs := [9]) (by kernel_rfl) (by simp) ?_
            refine AllReadyH.cons rfl (fun K hK => ?_) AllReadyH.nil
            go_simp
            (first | refine hK.out _ _ ?_ (fun hHeld1 => ?_) | (go_wp2_with fail; refine hK.out _ _ ?_ (fun hHeld1 => ?_)))
            · ((try dsimp only); refine set4S ?_ ?_; assumption; first | exact hge | (simp; omega) | omega)
            clear hK K hHeld
            have hHeld := hHeld1
            clear hHeld1
            try simp only [Act.put, List.setIfInBounds_toArray, List.set_cons_zero, List.set_cons_succ]
            refine take_yes (i := 10) (d := 16) (v := ?_) rfl rfl (by kernel_rfl) (by kernel_rfl) (by kernel_rfl) (fun _ _ _ h => h) (by kernel_rfl) ?_ hHeld ?_
            rotate_left
            · (intro w hSw; (try dsimp only at hSw); go_simp; try (with_reducible rfl))
            try simp only [Act.put, List.setIfInBounds_toArray, List.set_cons_zero, List.set_cons_succ]
            refine wpAnyH_done (by kernel_rfl) ?_ _
            refine NoPanic.normal ?_
            have KS := HBX.out.set4 (.int .i64 ((scR a b)).k) (.int .i64 ((scR a b)).p) (.int .i64 ((scR a b)).n) (.slice AH0 (((scR a b)).ws).length cH0)
            have HT := Lib.hid hHeld.1
            clear hHeld g0 z0 g1 z1 g2 z2 g3 z3
            go_wp2_with fail
            go_meet
            refine ⟨_, AH0, cH0, rfl, rfl, hge, ⟨by simp only [World.size_setCell]; exact hbl, KS.1⟩, ⟨own_off4 HO0.out.1 hne0 _ _ _ _, HO0.out.2.1.mono (by simp only [World.size_setCell]; exact Nat.le_refl _), HO0.out.2.2⟩, HT.out⟩
        · have hge : w17.heap.size ≤ u0.heap.size := hHeld.1.size
          try go_simp
          (first | refine hK.out _ _ ?_ (fun hHeld1 => ?_) | (go_wp2_with fail; refine hK.out _ _ ?_ (fun hHeld1 => ?_)))
          · ((try dsimp only); refine allocS ?_ ?_; assumption; exact Nat.le_refl _)
          clear hK K hHeld
          have hHeld := hHeld1
          clear hHeld1
          try simp only [Act.put, List.setIfInBounds_toArray, List.set_cons_zero, List.set_cons_succ]
          have FHa00y := Lib.hid (FHa00.out.step (below1 u0 (.cells #[.int .i64 0, .int .i64 0, .int .i64 0, .slice none 0 0] 31)))
          clear FHa00
          have FHa00 := FHa00y
          clear FHa00y
          have HBX := Lib.hid (BoxF.new4 u0 (.int .i64 0) (.int .i64 0) (.int .i64 0) (.slice none 0 0) 31 _ rfl)
          have hbl : u0.heap.size < (u0.alloc (.cells #[.int .i64 0, .int .i64 0, .int .i64 0, .slice none 0 0] 31)).heap.size := by simp
          generalize u0.alloc (.cells #[.int .i64 0, .int .i64 0, .int .i64 0, .slice none 0 0] 31) = v at *
          refine wpAnyH_ready (rs := [3]) (by kernel_rfl) (by simp) ?_
          refine AllReadyH.cons rfl (fun K hK => ?_) (AllReadyH.nil)
          go_simp
          (go_at_call 22; refine (toA_abs (fX10_17.out.below (S1 hHeld) t17.out.size)).mono ?_; rintro e u1 ⟨AHa10, cHa10, rfl, oHa10, hb⟩)
          obtain ⟨hB, hzz⟩ := callS hHeld (Nat.le_refl _) hb
          have HB := Lib.hid hB
          have FHa10 := Lib.hid oHa10.rd
          clear oHa10
          have FHa00y := Lib.hid (FHa00.out.step hb)
          clear FHa00
          have FHa00 := FHa00y
          clear FHa00y
          have hbl2 := Nat.lt_of_lt_of_le hbl hb.size; have HBY := Lib.hid (HBX.out.below hb hbl); clear hbl HBX; have hbl := hbl2; have HBX := HBY; clear hbl2 HBY
          clear hb hB hzz
          (first | refine hK.out _ _ ?_ (fun hHeld1 => ?_) | (go_wp2_with fail; refine hK.out _ _ ?_ (fun hHeld1 => ?_)))
          · ((try dsimp only); refine mkS ?_; exact HB.out)
          clear hK K hHeld
          have hHeld := hHeld1
          clear hHeld1
          try simp only [Act.put, List.setIfInBounds_toArray, List.set_cons_zero, List.set_cons_succ]
          clear HB
          refine wpAnyH_ready (rs := [4]) (by kernel_rfl) (by simp) ?_
          refine AllReadyH.cons rfl (fun K hK => ?_) (AllReadyH.nil)
          go_simp
          (go_at_call 47; refine (SecondaryChange_abs FHa00.out FHa10.out).mono ?_; rintro e u9 ⟨AH0, cH0, rfl, oH0, hb⟩)
          have hlo := hHeld.1.size
          obtain ⟨hB, hzz⟩ := callS hHeld (Nat.le_refl _) hb
          have HB := Lib.hid hB
          have hne0 : (Value.slice AH0 (((scR a b)).ws).length cH0).ownBlock ≠ some u0.heap.size := fun e => by have h1 := (oH0.1.lt _ e).1; omega
          have HO0 := Lib.hid (oH0.low hlo)
          have hbl2 := Nat.lt_of_lt_of_le hbl hb.size; have HBY := Lib.hid (HBX.out.below hb hbl); clear hbl HBX; have hbl := hbl2; have HBX := HBY; clear hbl2 HBY
          clear hb hB hzz oH0 FHa00 FHa10
          (first | refine hK.out _ _ ?_ (fun hHeld1 => ?_) | (go_wp2_with fail; refine hK.out _ _ ?_ (fun hHeld1 => ?_)))
          · ((try dsimp only); refine mkS ?_; exact HB.out)
          clear hK K hHeld
          have hHeld := hHeld1
          clear hHeld1
          try simp only [Act.put, List.setIfInBounds_toArray, List.set_cons_zero, List.set_cons_succ]
          refine take_yes (i := 5) (d := 94) (v := ?_) rfl rfl (by kernel_rfl) (by kernel_rfl) (by kernel_rfl) (fun _ _ _ h => h) (by kernel_rfl) ?_ hHeld ?_
          rotate_left
          · (intro w hSw; (try dsimp only at hSw); go_simp; try (with_reducible rfl))
          try simp only [Act.put, List.setIfInBounds_toArray, List.set_cons_zero, List.set_cons_succ]
          refine take_yes (i := 6) (d := 100) (v := ?_) rfl rfl (by kernel_rfl) (by kernel_rfl) (by kernel_rfl) (fun _ _ _ h => h) (by kernel_rfl) ?_ hHeld ?_
          rotate_left
          · (intro w hSw; (try dsimp only at hSw); go_simp; try (with_reducible rfl))
          try simp only [Act.put, List.setIfInBounds_toArray, List.set_cons_zero, List.set_cons_succ]
          refine take_yes (i := 7) (d := 101) (v := ?_) rfl rfl (by kernel_rfl) (by kernel_rfl) (by kernel_rfl) (fun _ _ _ h => h) (by kernel_rfl) ?_ hHeld ?_
          rotate_left
          · (intro w hSw; (try dsimp only at hSw); go_simp; try (with_reducible rfl))
          try simp only [Act.put, List.setIfInBounds_toArray, List.set_cons_zero, List.set_cons_succ]
          have g0 := HBX.out.1 0 _ rfl; have z0 := HBX.out.2 0
          have g1 := HBX.out.1 1 _ rfl; have z1 := HBX.out.2 1
          have g2 := HBX.out.1 2 _ rfl; have z2 := HBX.out.2 2
          have g3 := HBX.out.1 3 _ rfl; have z3 := HBX.out.2 3
          refine wpAnyH_ready (rs := [9]) (by kernel_rfl) (by simp) ?_
          refine AllReadyH.cons rfl (fun K hK => ?_) AllReadyH.nil
          go_simp
          (first | refine hK.out _ _ ?_ (fun hHeld1 => ?_) | (go_wp2_with fail; refine hK.out _ _ ?_ (fun hHeld1 => ?_)))
          · ((try dsimp only); refine set4S ?_ ?_; assumption; first | exact hge | (simp; omega) | omega)
          clear hK K hHeld
          have hHeld := hHeld1
          clear hHeld1
          try simp only [Act.put, List.setIfInBounds_toArray, List.set_cons_zero, List.set_cons_succ]
          refine take_yes (i := 10) (d := 16) (v := ?_) rfl rfl (by kernel_rfl) (by kernel_rfl) (by kernel_rfl) (fun _ _ _ h => h) (by kernel_rfl) ?_ hHeld ?_
          rotate_left
          · (intro w hSw; (try dsimp only at hSw); go_simp; try (with_reducible rfl))
          try simp only [Act.put, List.setIfInBounds_toArray, List.set_cons_zero, List.set_cons_succ]
          refine wpAnyH_done (by kernel_rfl) ?_ _
          refine NoPanic.normal ?_
          have KS := HBX.out.set4 (.int .i64 ((scR a b)).k) (.int .i64 ((scR a b)).p) (.int .i64 ((scR a b)).n) (.slice AH0 (((scR a b)).ws).length cH0)
          have HT := Lib.hid hHeld.1
          clear hHeld g0 z0 g1 z1 g2 z2 g3 z3
          go_wp2_with fail
          go_meet
          refine ⟨_, AH0, cH0, rfl, rfl, hge, ⟨by simp only [World.size_setCell]; exact hbl, KS.1⟩, ⟨own_off4 HO0.out.1 hne0 _ _ _ _, HO0.out.2.1.mono (by simp only [World.size_setCell]; exact Nat.le_refl _), HO0.out.2.2⟩, HT.out⟩
      · have hge : w17.heap.size ≤ ud.heap.size := hHeld.1.size
        try go_simp
        (first | refine hK.out _ _ ?_ (fun hHeld1 => ?_) | (go_wp2_with fail; refine hK.out _ _ ?_ (fun hHeld1 => ?_)))
        · ((try dsimp only); refine allocS ?_ ?_; assumption; exact Nat.le_refl _)
        clear hK K hHeld
        have hHeld := hHeld1
        clear hHeld1
        try simp only [Act.put, List.setIfInBounds_toArray, List.set_cons_zero, List.set_cons_succ]
        have HBX := Lib.hid (BoxF.new4 ud (.int .i64 0) (.int .i64 0) (.int .i64 0) (.slice none 0 0) 31 _ rfl)
        have hbl : ud.heap.size < (ud.alloc (.cells #[.int .i64 0, .int .i64 0, .int .i64 0, .slice none 0 0] 31)).heap.size := by simp
        generalize ud.alloc (.cells #[.int .i64 0, .int .i64 0, .int .i64 0, .slice none 0 0] 31) = v at *
        refine wpAnyH_ready (rs := [1]) (by kernel_rfl) (by simp) ?_
        refine AllReadyH.cons rfl (fun K hK => ?_) (AllReadyH.nil)
        go_simp
        (go_at_call 22; refine (toA_abs (fX00_17.out.below (S1 hHeld) t17.out.size)).mono ?_; rintro e u0 ⟨AHa00, cHa00, rfl, oHa00, hb⟩)
        obtain ⟨hB, hzz⟩ := callS hHeld (Nat.le_refl _) hb
        have HB := Lib.hid hB
        have FHa00 := Lib.hid oHa00.rd
        clear oHa00
        have hbl2 := Nat.lt_of_lt_of_le hbl hb.size; have HBY := Lib.hid (HBX.out.below hb hbl); clear hbl HBX; have hbl := hbl2; have HBX := HBY; clear hbl2 HBY
        clear hb hB hzz
        (first | refine hK.out _ _ ?_ (fun hHeld1 => ?_) | (go_wp2_with fail; refine hK.out _ _ ?_ (fun hHeld1 => ?_)))
        · ((try dsimp only); refine mkS ?_; exact HB.out)
        clear hK K hHeld
        have hHeld := hHeld1
        clear hHeld1
        try simp only [Act.put, List.setIfInBounds_toArray, List.set_cons_zero, List.set_cons_succ]
        clear HB
        refine wpAnyH_ready (rs := [3]) (by kernel_rfl) (by simp) ?_
        refine AllReadyH.cons rfl (fun K hK => ?_) (AllReadyH.nil)
        go_simp
        (go_at_call 22; refine (toA_abs (fX10_17.out.below (S1 hHeld) t17.out.size)).mono ?_; rintro e u1 ⟨AHa10, cHa10, rfl, oHa10, hb⟩)
        obtain ⟨hB, hzz⟩ := callS hHeld (Nat.le_refl _) hb
        have HB := Lib.hid hB
        have FHa10 := Lib.hid oHa10.rd
        clear oHa10
        have FHa00y := Lib.hid (FHa00.out.step hb)
        clear FHa00
        have FHa00 := FHa00y
        clear FHa00y
        have hbl2 := Nat.lt_of_lt_of_le hbl hb.size; have HBY := Lib.hid (HBX.out.below hb hbl); clear hbl HBX; have hbl := hbl2; have HBX := HBY; clear hbl2 HBY
        clear hb hB hzz
        (first | refine hK.out _ _ ?_ (fun hHeld1 => ?_) | (go_wp2_with fail; refine hK.out _ _ ?_ (fun hHeld1 => ?_)))
        · ((try dsimp only); refine mkS ?_; exact HB.out)
        clear hK K hHeld
        have hHeld := hHeld1
        clear hHeld1
        try simp only [Act.put, List.setIfInBounds_toArray, List.set_cons_zero, List.set_cons_succ]
        clear HB
        refine wpAnyH_ready (rs := [4]) (by kernel_rfl) (by simp) ?_
        refine AllReadyH.cons rfl (fun K hK => ?_) (AllReadyH.nil)
        go_simp
        (go_at_call 47; refine (SecondaryChange_abs FHa00.out FHa10.out).mono ?_; rintro e u9 ⟨AH0, cH0, rfl, oH0, hb⟩)
        have hlo := hHeld.1.size
        obtain ⟨hB, hzz⟩ := callS hHeld (Nat.le_refl _) hb
        have HB := Lib.hid hB
        have hne0 : (Value.slice AH0 (((scR a b)).ws).length cH0).ownBlock ≠ some ud.heap.size := fun e => by have h1 := (oH0.1.lt _ e).1; omega
        have HO0 := Lib.hid (oH0.low hlo)
        have hbl2 := Nat.lt_of_lt_of_le hbl hb.size; have HBY := Lib.hid (HBX.out.below hb hbl); clear hbl HBX; have hbl := hbl2; have HBX := HBY; clear hbl2 HBY
        clear hb hB hzz oH0 FHa00 FHa10
        (first | refine hK.out _ _ ?_ (fun hHeld1 => ?_) | (go_wp2_with fail; refine hK.out _ _ ?_ (fun hHeld1 => ?_)))
        · ((try dsimp only); refine mkS ?_; exact HB.out)
        clear hK K hHeld
        have hHeld := hHeld1
        clear hHeld1
        try simp only [Act.put, List.setIfInBounds_toArray, List.set_cons_zero, List.set_cons_succ]
        refine take_yes (i := 5) (d := 94) (v := ?_) rfl rfl (by kernel_rfl) (by kernel_rfl) (by kernel_rfl) (fun _ _ _ h => h) (by kernel_rfl) ?_ hHeld ?_
        rotate_left
        · (intro w hSw; (try dsimp only at hSw); go_simp; try (with_reducible rfl))
        try simp only [Act.put, List.setIfInBounds_toArray, List.set_cons_zero, List.set_cons_succ]
        refine take_yes (i := 6) (d := 100) (v := ?_) rfl rfl (by kernel_rfl) (by kernel_rfl) (by kernel_rfl) (fun _ _ _ h => h) (by kernel_rfl) ?_ hHeld ?_
        rotate_left
        · (intro w hSw; (try dsimp only at hSw); go_simp; try (with_reducible rfl))
        try simp only [Act.put, List.setIfInBounds_toArray, List.set_cons_zero, List.set_cons_succ]
        refine take_yes (i := 7) (d := 101) (v := ?_) rfl rfl (by kernel_rfl) (by kernel_rfl) (by kernel_rfl) (fun _ _ _ h => h) (by kernel_rfl) ?_ hHeld ?_
        rotate_left
        · (intro w hSw; (try dsimp only at hSw); go_simp; try (with_reducible rfl))
        try simp only [Act.put, List.setIfInBounds_toArray, List.set_cons_zero, List.set_cons_succ]
        have g0 := HBX.out.1 0 _ rfl; have z0 := HBX.out.2 0
        have g1 := HBX.out.1 1 _ rfl; have z1 := HBX.out.2 1
        have g2 := HBX.out.1 2 _ rfl; have z2 := HBX.out.2 2
        have g3 := HBX.out.1 3 _ rfl; have z3 := HBX.out.2 3
        refine wpAnyH_ready (rs := [9]) (by kernel_rfl) (by simp) ?_
        refine AllReadyH.cons rfl (fun K hK => ?_) AllReadyH.nil
        go_simp
        (first | refine hK.out _ _ ?_ (fun hHeld1 => ?_) | (go_wp2_with fail; refine hK.out _ _ ?_ (fun hHeld1 => ?_)))
        · ((try dsimp only); refine set4S ?_ ?_; assumption; first | exact hge | (simp; omega) | omega)
        clear hK K hHeld
        have hHeld := hHeld1
        clear hHeld1
        try simp only [Act.put, List.setIfInBounds_toArray, List.set_cons_zero, List.set_cons_succ]
        refine take_yes (i := 10) (d := 16) (v := ?_) rfl rfl (by kernel_rfl) (by kernel_rfl) (by kernel_rfl) (fun _ _ _ h => h) (by kernel_rfl) ?_ hHeld ?_
        rotate_left
        · (intro w hSw; (try dsimp only at hSw); go_simp; try (with_reducible rfl))
        try simp only [Act.put, List.setIfInBounds_toArray, List.set_cons_zero, List.set_cons_succ]
        refine wpAnyH_done (by kernel_rfl) ?_ _
        refine NoPanic.normal ?_
        have KS := HBX.out.set4 (.int .i64 ((scR a b)).k) (.int .i64 ((scR a b)).p) (.int .i64 ((scR a b)).n) (.slice AH0 (((scR a b)).ws).length cH0)
        have HT := Lib.hid hHeld.1
        clear hHeld g0 z0 g1 z1 g2 z2 g3 z3
        go_wp2_with fail
        go_meet
        refine ⟨_, AH0, cH0, rfl, rfl, hge, ⟨by simp only [World.size_setCell]; exact hbl, KS.1⟩, ⟨own_off4 HO0.out.1 hne0 _ _ _ _, HO0.out.2.1.mono (by simp only [World.size_setCell]; exact Nat.le_refl _), HO0.out.2.2⟩, HT.out⟩
    case rest =>
      obtain ⟨gH, AH0, cH0, rfl, rfl, hgH, bxH, oH0, hb⟩ := hcut
      obtain ⟨w18, rfl⟩ : ∃ W, W = wc := ⟨_, rfl⟩
      have t18 := Lib.hid (after t17.out hb)
      have s18 := Lib.hid hb.size
      have fX00_18 := Lib.hid (fX00_17.out.below hb t17.out.size)
      have bX0_18 := Lib.hid (bX0_17.out.below hb (Nat.le_trans s1.out (Nat.le_trans s2.out (Nat.le_trans s3.out (Nat.le_trans s4.out (Nat.le_trans s5.out (Nat.le_trans s6.out (Nat.le_trans s7.out (Nat.le_trans s8.out (Nat.le_trans s9.out (Nat.le_trans s10.out (Nat.le_trans s11.out (Nat.le_trans s12.out (Nat.le_trans s13.out (Nat.le_trans s14.out (Nat.le_trans s15.out (Nat.le_trans s16.out s17.out)))))))))))))))))
      have fX10_18 := Lib.hid (fX10_17.out.below hb t17.out.size)
      have bX1_18 := Lib.hid (bX1_17.out.below hb (Nat.le_trans s1.out (Nat.le_trans s2.out (Nat.le_trans s3.out (Nat.le_trans s4.out (Nat.le_trans s5.out (Nat.le_trans s6.out (Nat.le_trans s7.out (Nat.le_trans s8.out (Nat.le_trans s9.out (Nat.le_trans s10.out (Nat.le_trans s11.out (Nat.le_trans s12.out (Nat.le_trans s13.out (Nat.le_trans s14.out (Nat.le_trans s15.out (Nat.le_trans s16.out s17.out)))))))))))))))))
      have fW0_18 := Lib.hid (fW0_17.out.below hb (Nat.le_trans s4.out (Nat.le_trans s5.out (Nat.le_trans s6.out (Nat.le_trans s7.out (Nat.le_trans s8.out (Nat.le_trans s9.out (Nat.le_trans s10.out (Nat.le_trans s11.out (Nat.le_trans s12.out (Nat.le_trans s13.out (Nat.le_trans s14.out (Nat.le_trans s15.out (Nat.le_trans s16.out s17.out))))))))))))))
      have bW_18 := Lib.hid (bW_17.out.below hb (Nat.le_trans s4.out (Nat.le_trans s5.out (Nat.le_trans s6.out (Nat.le_trans s7.out (Nat.le_trans s8.out (Nat.le_trans s9.out (Nat.le_trans s10.out (Nat.le_trans s11.out (Nat.le_trans s12.out (Nat.le_trans s13.out (Nat.le_trans s14.out (Nat.le_trans s15.out (Nat.le_trans s16.out s17.out))))))))))))))
      have fG0_18 := Lib.hid (fG0_17.out.below hb (Nat.le_trans s9.out (Nat.le_trans s10.out (Nat.le_trans s11.out (Nat.le_trans s12.out (Nat.le_trans s13.out (Nat.le_trans s14.out (Nat.le_trans s15.out (Nat.le_trans s16.out s17.out)))))))))
      have bG_18 := Lib.hid (bG_17.out.below hb (Nat.le_trans s10.out (Nat.le_trans s11.out (Nat.le_trans s12.out (Nat.le_trans s13.out (Nat.le_trans s14.out (Nat.le_trans s15.out (Nat.le_trans s16.out s17.out))))))))
      have fH0_18 := Lib.hid oH0
      have bH_18 := Lib.hid bxH
      clear eX00 eX01 eX02 eX03 zX0 eX10 eX11 eX12 eX13 zX1 eW0 eW1 eW2 eW3 zW eG0 eG1 eG2 eG3 zG fX00_17 bX0_17 fX10_17 bX1_17 fW0_17 bW_17 fG0_17 bG_17 oH0 bxH hb
      have eX00 := bX0_18.out.2 0 _ rfl
      have eX01 := bX0_18.out.2 1 _ rfl
      have eX02 := bX0_18.out.2 2 _ rfl
      have eX03 := bX0_18.out.2 3 _ rfl
      have zX0 := Nat.lt_of_lt_of_le bX0_18.out.1 (Nat.le_trans s1.out (Nat.le_trans s2.out (Nat.le_trans s3.out (Nat.le_trans s4.out (Nat.le_trans s5.out (Nat.le_trans s6.out (Nat.le_trans s7.out (Nat.le_trans s8.out (Nat.le_trans s9.out (Nat.le_trans s10.out (Nat.le_trans s11.out (Nat.le_trans s12.out (Nat.le_trans s13.out (Nat.le_trans s14.out (Nat.le_trans s15.out (Nat.le_trans s16.out (Nat.le_trans s17.out s18.out)))))))))))))))))
      have eX10 := bX1_18.out.2 0 _ rfl
      have eX11 := bX1_18.out.2 1 _ rfl
      have eX12 := bX1_18.out.2 2 _ rfl
      have eX13 := bX1_18.out.2 3 _ rfl
      have zX1 := Nat.lt_of_lt_of_le bX1_18.out.1 (Nat.le_trans s1.out (Nat.le_trans s2.out (Nat.le_trans s3.out (Nat.le_trans s4.out (Nat.le_trans s5.out (Nat.le_trans s6.out (Nat.le_trans s7.out (Nat.le_trans s8.out (Nat.le_trans s9.out (Nat.le_trans s10.out (Nat.le_trans s11.out (Nat.le_trans s12.out (Nat.le_trans s13.out (Nat.le_trans s14.out (Nat.le_trans s15.out (Nat.le_trans s16.out (Nat.le_trans s17.out s18.out)))))))))))))))))
      have eW0 := bW_18.out.2 0 _ rfl
      have eW1 := bW_18.out.2 1 _ rfl
      have eW2 := bW_18.out.2 2 _ rfl
      have eW3 := bW_18.out.2 3 _ rfl
      have zW := Nat.lt_of_lt_of_le bW_18.out.1 (Nat.le_trans s4.out (Nat.le_trans s5.out (Nat.le_trans s6.out (Nat.le_trans s7.out (Nat.le_trans s8.out (Nat.le_trans s9.out (Nat.le_trans s10.out (Nat.le_trans s11.out (Nat.le_trans s12.out (Nat.le_trans s13.out (Nat.le_trans s14.out (Nat.le_trans s15.out (Nat.le_trans s16.out (Nat.le_trans s17.out s18.out))))))))))))))
      have eG0 := bG_18.out.2 0 _ rfl
      have eG1 := bG_18.out.2 1 _ rfl
      have eG2 := bG_18.out.2 2 _ rfl
      have eG3 := bG_18.out.2 3 _ rfl
      have zG := Nat.lt_of_lt_of_le bG_18.out.1 (Nat.le_trans s10.out (Nat.le_trans s11.out (Nat.le_trans s12.out (Nat.le_trans s13.out (Nat.le_trans s14.out (Nat.le_trans s15.out (Nat.le_trans s16.out (Nat.le_trans s17.out s18.out))))))))
      have eH0 := bH_18.out.2 0 _ rfl
      have eH1 := bH_18.out.2 1 _ rfl
      have eH2 := bH_18.out.2 2 _ rfl
      have eH3 := bH_18.out.2 3 _ rfl
      have zH := Nat.lt_of_lt_of_le bH_18.out.1 (Nat.le_refl _)
      go_wp2_with fail
      clear eX00 eX01 eX02 eX03 zX0 eX10 eX11 eX12 eX13 zX1 eW0 eW1 eW2 eW3 zW eG0 eG1 eG2 eG3 zG eH0 eH1 eH2 eH3 zH
      refine (eqA_abs fH0_18.out.rd fW0_18.out.rd).mono ?_
      rintro e w19 ⟨rfl, hb⟩
      have t19 := Lib.hid (after t18.out hb)
      have s19 := Lib.hid hb.size
      have fX00_19 := Lib.hid (fX00_18.out.below hb t18.out.size)
      have bX0_19 := Lib.hid (bX0_18.out.below hb (Nat.le_trans s1.out (Nat.le_trans s2.out (Nat.le_trans s3.out (Nat.le_trans s4.out (Nat.le_trans s5.out (Nat.le_trans s6.out (Nat.le_trans s7.out (Nat.le_trans s8.out (Nat.le_trans s9.out (Nat.le_trans s10.out (Nat.le_trans s11.out (Nat.le_trans s12.out (Nat.le_trans s13.out (Nat.le_trans s14.out (Nat.le_trans s15.out (Nat.le_trans s16.out (Nat.le_trans s17.out s18.out))))))))))))))))))
      have fX10_19 := Lib.hid (fX10_18.out.below hb t18.out.size)
      have bX1_19 := Lib.hid (bX1_18.out.below hb (Nat.le_trans s1.out (Nat.le_trans s2.out (Nat.le_trans s3.out (Nat.le_trans s4.out (Nat.le_trans s5.out (Nat.le_trans s6.out (Nat.le_trans s7.out (Nat.le_trans s8.out (Nat.le_trans s9.out (Nat.le_trans s10.out (Nat.le_trans s11.out (Nat.le_trans s12.out (Nat.le_trans s13.out (Nat.le_trans s14.out (Nat.le_trans s15.out (Nat.le_trans s16.out (Nat.le_trans s17.out s18.out))))))))))))))))))
      have fW0_19 := Lib.hid (fW0_18.out.below hb (Nat.le_trans s4.out (Nat.le_trans s5.out (Nat.le_trans s6.out (Nat.le_trans s7.out (Nat.le_trans s8.out (Nat.le_trans s9.out (Nat.le_trans s10.out (Nat.le_trans s11.out (Nat.le_trans s12.out (Nat.le_trans s13.out (Nat.le_trans s14.out (Nat.le_trans s15.out (Nat.le_trans s16.out (Nat.le_trans s17.out s18.out)))))))))))))))
      have bW_19 := Lib.hid (bW_18.out.below hb (Nat.le_trans s4.out (Nat.le_trans s5.out (Nat.le_trans s6.out (Nat.le_trans s7.out (Nat.le_trans s8.out (Nat.le_trans s9.out (Nat.le_trans s10.out (Nat.le_trans s11.out (Nat.le_trans s12.out (Nat.le_trans s13.out (Nat.le_trans s14.out (Nat.le_trans s15.out (Nat.le_trans s16.out (Nat.le_trans s17.out s18.out)))))))))))))))
      have fG0_19 := Lib.hid (fG0_18.out.below hb (Nat.le_trans s9.out (Nat.le_trans s10.out (Nat.le_trans s11.out (Nat.le_trans s12.out (Nat.le_trans s13.out (Nat.le_trans s14.out (Nat.le_trans s15.out (Nat.le_trans s16.out (Nat.le_trans s17.out s18.out))))))))))
      have bG_19 := Lib.hid (bG_18.out.below hb (Nat.le_trans s10.out (Nat.le_trans s11.out (Nat.le_trans s12.out (Nat.le_trans s13.out (Nat.le_trans s14.out (Nat.le_trans s15.out (Nat.le_trans s16.out (Nat.le_trans s17.out s18.out)))))))))
      have fH0_19 := Lib.hid (fH0_18.out.below hb (Nat.le_refl _))
      have bH_19 := Lib.hid (bH_18.out.below hb (Nat.le_refl _))
      clear fX00_18 bX0_18 fX10_18 bX1_18 fW0_18 bW_18 fG0_18 bG_18 fH0_18 bH_18 hb
      have eX00 := bX0_19.out.2 0 _ rfl
      have eX01 := bX0_19.out.2 1 _ rfl
      have eX02 := bX0_19.out.2 2 _ rfl
      have eX03 := bX0_19.out.2 3 _ rfl
      have zX0 := Nat.lt_of_lt_of_le bX0_19.out.1 (Nat.le_trans s1.out (Nat.le_trans s2.out (Nat.le_trans s3.out (Nat.le_trans s4.out (Nat.le_trans s5.out (Nat.le_trans s6.out (Nat.le_trans s7.out (Nat.le_trans s8.out (Nat.le_trans s9.out (Nat.le_trans s10.out (Nat.le_trans s11.out (Nat.le_trans s12.out (Nat.le_trans s13.out (Nat.le_trans s14.out (Nat.le_trans s15.out (Nat.le_trans s16.out (Nat.le_trans s17.out (Nat.le_trans s18.out s19.out))))))))))))))))))
      have eX10 := bX1_19.out.2 0 _ rfl
      have eX11 := bX1_19.out.2 1 _ rfl
      have eX12 := bX1_19.out.2 2 _ rfl
      have eX13 := bX1_19.out.2 3 _ rfl
      have zX1 := Nat.lt_of_lt_of_le bX1_19.out.1 (Nat.le_trans s1.out (Nat.le_trans s2.out (Nat.le_trans s3.out (Nat.le_trans s4.out (Nat.le_trans s5.out (Nat.le_trans s6.out (Nat.le_trans s7.out (Nat.le_trans s8.out (Nat.le_trans s9.out (Nat.le_trans s10.out (Nat.le_trans s11.out (Nat.le_trans s12.out (Nat.le_trans s13.out (Nat.le_trans s14.out (Nat.le_trans s15.out (Nat.le_trans s16.out (Nat.le_trans s17.out (Nat.le_trans s18.out s19.out))))))))))))))))))
      have eW0 := bW_19.out.2 0 _ rfl
      have eW1 := bW_19.out.2 1 _ rfl
      have eW2 := bW_19.out.2 2 _ rfl
      have eW3 := bW_19.out.2 3 _ rfl
      have zW := Nat.lt_of_lt_of_le bW_19.out.1 (Nat.le_trans s4.out (Nat.le_trans s5.out (Nat.le_trans s6.out (Nat.le_trans s7.out (Nat.le_trans s8.out (Nat.le_trans s9.out (Nat.le_trans s10.out (Nat.le_trans s11.out (Nat.le_trans s12.out (Nat.le_trans s13.out (Nat.le_trans s14.out (Nat.le_trans s15.out (Nat.le_trans s16.out (Nat.le_trans s17.out (Nat.le_trans s18.out s19.out)))))))))))))))
      have eG0 := bG_19.out.2 0 _ rfl
      have eG1 := bG_19.out.2 1 _ rfl
      have eG2 := bG_19.out.2 2 _ rfl
      have eG3 := bG_19.out.2 3 _ rfl
      have zG := Nat.lt_of_lt_of_le bG_19.out.1 (Nat.le_trans s10.out (Nat.le_trans s11.out (Nat.le_trans s12.out (Nat.le_trans s13.out (Nat.le_trans s14.out (Nat.le_trans s15.out (Nat.le_trans s16.out (Nat.le_trans s17.out (Nat.le_trans s18.out s19.out)))))))))
      have eH0 := bH_19.out.2 0 _ rfl
      have eH1 := bH_19.out.2 1 _ rfl
      have eH2 := bH_19.out.2 2 _ rfl
      have eH3 := bH_19.out.2 3 _ rfl
      have zH := Nat.lt_of_lt_of_le bH_19.out.1 s19.out
      go_wp2_with fail
      clear eX00 eX01 eX02 eX03 zX0 eX10 eX11 eX12 eX13 zX1 eW0 eW1 eW2 eW3 zW eG0 eG1 eG2 eG3 zG eH0 eH1 eH2 eH3 zH
      refine (heldA_abs' 1 1 (by simp) fG0_19.out.rd (by omega) (by omega)).mono ?_
      rintro e w20 ⟨rfl, hb⟩
      have t20 := Lib.hid (after t19.out hb)
      have s20 := Lib.hid hb.size
      have fX00_20 := Lib.hid (fX00_19.out.below hb t19.out.size)
      have bX0_20 := Lib.hid (bX0_19.out.below hb (Nat.le_trans s1.out (Nat.le_trans s2.out (Nat.le_trans s3.out (Nat.le_trans s4.out (Nat.le_trans s5.out (Nat.le_trans s6.out (Nat.le_trans s7.out (Nat.le_trans s8.out (Nat.le_trans s9.out (Nat.le_trans s10.out (Nat.le_trans s11.out (Nat.le_trans s12.out (Nat.le_trans s13.out (Nat.le_trans s14.out (Nat.le_trans s15.out (Nat.le_trans s16.out (Nat.le_trans s17.out (Nat.le_trans s18.out s19.out)))))))))))))))))))
      have fX10_20 := Lib.hid (fX10_19.out.below hb t19.out.size)
      have bX1_20 := Lib.hid (bX1_19.out.below hb (Nat.le_trans s1.out (Nat.le_trans s2.out (Nat.le_trans s3.out (Nat.le_trans s4.out (Nat.le_trans s5.out (Nat.le_trans s6.out (Nat.le_trans s7.out (Nat.le_trans s8.out (Nat.le_trans s9.out (Nat.le_trans s10.out (Nat.le_trans s11.out (Nat.le_trans s12.out (Nat.le_trans s13.out (Nat.le_trans s14.out (Nat.le_trans s15.out (Nat.le_trans s16.out (Nat.le_trans s17.out (Nat.le_trans s18.out s19.out)))))))))))))))))))
      have fW0_20 := Lib.hid (fW0_19.out.below hb (Nat.le_trans s4.out (Nat.le_trans s5.out (Nat.le_trans s6.out (Nat.le_trans s7.out (Nat.le_trans s8.out (Nat.le_trans s9.out (Nat.le_trans s10.out (Nat.le_trans s11.out (Nat.le_trans s12.out (Nat.le_trans s13.out (Nat.le_trans s14.out (Nat.le_trans s15.out (Nat.le_trans s16.out (Nat.le_trans s17.out (Nat.le_trans s18.out s19.out))))))))))))))))
      have bW_20 := Lib.hid (bW_19.out.below hb (Nat.le_trans s4.out (Nat.le_trans s5.out (Nat.le_trans s6.out (Nat.le_trans s7.out (Nat.le_trans s8.out (Nat.le_trans s9.out (Nat.le_trans s10.out (Nat.le_trans s11.out (Nat.le_trans s12.out (Nat.le_trans s13.out (Nat.le_trans s14.out (Nat.le_trans s15.out (Nat.le_trans s16.out (Nat.le_trans s17.out (Nat.le_trans s18.out s19.out))))))))))))))))
      have fG0_20 := Lib.hid (fG0_19.out.below hb (Nat.le_trans s9.out (Nat.le_trans s10.out (Nat.le_trans s11.out (Nat.le_trans s12.out (Nat.le_trans s13.out (Nat.le_trans s14.out (Nat.le_trans s15.out (Nat.le_trans s16.out (Nat.le_trans s17.out (Nat.le_trans s18.out s19.out)))))))))))
      have bG_20 := Lib.hid (bG_19.out.below hb (Nat.le_trans s10.out (Nat.le_trans s11.out (Nat.le_trans s12.out (Nat.le_trans s13.out (Nat.le_trans s14.out (Nat.le_trans s15.out (Nat.le_trans s16.out (Nat.le_trans s17.out (Nat.le_trans s18.out s19.out))))))))))
      have fH0_20 := Lib.hid (fH0_19.out.below hb s19.out)
      have bH_20 := Lib.hid (bH_19.out.below hb s19.out)
      clear fX00_19 bX0_19 fX10_19 bX1_19 fW0_19 bW_19 fG0_19 bG_19 fH0_19 bH_19 hb
      go_wp2
      go_ret
      exact ⟨rfl, t20.out⟩
end fnExactSecondaryChange
end Go.Proofs.Ytecdgnflikkhaaa
