/- impl.Floor.yield: a turn finished in a floor that lies in a box. Conditions: the ranges named. -/
import Derived.Test.YtbpikbcnpmplfaaSs3
namespace Go.Proofs.Ytbpikbcnpmplfaa
open Go.RowKit
set_option linter.unusedVariables false
set_option linter.unusedSimpArgs false
attribute [local go_sem ↓] Go.wp_at_zero Go.wp_at_succ
open Ss3
theorem grown_new (w : World) (p : Addr) (u : Value) : w.grownBy (w.setCell p u) (some p.block) := ⟨rfl, rfl, rfl, by simp, fun k _ hk => heap_setCell_other w p k u (fun e => hk (by rw [e]))⟩
theorem below_set5 {B b : Nat} {w w' : World} (h : Below B w w') (hb : B ≤ b) (v0 v1 v2 v3 v4 : Value) : Below B w (((((w'.setCell ⟨b, 0, none⟩ v0).setCell ⟨b, 1, none⟩ v1).setCell ⟨b, 2, none⟩ v2).setCell ⟨b, 3, none⟩ v3).setCell ⟨b, 4, none⟩ v4) := ((((h.setCell hb _).setCell hb _).setCell hb _).setCell hb _).setCell hb _
/-- What yield leaves. -/
def YieTo (w : World) (b base : Nat) (A : Option Addr) (c : Nat) (D : Option Addr) (d : Nat) (f g : Flr) (e : Ending) (w' : World) : Prop := ∃ (D' : Option Addr) (d' : Nat), e = .returned (.tuple #[]) ∧ BoxF w' b [.int .i64 g.t, .int .i64 g.s, .int .i64 g.sp, .slice A g.wt.length c, .slice D' g.sh.length d'] ∧ Ty w' b 29 ∧ w'.ownsRow base 43 3 (.slice D' g.sh.length d') g.sh.length (ShareK.row g.sh) ∧ Two w w' b (Value.slice D f.sh.length d).ownBlock
set_option maxHeartbeats 4000000 in
set_option maxRecDepth 100000 in
theorem yield_any (b base : Nat) (A : Option Addr) (c : Nat) (D : Option Addr) (d : Nat) (f : Flr) (w : World) (hb : BoxF w b [.int .i64 f.t, .int .i64 f.s, .int .i64 f.sp, .slice A f.wt.length c, .slice D f.sh.length d]) (ht : Ty w b 29) (own : w.ownsRow base 43 3 (.slice D f.sh.length d) f.sh.length (ShareK.row f.sh)) (hn : f.sh.length ≤ 999999) (hb0 : base ≤ w.heap.size) (h0 : 0 ≤ (shOf f.sp f.sh).t) (h1 : (shOf f.sp f.sh).t ≤ 1000000) :
    Calls Try.prog 49 #[.pointer (some ⟨b, 0, none⟩)] w (YieTo w b base A c D d f (yieF f)) := by
  have hbw := ht.lt
  have HN0 := Lib.hid hb
  have HTY := Lib.hid ht
  have HOWN := Lib.hid own
  have HD := Lib.hid (Cells.of_own own)
  have KS : ∀ {w' : World}, Below w.heap.size w w' → (Below w.heap.size w w' ∧ ∀ o, w'.cell? ⟨b, o, none⟩ = w.cell? ⟨b, o, none⟩) := fun h => ⟨h, fun o => h.cell (p := ⟨b, o, none⟩) hbw⟩
  have hn : f.sh.length ≤ 1048576 := by omega
  have e0 := hb.1 0 _ rfl
  have e1 := hb.1 1 _ rfl
  have e2 := hb.1 2 _ rfl
  have e3 := hb.1 3 _ rfl
  have e4 := hb.1 4 _ rfl
  clear hb ht own
  go_enter Try.func49, Try.ntmps49
  go_upto_region 0 with fail
  go_cut [2] (fun s wx => ∃ q : Nat, s = .pointer (some ⟨q, 0, none⟩) ∧ BoxF wx q [.int .i64 (shOf f.sp f.sh).m, .int .i64 (shOf f.sp f.sh).t, .int .i64 (shOf f.sp f.sh).s] ∧ w.heap.size ≤ q ∧ q < wx.heap.size ∧ Below w.heap.size w wx)
  case first => as_aux_lemma =>
    refine wp_region_noPanic ?_
    refine wp_region_held_drew (S := (fun w' => Below w.heap.size w w' ∧ ∀ o, w'.cell? ⟨b, o, none⟩ = w.cell? ⟨b, o, none⟩)) (by kernel_rfl) ?_ (fun hHeld => ?_)
    · ((try dsimp only); exact KS (Below.refl _ _).drew)
    have HB0 := Lib.hid (show Below w.heap.size w w.drew from (Below.refl _ _).drew)
    generalize w.drew = ud at *
    refine take_yes (i := 0) (d := 3) (v := ?_) rfl rfl (by kernel_rfl) (by kernel_rfl) (by kernel_rfl) (fun _ _ _ h => h) (by kernel_rfl) ?_ hHeld ?_
    rotate_left
    · (intro w hSw; (try dsimp only at hSw); go_simp; try (with_reducible rfl))
    try simp only [Act.put, List.setIfInBounds_toArray, List.set_cons_zero, List.set_cons_succ]
    refine take_yes (i := 1) (d := 4) (v := ?_) rfl rfl (by kernel_rfl) (by kernel_rfl) (by kernel_rfl) (fun _ _ _ h => h) (by kernel_rfl) ?_ hHeld ?_
    rotate_left
    · (intro w hSw; (try dsimp only at hSw); go_simp; try (with_reducible rfl))
    try simp only [Act.put, List.setIfInBounds_toArray, List.set_cons_zero, List.set_cons_succ]
    refine take_yes (i := 2) (d := 5) (v := ?_) rfl rfl (by kernel_rfl) (by kernel_rfl) (by kernel_rfl) (fun _ _ _ h => h) (by kernel_rfl) ?_ hHeld ?_
    rotate_left
    · (intro w hSw; (try dsimp only at hSw); go_simp; try (with_reducible rfl))
    try simp only [Act.put, List.setIfInBounds_toArray, List.set_cons_zero, List.set_cons_succ]
    refine take_yes (i := 3) (d := 6) (v := ?_) rfl rfl (by kernel_rfl) (by kernel_rfl) (by kernel_rfl) (fun _ _ _ h => h) (by kernel_rfl) ?_ hHeld ?_
    rotate_left
    · (intro w hSw; (try dsimp only at hSw); go_simp; try (with_reducible rfl))
    try simp only [Act.put, List.setIfInBounds_toArray, List.set_cons_zero, List.set_cons_succ]
    refine take_yes (i := 4) (d := 7) (v := ?_) rfl rfl (by kernel_rfl) (by kernel_rfl) (by kernel_rfl) (fun _ _ _ h => h) (by kernel_rfl) ?_ hHeld ?_
    rotate_left
    · (intro w hSw; (try dsimp only at hSw); go_simp; try (with_reducible rfl))
    try simp only [Act.put, List.setIfInBounds_toArray, List.set_cons_zero, List.set_cons_succ]
    refine take_yes (i := 5) (d := 8) (v := ?_) rfl rfl (by kernel_rfl) (by kernel_rfl) (by kernel_rfl) (fun _ _ _ h => h) (by kernel_rfl) ?_ hHeld ?_
    rotate_left
    · (intro w hSw; (try dsimp only at hSw); go_simp; try (with_reducible rfl))
    try simp only [Act.put, List.setIfInBounds_toArray, List.set_cons_zero, List.set_cons_succ]
    refine take_yes (i := 6) (d := 9) (v := ?_) rfl rfl (by kernel_rfl) (by kernel_rfl) (by kernel_rfl) (fun _ _ _ h => h) (by kernel_rfl) ?_ hHeld ?_
    rotate_left
    · (intro w hSw; (try dsimp only at hSw); go_simp; try (with_reducible rfl))
    try simp only [Act.put, List.setIfInBounds_toArray, List.set_cons_zero, List.set_cons_succ]
    refine wpAnyH_ready (rs := [7, 8]) (by kernel_rfl) (by simp) ?_
    refine AllReadyH.cons rfl (fun K hK => ?_) (AllReadyH.cons rfl (fun K hK => ?_) (AllReadyH.nil))
    · go_simp
      (go_at_call 61; refine (shareOf_any A D c d f f.sp _ (HD.out.below hHeld.1) hn).mono ?_; rintro e w1 ⟨rfl, hb⟩; have HBN := Lib.hid (after hHeld.1 hb); have HQC := Lib.hid hb; clear hb)
      (first | refine hK.out _ _ ?_ (fun hHeld1 => ?_) | (go_wp2_with fail; refine hK.out _ _ ?_ (fun hHeld1 => ?_)))
      · ((try dsimp only); exact KS HBN.out)
      clear hK K hHeld
      have hHeld := hHeld1
      clear hHeld1
      try simp only [Act.put, List.setIfInBounds_toArray, List.set_cons_zero, List.set_cons_succ]
      refine wpAnyH_ready (rs := [8]) (by kernel_rfl) (by simp) ?_
      refine AllReadyH.cons rfl (fun K hK => ?_) (AllReadyH.nil)
      have HBP := Lib.hid hHeld.1
      try go_simp
      (first | refine hK.out _ _ ?_ (fun hHeld1 => ?_) | (go_wp2_with fail; refine hK.out _ _ ?_ (fun hHeld1 => ?_)))
      · ((try dsimp only); exact KS (HBP.out.alloc HBP.out.size _))
      clear hK K hHeld
      have hHeld := hHeld1
      clear hHeld1
      try simp only [Act.put, List.setIfInBounds_toArray, List.set_cons_zero, List.set_cons_succ]
      have HBN := Lib.hid hHeld.1
      have HQ := Lib.hid (BoxF.new3 w1 (.int .i64 0) (.int .i64 0) (.int .i64 0) 43 w1.heap.size rfl)
      have hqs : w1.heap.size < (w1.alloc (.cells #[.int .i64 0, .int .i64 0, .int .i64 0] 43)).heap.size := by simp
      have hql := HBP.out.size
      generalize w1.alloc (.cells #[.int .i64 0, .int .i64 0, .int .i64 0] 43) = w2 at *
      generalize w1.heap.size = q at *
      refine wpAnyH_ready (rs := [9]) (by kernel_rfl) (by simp) ?_
      refine AllReadyH.cons rfl (fun K hK => ?_) (AllReadyH.nil)
      have HBP := Lib.hid hHeld.1
      have f0 := HQ.out.2 0
      have f1 := HQ.out.2 1
      have f2 := HQ.out.2 2
      have g0 := HQ.out.1 0 _ rfl
      have g1 := HQ.out.1 1 _ rfl
      have g2 := HQ.out.1 2 _ rfl
      try go_simp
      (first | refine hK.out _ _ ?_ (fun hHeld1 => ?_) | (go_wp2_with fail; refine hK.out _ _ ?_ (fun hHeld1 => ?_)))
      · ((try dsimp only); exact KS (((HBP.out.setCell hql _).setCell hql _).setCell hql _))
      clear hK K hHeld
      have hHeld := hHeld1
      clear hHeld1
      try simp only [Act.put, List.setIfInBounds_toArray, List.set_cons_zero, List.set_cons_succ]
      have HBN := Lib.hid hHeld.1
      have HQ := Lib.hid (HQ.out.set3 (.int .i64 (shOf f.sp f.sh).m) (.int .i64 (shOf f.sp f.sh).t) (.int .i64 (shOf f.sp f.sh).s))
      refine wpAnyH_done (by kernel_rfl) ?_ _
      refine NoPanic.normal ?_
      clear hHeld
      go_wp2_with fail
      go_meet
      exact ⟨q, rfl, HQ.out, hql, by simpa using hqs, HBN.out⟩
    · have HBP := Lib.hid hHeld.1
      try go_simp
      (first | refine hK.out _ _ ?_ (fun hHeld1 => ?_) | (go_wp2_with fail; refine hK.out _ _ ?_ (fun hHeld1 => ?_)))
      · ((try dsimp only); exact KS (HBP.out.alloc HBP.out.size _))
      clear hK K hHeld
      have hHeld := hHeld1
      clear hHeld1
      try simp only [Act.put, List.setIfInBounds_toArray, List.set_cons_zero, List.set_cons_succ]
      have HBN := Lib.hid hHeld.1
      have HQ := Lib.hid (BoxF.new3 ud (.int .i64 0) (.int .i64 0) (.int .i64 0) 43 ud.heap.size rfl)
      have hqs : ud.heap.size < (ud.alloc (.cells #[.int .i64 0, .int .i64 0, .int .i64 0] 43)).heap.size := by simp
      have hql := HB0.out.size
      generalize ud.alloc (.cells #[.int .i64 0, .int .i64 0, .int .i64 0] 43) = w1 at *
      generalize ud.heap.size = q at *
      refine wpAnyH_ready (rs := [7]) (by kernel_rfl) (by simp) ?_
      refine AllReadyH.cons rfl (fun K hK => ?_) (AllReadyH.nil)
      go_simp
      (go_at_call 61; refine (shareOf_any A D c d f f.sp _ (HD.out.below hHeld.1) hn).mono ?_; rintro e w2 ⟨rfl, hb⟩; have HBN := Lib.hid (after hHeld.1 hb); have HQC := Lib.hid hb; clear hb)
      (first | refine hK.out _ _ ?_ (fun hHeld1 => ?_) | (go_wp2_with fail; refine hK.out _ _ ?_ (fun hHeld1 => ?_)))
      · ((try dsimp only); exact KS HBN.out)
      clear hK K hHeld
      have hHeld := hHeld1
      clear hHeld1
      try simp only [Act.put, List.setIfInBounds_toArray, List.set_cons_zero, List.set_cons_succ]
      have HQ := Lib.hid (HQ.out.below HQC.out hqs)
      have hqs := Nat.lt_of_lt_of_le hqs HQC.out.size
      refine wpAnyH_ready (rs := [9]) (by kernel_rfl) (by simp) ?_
      refine AllReadyH.cons rfl (fun K hK => ?_) (AllReadyH.nil)
      have HBP := Lib.hid hHeld.1
      have f0 := HQ.out.2 0
      have f1 := HQ.out.2 1
      have f2 := HQ.out.2 2
      have g0 := HQ.out.1 0 _ rfl
      have g1 := HQ.out.1 1 _ rfl
      have g2 := HQ.out.1 2 _ rfl
      try go_simp
      (first | refine hK.out _ _ ?_ (fun hHeld1 => ?_) | (go_wp2_with fail; refine hK.out _ _ ?_ (fun hHeld1 => ?_)))
      · ((try dsimp only); exact KS (((HBP.out.setCell hql _).setCell hql _).setCell hql _))
      clear hK K hHeld
      have hHeld := hHeld1
      clear hHeld1
      try simp only [Act.put, List.setIfInBounds_toArray, List.set_cons_zero, List.set_cons_succ]
      have HBN := Lib.hid hHeld.1
      have HQ := Lib.hid (HQ.out.set3 (.int .i64 (shOf f.sp f.sh).m) (.int .i64 (shOf f.sp f.sh).t) (.int .i64 (shOf f.sp f.sh).s))
      refine wpAnyH_done (by kernel_rfl) ?_ _
      refine NoPanic.normal ?_
      clear hHeld
      go_wp2_with fail
      go_meet
      exact ⟨q, rfl, HQ.out, hql, by simpa using hqs, HBN.out⟩
  case rest => as_aux_lemma =>
    obtain ⟨q, rfl, hq, hwq, hqw, hbx⟩ := hcut
    obtain ⟨v, hwc⟩ : ∃ x : World, x = wc := ⟨_, rfl⟩
    subst hwc
    have x1 := hq.1 1 _ rfl
    have z1 := hq.2 1
    have t1 : IntKind.i64.wrap ((shOf f.sp f.sh).t + 1) = (shOf f.sp f.sh).t + 1 := by rw [IntKind.wrap_i64]; omega
    have HQ := Lib.hid (hq.set (k := 1) (by simp) (.int .i64 ((shOf f.sp f.sh).t + 1)))
    have hbq : b ≠ q := by omega
    have HN1 := Lib.hid ((HN0.out.below hbx hbw).far ⟨q, 1, none⟩ (.int .i64 ((shOf f.sp f.sh).t + 1)) hbq)
    have HT1 := Lib.hid ((HTY.out.below hbx hbw).set ⟨q, 1, none⟩ (.int .i64 ((shOf f.sp f.sh).t + 1)))
    have HO1 := Lib.hid (ownsRow_setCell_other (own_keep HOWN.out hbx) (a := ⟨q, 1, none⟩) (fun e => by have := (HOWN.out.lt q e).2; omega) (.int .i64 ((shOf f.sp f.sh).t + 1)))
    have HTW := Lib.hid ((Two.of_below (b := b) (row := (Value.slice D f.sh.length d).ownBlock) hbx).grown (grown_new v ⟨q, 1, none⟩ (.int .i64 ((shOf f.sp f.sh).t + 1))) (.inr (.inl ⟨q, rfl, hwq⟩)))
    have hsz : base ≤ (v.setCell ⟨q, 1, none⟩ (.int .i64 ((shOf f.sp f.sh).t + 1))).heap.size := by have := hbx.size; simp; omega
    clear hq hbx e0 e1 e2 e3 e4
    go_upto_region 2 with fail
    clear x1 z1
    generalize v.setCell ⟨q, 1, none⟩ (.int .i64 ((shOf f.sp f.sh).t + 1)) = v1 at *
    have x0 := HQ.out.1 0 _ rfl
    have x1 := HQ.out.1 1 _ rfl
    have x2 := HQ.out.1 2 _ rfl
    go_wp2_with fail
    refine (setShare_any b base D d _ _ _ _ f.sh ⟨(shOf f.sp f.sh).m, (shOf f.sp f.sh).t + 1, (shOf f.sp f.sh).s⟩ _ HN1.out HT1.out HO1.out (by omega) hsz).mono ?_
    rintro e v2 ⟨D', d', rfl, hb2, ht2, own2, tw2⟩
    have HB2 := Lib.hid hb2
    have HT2 := Lib.hid ht2
    have HO2 := Lib.hid own2
    have HTW2 := Lib.hid (HTW.out.trans tw2 (.inl rfl))
    have f22 := hb2.2 2
    have e22 := hb2.1 2 _ rfl
    clear hb2 ht2 own2 tw2
    go_wp2
    go_end0
    exact ⟨D', d', rfl, HB2.out.set (k := 2) (by simp) _, HT2.out.set _ _, ownsRow_setCell_other HO2.out (HT2.out.off HO2.out (by decide)) _, HTW2.out.set 2 _⟩
end Go.Proofs.Ytbpikbcnpmplfaa
