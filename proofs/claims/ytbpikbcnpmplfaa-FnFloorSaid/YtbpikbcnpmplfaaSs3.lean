/- impl.Floor.setShare: a share set in a floor that lies in a box. Conditions: the ranges named. -/
import Derived.Test.YtbpikbcnpmplfaaSs2
import Derived.Deep.DrawnRows
namespace Go.Proofs.Ytbpikbcnpmplfaa
open Go.RowKit
set_option linter.unusedVariables false
set_option linter.unusedSimpArgs false
attribute [local go_sem ↓] Go.wp_at_zero Go.wp_at_succ
namespace Ss3
theorem take_yes {P : Program} {md : Region.Mode} {ops : Array Oper} {Q : Exit → Act → World → Prop} {S : World → Prop} {i d : Nat} {oi : Oper} {v : Value} {fuel : Nat} {listed : Array Bool} {a : Act} {w : World} (hi : ops[i]? = some oi) (hd : oi.dst = some d)
    (hs : Region.noSelect ops = true) (hf : Region.free md ops listed i = true) (hr : (Region.ready md ops listed).contains i = true) (hQ : ∀ c a w, Q (.panic c) (a.put (some d) v) w → Q (.panic c) a w) (hw : Region.wanted oi (yielded ops a.tmps) = true)
    (hy : ∀ w, S w → (execOp a.eval oi).run P w = .ok (.value v) w) (hS : S w) (h : wpAnyH P md ops Q S fuel (listed.setIfInBounds i true) (a.put (some d) v) w) : wpAnyH P md ops Q S (fuel + 1) listed a w :=
  wpAnyH_take hi hs hf hr (by rw [hd]; exact hQ) (Or.inl ⟨hw, hy⟩) hS (by rw [hd]; exact h)
theorem take_no {P : Program} {md : Region.Mode} {ops : Array Oper} {Q : Exit → Act → World → Prop} {S : World → Prop} {i d : Nat} {oi : Oper} {fuel : Nat} {listed : Array Bool} {a : Act} {w : World} (hi : ops[i]? = some oi) (hd : oi.dst = some d)
    (hs : Region.noSelect ops = true) (hf : Region.free md ops listed i = true) (hr : (Region.ready md ops listed).contains i = true) (hQ : ∀ c a w, Q (.panic c) (a.put (some d) undef) w → Q (.panic c) a w) (hw : Region.wanted oi (yielded ops a.tmps) = false)
    (hS : S w) (h : wpAnyH P md ops Q S fuel (listed.setIfInBounds i true) (a.put (some d) undef) w) : wpAnyH P md ops Q S (fuel + 1) listed a w :=
  wpAnyH_take hi hs hf hr (by rw [hd]; exact hQ) (Or.inr ⟨hw, rfl⟩) hS (by rw [hd]; exact h)
end Ss3
open Ss3
/-- The same world, but for what it has drawn. -/
structure Alike (W w : World) : Prop where
  os : w.os = W.os
  tape : w.tape = W.tape
  output : w.output = W.output
  heap : w.heap = W.heap
theorem Alike.refl (W : World) : Alike W W := ⟨rfl, rfl, rfl, rfl⟩
theorem Alike.drewN {W w : World} (h : Alike W w) (n : Nat) : Alike W (w.drewN n) := ⟨h.os, h.tape, h.output, h.heap⟩
theorem Alike.drew {W w : World} (h : Alike W w) : Alike W w.drew := ⟨h.os, h.tape, h.output, h.heap⟩
theorem Alike.box {W w : World} (h : Alike W w) {b : Nat} {vs : List Value} (k : BoxF W b vs) : BoxF w b vs := BoxF.blk2 k (by rw [h.heap])
theorem Alike.ty {W w : World} (h : Alike W w) {b : Nat} {T : TypeId} (k : Ty W b T) : Ty w b T := by
  obtain ⟨cs, fr, k⟩ := k
  exact ⟨cs, fr, by rw [h.heap]; exact k⟩
theorem Alike.own {W w : World} (h : Alike W w) {lo e size n : Nat} {v : Value} {xs : List Value} (k : W.ownsRow lo e size v n xs) : w.ownsRow lo e size v n xs := by
  obtain ⟨a1, a2⟩ := k
  refine ⟨a1, ?_⟩
  rw [h.heap]
  exact a2
theorem Alike.two {W w w0 : World} (h : Alike W w) {b : Nat} {row : Option Nat} (k : Two w0 W b row) : Two w0 w b row := ⟨h.os.trans k.os, h.tape.trans k.tape, h.output.trans k.output, by rw [h.heap]; exact k.size, fun i hi h1 h2 => by rw [h.heap]; exact k.block i hi h1 h2⟩
/-- What setShare leaves. -/
def SetTo (w : World) (b base : Nat) (D : Option Addr) (d : Nat) (v0 v1 v2 v3 : Value) (sh ys : List Shr) (e : Ending) (w' : World) : Prop := ∃ (D' : Option Addr) (d' : Nat), e = .returned (.tuple #[]) ∧ BoxF w' b [v0, v1, v2, v3, .slice D' ys.length d'] ∧ Ty w' b 29 ∧ w'.ownsRow base 43 3 (.slice D' ys.length d') ys.length (ShareK.row ys) ∧ Two w w' b (Value.slice D sh.length d).ownBlock
theorem hit_fin {w wr ws : World} {b base g d k : Nat} {v0 v1 v2 v3 : Value} {sh ys : List Shr} {x : Shr} (ha : Alike wr ws) (hb : BoxF wr b [v0, v1, v2, v3, .slice (some ⟨g, 0, none⟩) sh.length d]) (ht : Ty wr b 29) (own : wr.ownsRow base 43 3 (.slice (some ⟨g, 0, none⟩) sh.length d) sh.length (ShareK.row sh)) (htw : Two w wr b (Value.slice (some ⟨g, 0, none⟩) sh.length d).ownBlock) (hk : k < sh.length) (hy : ys = sh.take k ++ x :: sh.drop (k + 1)) (hl : ys.length = sh.length) :
    SetTo w b base (some ⟨g, 0, none⟩) d v0 v1 v2 v3 sh ys (.returned (.tuple #[])) (((ws.setCell ⟨g, k * 3, none⟩ (.int .i64 x.m)).setCell ⟨g, k * 3 + 1, none⟩ (.int .i64 x.t)).setCell ⟨g, k * 3 + 2, none⟩ (.int .i64 x.s)) := by
  have hoff := (ha.ty ht).off (ha.own own) (by decide)
  have hne : b ≠ g := fun e => hoff (by rw [e]; rfl)
  have h1 := own_setCells (ShareK.enc x) (k * 3) (ha.own own)
  have h2 : setL (ShareK.row sh) (k * 3) (ShareK.enc x) = ShareK.row (sh.take k ++ x :: sh.drop (k + 1)) := row_setL ShareK hk x
  rw [h2, ← hy] at h1
  unfold SetTo
  rw [hl]
  exact ⟨some ⟨g, 0, none⟩, d, rfl, (((ha.box hb).far _ _ hne).far _ _ hne).far _ _ hne, (((ha.ty ht).set _ _).set _ _).set _ _, h1.1, (ha.two htw).grown h1.2 (.inl rfl)⟩
set_option maxHeartbeats 4000000 in
set_option maxRecDepth 100000 in
theorem setShare_any (b base : Nat) (D : Option Addr) (d : Nat) (v0 v1 v2 v3 : Value) (sh : List Shr) (x : Shr) (w : World) (hb : BoxF w b [v0, v1, v2, v3, .slice D sh.length d]) (ht : Ty w b 29) (own : w.ownsRow base 43 3 (.slice D sh.length d) sh.length (ShareK.row sh)) (hm : sh.length ≤ 999999) (hb0 : base ≤ w.heap.size) :
    Calls Try.prog 62 #[.pointer (some ⟨b, 0, none⟩), .agg #[.int .i64 x.m, .int .i64 x.t, .int .i64 x.s]] w (SetTo w b base D d v0 v1 v2 v3 sh (putS x sh)) := by
  have hbw := ht.lt
  have hb1 := below1 w (.cells #[.int .i64 x.m, .int .i64 x.t, .int .i64 x.s] 43)
  have HN0 := Lib.hid (hb.below hb1 hbw)
  have HTY := Lib.hid (ht.below hb1 hbw)
  have HN1 := Lib.hid (BoxF.new3 w (.int .i64 x.m) (.int .i64 x.t) (.int .i64 x.s) 43 w.heap.size rfl)
  have HOWN := Lib.hid (own_keep own hb1)
  have HTW := Lib.hid (Two.of_below (b := b) (row := (Value.slice D sh.length d).ownBlock) hb1)
  have hbq : b ≠ w.heap.size := by omega
  clear hb ht own hb1
  go_enter Try.func62, Try.ntmps62
  go_wp2
  generalize w.alloc (.cells #[.int .i64 x.m, .int .i64 x.t, .int .i64 x.s] 43) = W at *
  generalize hQ : w.heap.size = q at *
  have HQ := Lib.hid hQ
  clear hQ
  go_loopw [4] (fun i wr => ∃ k : Nat, k ≤ sh.length ∧ i = .int .i64 k ∧ Hid (cntS x.m sh = k + cntS x.m (sh.drop k)) ∧ Hid (Alike W wr)) (fun i _ => sh.length - (intOf i).toNat)
  case atStart => exact ⟨0, Nat.zero_le _, rfl, Lib.hid (by rw [List.drop_zero, Nat.zero_add]), Lib.hid (Alike.refl W)⟩
  case round =>
    obtain ⟨k, hk, rfl, hq, HAL⟩ := hrel
    have GN0 := HN0
    have GN1 := HN1
    have GTY := HTY
    have GOWN := HOWN
    have GTW := HTW
    replace HN0 := Lib.hid (HAL.out.box GN0.out)
    replace HN1 := Lib.hid (HAL.out.box GN1.out)
    replace HTY := Lib.hid (HAL.out.ty GTY.out)
    replace HOWN := Lib.hid (HAL.out.own GOWN.out)
    replace HTW := Lib.hid (HAL.out.two GTW.out)
    have e04 := HN0.out.1 4 _ rfl
    have e10 := HN1.out.1 0 _ rfl
    by_cases hlt : k < sh.length
    · obtain ⟨g, cap, hvv, _, _⟩ := HOWN.out.form (show 0 < sh.length by omega)
      obtain ⟨rfl, _, rfl⟩ : D = some ⟨g, 0, none⟩ ∧ sh.length = sh.length ∧ d = cap := (by simpa using hvv)
      clear hvv
      obtain ⟨ad, had, p0, p1, p2⟩ := share_at (Cells.of_own HOWN.out) hlt
      obtain rfl : ad = ⟨g, 0, none⟩ := by simpa using had.symm
      rw [add_head] at p0 p1 p2
      dsimp only at p1 p2
      clear had
      have i1 : (k : Int) < (sh.length : Int) := by omega
      have HY := Lib.hid (cntS_yes (m := x.m) hlt)
      have HN := Lib.hid (cntS_no (m := x.m) hlt)
      have HHIT := Lib.hid (fun (hc : cntS x.m sh = k) (he : sh[k].m = x.m) => putS_hit hc hlt he)
      have HNEW := Lib.hid (fun (hc : cntS x.m sh = k) (he : sh[k].m ≠ x.m) => putS_new hc hk (fun _ => he))
      obtain ⟨y, hy⟩ : ∃ y, Hid (sh[k] = y) := ⟨_, Lib.hid rfl⟩
      rw [hy.out] at p0 p1 p2 HY HN HHIT HNEW
      by_cases hl : y.m < x.m
      · have HA := Lib.hid (hq.out.trans (HY.out hl))
        clear hq HY HN HHIT HNEW
        go_wp2
        go_quiet (fail)
        go_wp2
        go_roundw
        case rel => exact ⟨k + 1, by omega, by go_num, HA, Lib.hid (HAL.out.drewN _)⟩
        case measure => simp [intOf]; omega
      · have HA := Lib.hid (hq.out.trans (HN.out hl))
        by_cases he : y.m = x.m
        · have HPT := Lib.hid (HHIT.out HA.out he)
          have he2 : (y.m == x.m) = true := by simp [he]
          have e11 := HN1.out.1 1 _ rfl
          have e12 := HN1.out.1 2 _ rfl
          have z0 := HOWN.out.frozenAt (k * 3)
          have z1 := HOWN.out.frozenAt (k * 3 + 1)
          have z2 := HOWN.out.frozenAt (k * 3 + 2)
          have HS := Lib.hid (own_setCells (ShareK.enc x) (k * 3) HOWN.out)
          have HRS := Lib.hid (row_setL ShareK hlt x)
          have HFL := Lib.hid (HTY.out.off HOWN.out (by decide))
          clear hq HY HN HHIT HNEW
          go_wp2
          go_quiet (fail)
          go_wp2
          go_quiet (fail)
          go_wp2
          go_region
          go_wp2
          go_end0
          exact hit_fin ((Alike.refl wr).drewN _) HN0.out HTY.out HOWN.out HTW.out hlt HPT.out.1 HPT.out.2
        · have HPN := Lib.hid (HNEW.out HA.out he)
          have he2 : (y.m == x.m) = false := by simp [he]
          clear hq HY HN HHIT HNEW
          go_wp2
          go_quiet (fail)
          go_wp2
          go_quiet (fail)
          go_wp2
          clear p0 p1 p2 e04 e10
          rename_i n1 hx1
          have HAL := Lib.hid ((HAL.out.drewN n1).drewN nq)
          generalize (wr.drewN n1).drewN nq = ws at *
          replace HN0 := Lib.hid (HAL.out.box GN0.out)
          replace HN1 := Lib.hid (HAL.out.box GN1.out)
          replace HTY := Lib.hid (HAL.out.ty GTY.out)
          replace HOWN := Lib.hid (HAL.out.own GOWN.out)
          replace HTW := Lib.hid (HAL.out.two GTW.out)
          refine wp_region_noPanic ?_
          refine wp_region_held_drew (S := (fun w' => Two w w' b (Value.slice (some ⟨g, 0, none⟩) sh.length d).ownBlock)) (by kernel_rfl) ?_ (fun hHeld => ?_)
          · ((try dsimp only); exact HTW.out.drew)
          have HTW1 := Lib.hid HTW.out.drew
          have HN0 := Lib.hid HN0.out.drew
          have HN1 := Lib.hid HN1.out.drew
          have HOWN := Lib.hid HOWN.out.drew
          have HTY := Lib.hid (show Ty ws.drew b 29 from HTY.out)
          have hbu : b < ws.drew.heap.size := HTY.out.lt
          generalize ws.drew = ud at *
          refine take_yes (i := 0) (d := 54) (v := ?_) rfl rfl (by kernel_rfl) (by kernel_rfl) (by kernel_rfl) (fun _ _ _ h => h) (by kernel_rfl) ?_ hHeld ?_
          rotate_left
          · (intro w hSw; (try dsimp only at hSw); go_simp; try (with_reducible rfl))
          try simp only [Act.put, List.setIfInBounds_toArray, List.set_cons_zero, List.set_cons_succ]
          refine take_yes (i := 1) (d := 55) (v := ?_) rfl rfl (by kernel_rfl) (by kernel_rfl) (by kernel_rfl) (fun _ _ _ h => h) (by kernel_rfl) ?_ hHeld ?_
          rotate_left
          · (intro w hSw; (try dsimp only at hSw); go_simp; try (with_reducible rfl))
          try simp only [Act.put, List.setIfInBounds_toArray, List.set_cons_zero, List.set_cons_succ]
          refine take_yes (i := 2) (d := 56) (v := ?_) rfl rfl (by kernel_rfl) (by kernel_rfl) (by kernel_rfl) (fun _ _ _ h => h) (by kernel_rfl) ?_ hHeld ?_
          rotate_left
          · (intro w hSw; (try dsimp only at hSw); go_simp; try (with_reducible rfl))
          try simp only [Act.put, List.setIfInBounds_toArray, List.set_cons_zero, List.set_cons_succ]
          refine take_yes (i := 3) (d := 57) (v := ?_) rfl rfl (by kernel_rfl) (by kernel_rfl) (by kernel_rfl) (fun _ _ _ h => h) (by kernel_rfl) ?_ hHeld ?_
          rotate_left
          · (intro w hSw; (try dsimp only at hSw); go_simp; try (with_reducible rfl))
          try simp only [Act.put, List.setIfInBounds_toArray, List.set_cons_zero, List.set_cons_succ]
          refine take_yes (i := 5) (d := 59) (v := ?_) rfl rfl (by kernel_rfl) (by kernel_rfl) (by kernel_rfl) (fun _ _ _ h => h) (by kernel_rfl) ?_ hHeld ?_
          rotate_left
          · (intro w hSw; (try dsimp only at hSw); go_simp; try (with_reducible rfl))
          try simp only [Act.put, List.setIfInBounds_toArray, List.set_cons_zero, List.set_cons_succ]
          refine wpAnyH_ready (rs := [4, 6]) (by kernel_rfl) (by simp) ?_
          refine AllReadyH.cons rfl (fun K hK => ?_) (AllReadyH.cons rfl (fun K hK => ?_) (AllReadyH.nil))
          · have e00 := HN0.out.1 0 _ rfl
            have e01 := HN0.out.1 1 _ rfl
            have e02 := HN0.out.1 2 _ rfl
            have e03 := HN0.out.1 3 _ rfl
            have e04 := HN0.out.1 4 _ rfl
            go_simp
            clear e00 e01 e02 e03 e04
            (first | refine hK.out _ _ ?_ (fun hHeld1 => ?_) | (go_wp2_with fail; refine hK.out _ _ ?_ (fun hHeld1 => ?_)))
            · ((try dsimp only); exact HTW1.out)
            clear hK K hHeld
            have hHeld := hHeld1
            clear hHeld1
            try simp only [Act.put, List.setIfInBounds_toArray, List.set_cons_zero, List.set_cons_succ]
            refine wpAnyH_ready (rs := [6]) (by kernel_rfl) (by simp) ?_
            refine AllReadyH.cons rfl (fun K hK => ?_) (AllReadyH.nil)
            have e10 := HN1.out.1 0 _ rfl
            have e11 := HN1.out.1 1 _ rfl
            have e12 := HN1.out.1 2 _ rfl
            go_simp
            clear e10 e11 e12
            (first | refine hK.out _ _ ?_ (fun hHeld1 => ?_) | (go_wp2_with fail; refine hK.out _ _ ?_ (fun hHeld1 => ?_)))
            · ((try dsimp only); exact HTW1.out)
            clear hK K hHeld
            have hHeld := hHeld1
            clear hHeld1
            try simp only [Act.put, List.setIfInBounds_toArray, List.set_cons_zero, List.set_cons_succ]
            refine wpAnyH_ready (rs := [7]) (by kernel_rfl) (by simp) ?_
            refine AllReadyH.cons rfl (fun K hK => ?_) (AllReadyH.nil)
            try go_simp
            (first | refine hK.out _ _ ?_ (fun hHeld1 => ?_) | (go_wp2_with fail; refine hK.out _ _ ?_ (fun hHeld1 => ?_)))
            · ((try dsimp only); exact HTW1.out.grown (grownBy_of_below (below1 ud (.cells #[.int .i64 x.m, .int .i64 x.t, .int .i64 x.s] 43)) none) (.inr (.inr (.inl rfl))))
            clear hK K hHeld
            have hHeld := hHeld1
            clear hHeld1
            try simp only [Act.put, List.setIfInBounds_toArray, List.set_cons_zero, List.set_cons_succ]
            have HTW2 := Lib.hid hHeld
            have hb := below1 ud (.cells #[.int .i64 x.m, .int .i64 x.t, .int .i64 x.s] 43)
            have HV := Lib.hid (show (ud.alloc (.cells #[.int .i64 x.m, .int .i64 x.t, .int .i64 x.s] 43)).heap[ud.heap.size]? = some (.cells (ShareK.enc x).toArray 43 (0, 0)) from heap_alloc_new ud _)
            have HN0 := Lib.hid (HN0.out.below hb hbu)
            have HTY := Lib.hid (HTY.out.below hb hbu)
            have HNE := Lib.hid (fun g9 (hg : (Value.slice (some ⟨g, 0, none⟩) sh.length d).ownBlock = some g9) => (HOWN.out.lt g9 hg).2)
            have HOWN := Lib.hid (own_keep HOWN.out hb)
            have hbv : b < (ud.alloc (.cells #[.int .i64 x.m, .int .i64 x.t, .int .i64 x.s] 43)).heap.size := HTY.out.lt
            have hszv : q ≤ (ud.alloc (.cells #[.int .i64 x.m, .int .i64 x.t, .int .i64 x.s] 43)).heap.size := by rw [← HQ.out]; exact HTW2.out.size
            generalize ud.alloc (.cells #[.int .i64 x.m, .int .i64 x.t, .int .i64 x.s] 43) = v at *
            generalize ud.heap.size = vb at *
            clear hb
            refine wpAnyH_ready (rs := [8]) (by kernel_rfl) (by simp) ?_
            refine AllReadyH.cons rfl (fun K hK => ?_) (AllReadyH.nil)
            go_simp
            (go_at_call 86; refine (insShare_any base (some ⟨g, 0, none⟩) sh.length d k vb sh x _ rfl HOWN.out hk HV.out (fun e => by have := HNE.out _ e; omega) (by omega) (Nat.le_trans hb0 hszv)).mono ?_; rintro e w3 ⟨D', d', rfl, own3, hg3⟩; have HO3 := Lib.hid own3; have HG3 := Lib.hid hg3; clear own3 hg3)
            (first | refine hK.out _ _ ?_ (fun hHeld1 => ?_) | (go_wp2_with fail; refine hK.out _ _ ?_ (fun hHeld1 => ?_)))
            · ((try dsimp only); exact HTW2.out.grown HG3.out (.inl rfl))
            clear hK K hHeld
            have hHeld := hHeld1
            clear hHeld1
            try simp only [Act.put, List.setIfInBounds_toArray, List.set_cons_zero, List.set_cons_succ]
            have HTW3 := Lib.hid hHeld
            have hoff := HTY.out.off HOWN.out (by decide)
            have HH := Lib.hid (HG3.out.block b hbv (fun e => hoff e.symm))
            have HN0 := Lib.hid (HN0.out.blk2 HH.out)
            have HTY := Lib.hid (show Ty w3 b 29 by obtain ⟨cs, fr, hc⟩ := HTY.out; exact ⟨cs, fr, HH.out.trans hc⟩)
            clear hoff
            refine take_yes (i := 9) (d := 63) (v := ?_) rfl rfl (by kernel_rfl) (by kernel_rfl) (by kernel_rfl) (fun _ _ _ h => h) (by kernel_rfl) ?_ hHeld ?_
            rotate_left
            · (intro w hSw; (try dsimp only at hSw); go_simp; try (with_reducible rfl))
            try simp only [Act.put, List.setIfInBounds_toArray, List.set_cons_zero, List.set_cons_succ]
            refine take_yes (i := 10) (d := 64) (v := ?_) rfl rfl (by kernel_rfl) (by kernel_rfl) (by kernel_rfl) (fun _ _ _ h => h) (by kernel_rfl) ?_ hHeld ?_
            rotate_left
            · (intro w hSw; (try dsimp only at hSw); go_simp; try (with_reducible rfl))
            try simp only [Act.put, List.setIfInBounds_toArray, List.set_cons_zero, List.set_cons_succ]
            have e00 := HN0.out.1 0 _ rfl
            have e01 := HN0.out.1 1 _ rfl
            have e02 := HN0.out.1 2 _ rfl
            have e03 := HN0.out.1 3 _ rfl
            have e04 := HN0.out.1 4 _ rfl
            have f04 := HN0.out.2 4
            refine wpAnyH_ready (rs := [11]) (by kernel_rfl) (by simp) ?_
            refine AllReadyH.cons rfl (fun K hK => ?_) (AllReadyH.nil)
            try go_simp
            clear f04
            clear e00 e01 e02 e03 e04
            (first | refine hK.out _ _ ?_ (fun hHeld1 => ?_) | (go_wp2_with fail; refine hK.out _ _ ?_ (fun hHeld1 => ?_)))
            · ((try dsimp only); exact HTW3.out.set 4 _)
            clear hK K hHeld
            have hHeld := hHeld1
            clear hHeld1
            try simp only [Act.put, List.setIfInBounds_toArray, List.set_cons_zero, List.set_cons_succ]
            refine wpAnyH_done (by kernel_rfl) ?_ _
            refine NoPanic.normal ?_
            clear hHeld
            go_wp2
            go_end0
            have hoff := HTY.out.off HO3.out (by decide)
            unfold SetTo
            rw [HPN.out.2, HPN.out.1]
            exact ⟨D', d', rfl, HN0.out.set (k := 4) (by simp) _, HTY.out.set _ _, ownsRow_setCell_other HO3.out hoff _, HTW3.out.set 4 _⟩
          · have e10 := HN1.out.1 0 _ rfl
            have e11 := HN1.out.1 1 _ rfl
            have e12 := HN1.out.1 2 _ rfl
            go_simp
            clear e10 e11 e12
            (first | refine hK.out _ _ ?_ (fun hHeld1 => ?_) | (go_wp2_with fail; refine hK.out _ _ ?_ (fun hHeld1 => ?_)))
            · ((try dsimp only); exact HTW1.out)
            clear hK K hHeld
            have hHeld := hHeld1
            clear hHeld1
            try simp only [Act.put, List.setIfInBounds_toArray, List.set_cons_zero, List.set_cons_succ]
            refine wpAnyH_ready (rs := [4, 7]) (by kernel_rfl) (by simp) ?_
            refine AllReadyH.cons rfl (fun K hK => ?_) (AllReadyH.cons rfl (fun K hK => ?_) (AllReadyH.nil))
            · have e00 := HN0.out.1 0 _ rfl
              have e01 := HN0.out.1 1 _ rfl
              have e02 := HN0.out.1 2 _ rfl
              have e03 := HN0.out.1 3 _ rfl
              have e04 := HN0.out.1 4 _ rfl
              go_simp
              clear e00 e01 e02 e03 e04
              (first | refine hK.out _ _ ?_ (fun hHeld1 => ?_) | (go_wp2_with fail; refine hK.out _ _ ?_ (fun hHeld1 => ?_)))
              · ((try dsimp only); exact HTW1.out)
              clear hK K hHeld
              have hHeld := hHeld1
              clear hHeld1
              try simp only [Act.put, List.setIfInBounds_toArray, List.set_cons_zero, List.set_cons_succ]
              refine wpAnyH_ready (rs := [7]) (by kernel_rfl) (by simp) ?_
              refine AllReadyH.cons rfl (fun K hK => ?_) (AllReadyH.nil)
              try go_simp
              (first | refine hK.out _ _ ?_ (fun hHeld1 => ?_) | (go_wp2_with fail; refine hK.out _ _ ?_ (fun hHeld1 => ?_)))
              · ((try dsimp only); exact HTW1.out.grown (grownBy_of_below (below1 ud (.cells #[.int .i64 x.m, .int .i64 x.t, .int .i64 x.s] 43)) none) (.inr (.inr (.inl rfl))))
              clear hK K hHeld
              have hHeld := hHeld1
              clear hHeld1
              try simp only [Act.put, List.setIfInBounds_toArray, List.set_cons_zero, List.set_cons_succ]
              have HTW2 := Lib.hid hHeld
              have hb := below1 ud (.cells #[.int .i64 x.m, .int .i64 x.t, .int .i64 x.s] 43)
              have HV := Lib.hid (show (ud.alloc (.cells #[.int .i64 x.m, .int .i64 x.t, .int .i64 x.s] 43)).heap[ud.heap.size]? = some (.cells (ShareK.enc x).toArray 43 (0, 0)) from heap_alloc_new ud _)
              have HN0 := Lib.hid (HN0.out.below hb hbu)
              have HTY := Lib.hid (HTY.out.below hb hbu)
              have HNE := Lib.hid (fun g9 (hg : (Value.slice (some ⟨g, 0, none⟩) sh.length d).ownBlock = some g9) => (HOWN.out.lt g9 hg).2)
              have HOWN := Lib.hid (own_keep HOWN.out hb)
              have hbv : b < (ud.alloc (.cells #[.int .i64 x.m, .int .i64 x.t, .int .i64 x.s] 43)).heap.size := HTY.out.lt
              have hszv : q ≤ (ud.alloc (.cells #[.int .i64 x.m, .int .i64 x.t, .int .i64 x.s] 43)).heap.size := by rw [← HQ.out]; exact HTW2.out.size
              generalize ud.alloc (.cells #[.int .i64 x.m, .int .i64 x.t, .int .i64 x.s] 43) = v at *
              generalize ud.heap.size = vb at *
              clear hb
              refine wpAnyH_ready (rs := [8]) (by kernel_rfl) (by simp) ?_
              refine AllReadyH.cons rfl (fun K hK => ?_) (AllReadyH.nil)
              go_simp
              (go_at_call 86; refine (insShare_any base (some ⟨g, 0, none⟩) sh.length d k vb sh x _ rfl HOWN.out hk HV.out (fun e => by have := HNE.out _ e; omega) (by omega) (Nat.le_trans hb0 hszv)).mono ?_; rintro e w3 ⟨D', d', rfl, own3, hg3⟩; have HO3 := Lib.hid own3; have HG3 := Lib.hid hg3; clear own3 hg3)
              (first | refine hK.out _ _ ?_ (fun hHeld1 => ?_) | (go_wp2_with fail; refine hK.out _ _ ?_ (fun hHeld1 => ?_)))
              · ((try dsimp only); exact HTW2.out.grown HG3.out (.inl rfl))
              clear hK K hHeld
              have hHeld := hHeld1
              clear hHeld1
              try simp only [Act.put, List.setIfInBounds_toArray, List.set_cons_zero, List.set_cons_succ]
              have HTW3 := Lib.hid hHeld
              have hoff := HTY.out.off HOWN.out (by decide)
              have HH := Lib.hid (HG3.out.block b hbv (fun e => hoff e.symm))
              have HN0 := Lib.hid (HN0.out.blk2 HH.out)
              have HTY := Lib.hid (show Ty w3 b 29 by obtain ⟨cs, fr, hc⟩ := HTY.out; exact ⟨cs, fr, HH.out.trans hc⟩)
              clear hoff
              refine take_yes (i := 9) (d := 63) (v := ?_) rfl rfl (by kernel_rfl) (by kernel_rfl) (by kernel_rfl) (fun _ _ _ h => h) (by kernel_rfl) ?_ hHeld ?_
              rotate_left
              · (intro w hSw; (try dsimp only at hSw); go_simp; try (with_reducible rfl))
              try simp only [Act.put, List.setIfInBounds_toArray, List.set_cons_zero, List.set_cons_succ]
              refine take_yes (i := 10) (d := 64) (v := ?_) rfl rfl (by kernel_rfl) (by kernel_rfl) (by kernel_rfl) (fun _ _ _ h => h) (by kernel_rfl) ?_ hHeld ?_
              rotate_left
              · (intro w hSw; (try dsimp only at hSw); go_simp; try (with_reducible rfl))
              try simp only [Act.put, List.setIfInBounds_toArray, List.set_cons_zero, List.set_cons_succ]
              have e00 := HN0.out.1 0 _ rfl
              have e01 := HN0.out.1 1 _ rfl
              have e02 := HN0.out.1 2 _ rfl
              have e03 := HN0.out.1 3 _ rfl
              have e04 := HN0.out.1 4 _ rfl
              have f04 := HN0.out.2 4
              refine wpAnyH_ready (rs := [11]) (by kernel_rfl) (by simp) ?_
              refine AllReadyH.cons rfl (fun K hK => ?_) (AllReadyH.nil)
              try go_simp
              clear f04
              clear e00 e01 e02 e03 e04
              (first | refine hK.out _ _ ?_ (fun hHeld1 => ?_) | (go_wp2_with fail; refine hK.out _ _ ?_ (fun hHeld1 => ?_)))
              · ((try dsimp only); exact HTW3.out.set 4 _)
              clear hK K hHeld
              have hHeld := hHeld1
              clear hHeld1
              try simp only [Act.put, List.setIfInBounds_toArray, List.set_cons_zero, List.set_cons_succ]
              refine wpAnyH_done (by kernel_rfl) ?_ _
              refine NoPanic.normal ?_
              clear hHeld
              go_wp2
              go_end0
              have hoff := HTY.out.off HO3.out (by decide)
              unfold SetTo
              rw [HPN.out.2, HPN.out.1]
              exact ⟨D', d', rfl, HN0.out.set (k := 4) (by simp) _, HTY.out.set _ _, ownsRow_setCell_other HO3.out hoff _, HTW3.out.set 4 _⟩
            · have HN1 := HN1
              try go_simp
              (first | refine hK.out _ _ ?_ (fun hHeld1 => ?_) | (go_wp2_with fail; refine hK.out _ _ ?_ (fun hHeld1 => ?_)))
              · ((try dsimp only); exact HTW1.out.grown (grownBy_of_below (below1 ud (.cells #[.int .i64 x.m, .int .i64 x.t, .int .i64 x.s] 43)) none) (.inr (.inr (.inl rfl))))
              clear hK K hHeld
              have hHeld := hHeld1
              clear hHeld1
              try simp only [Act.put, List.setIfInBounds_toArray, List.set_cons_zero, List.set_cons_succ]
              have HTW2 := Lib.hid hHeld
              have hb := below1 ud (.cells #[.int .i64 x.m, .int .i64 x.t, .int .i64 x.s] 43)
              have HV := Lib.hid (show (ud.alloc (.cells #[.int .i64 x.m, .int .i64 x.t, .int .i64 x.s] 43)).heap[ud.heap.size]? = some (.cells (ShareK.enc x).toArray 43 (0, 0)) from heap_alloc_new ud _)
              have HN0 := Lib.hid (HN0.out.below hb hbu)
              have HTY := Lib.hid (HTY.out.below hb hbu)
              have HNE := Lib.hid (fun g9 (hg : (Value.slice (some ⟨g, 0, none⟩) sh.length d).ownBlock = some g9) => (HOWN.out.lt g9 hg).2)
              have HOWN := Lib.hid (own_keep HOWN.out hb)
              have hbv : b < (ud.alloc (.cells #[.int .i64 x.m, .int .i64 x.t, .int .i64 x.s] 43)).heap.size := HTY.out.lt
              have hszv : q ≤ (ud.alloc (.cells #[.int .i64 x.m, .int .i64 x.t, .int .i64 x.s] 43)).heap.size := by rw [← HQ.out]; exact HTW2.out.size
              generalize ud.alloc (.cells #[.int .i64 x.m, .int .i64 x.t, .int .i64 x.s] 43) = v at *
              generalize ud.heap.size = vb at *
              clear hb
              refine wpAnyH_ready (rs := [4]) (by kernel_rfl) (by simp) ?_
              refine AllReadyH.cons rfl (fun K hK => ?_) (AllReadyH.nil)
              have e00 := HN0.out.1 0 _ rfl
              have e01 := HN0.out.1 1 _ rfl
              have e02 := HN0.out.1 2 _ rfl
              have e03 := HN0.out.1 3 _ rfl
              have e04 := HN0.out.1 4 _ rfl
              go_simp
              clear e00 e01 e02 e03 e04
              (first | refine hK.out _ _ ?_ (fun hHeld1 => ?_) | (go_wp2_with fail; refine hK.out _ _ ?_ (fun hHeld1 => ?_)))
              · ((try dsimp only); exact HTW2.out)
              clear hK K hHeld
              have hHeld := hHeld1
              clear hHeld1
              try simp only [Act.put, List.setIfInBounds_toArray, List.set_cons_zero, List.set_cons_succ]
              refine wpAnyH_ready (rs := [8]) (by kernel_rfl) (by simp) ?_
              refine AllReadyH.cons rfl (fun K hK => ?_) (AllReadyH.nil)
              go_simp
              (go_at_call 86; refine (insShare_any base (some ⟨g, 0, none⟩) sh.length d k vb sh x _ rfl HOWN.out hk HV.out (fun e => by have := HNE.out _ e; omega) (by omega) (Nat.le_trans hb0 hszv)).mono ?_; rintro e w3 ⟨D', d', rfl, own3, hg3⟩; have HO3 := Lib.hid own3; have HG3 := Lib.hid hg3; clear own3 hg3)
              (first | refine hK.out _ _ ?_ (fun hHeld1 => ?_) | (go_wp2_with fail; refine hK.out _ _ ?_ (fun hHeld1 => ?_)))
              · ((try dsimp only); exact HTW2.out.grown HG3.out (.inl rfl))
              clear hK K hHeld
              have hHeld := hHeld1
              clear hHeld1
              try simp only [Act.put, List.setIfInBounds_toArray, List.set_cons_zero, List.set_cons_succ]
              have HTW3 := Lib.hid hHeld
              have hoff := HTY.out.off HOWN.out (by decide)
              have HH := Lib.hid (HG3.out.block b hbv (fun e => hoff e.symm))
              have HN0 := Lib.hid (HN0.out.blk2 HH.out)
              have HTY := Lib.hid (show Ty w3 b 29 by obtain ⟨cs, fr, hc⟩ := HTY.out; exact ⟨cs, fr, HH.out.trans hc⟩)
              clear hoff
              refine take_yes (i := 9) (d := 63) (v := ?_) rfl rfl (by kernel_rfl) (by kernel_rfl) (by kernel_rfl) (fun _ _ _ h => h) (by kernel_rfl) ?_ hHeld ?_
              rotate_left
              · (intro w hSw; (try dsimp only at hSw); go_simp; try (with_reducible rfl))
              try simp only [Act.put, List.setIfInBounds_toArray, List.set_cons_zero, List.set_cons_succ]
              refine take_yes (i := 10) (d := 64) (v := ?_) rfl rfl (by kernel_rfl) (by kernel_rfl) (by kernel_rfl) (fun _ _ _ h => h) (by kernel_rfl) ?_ hHeld ?_
              rotate_left
              · (intro w hSw; (try dsimp only at hSw); go_simp; try (with_reducible rfl))
              try simp only [Act.put, List.setIfInBounds_toArray, List.set_cons_zero, List.set_cons_succ]
              have e00 := HN0.out.1 0 _ rfl
              have e01 := HN0.out.1 1 _ rfl
              have e02 := HN0.out.1 2 _ rfl
              have e03 := HN0.out.1 3 _ rfl
              have e04 := HN0.out.1 4 _ rfl
              have f04 := HN0.out.2 4
              refine wpAnyH_ready (rs := [11]) (by kernel_rfl) (by simp) ?_
              refine AllReadyH.cons rfl (fun K hK => ?_) (AllReadyH.nil)
              try go_simp
              clear f04
              clear e00 e01 e02 e03 e04
              (first | refine hK.out _ _ ?_ (fun hHeld1 => ?_) | (go_wp2_with fail; refine hK.out _ _ ?_ (fun hHeld1 => ?_)))
              · ((try dsimp only); exact HTW3.out.set 4 _)
              clear hK K hHeld
              have hHeld := hHeld1
              clear hHeld1
              try simp only [Act.put, List.setIfInBounds_toArray, List.set_cons_zero, List.set_cons_succ]
              refine wpAnyH_done (by kernel_rfl) ?_ _
              refine NoPanic.normal ?_
              clear hHeld
              go_wp2
              go_end0
              have hoff := HTY.out.off HO3.out (by decide)
              unfold SetTo
              rw [HPN.out.2, HPN.out.1]
              exact ⟨D', d', rfl, HN0.out.set (k := 4) (by simp) _, HTY.out.set _ _, ownsRow_setCell_other HO3.out hoff _, HTW3.out.set 4 _⟩
    · obtain rfl : k = sh.length := by omega
      have HA := Lib.hid (hq.out.trans cntS_end)
      have HPN := Lib.hid (putS_new (x := x) (l := sh) HA.out (Nat.le_refl _) (fun h => absurd h (by omega)))
      clear hq hlt
      go_wp2
      go_quiet (fail)
      go_wp2
      go_quiet (fail)
      go_wp2
      clear e04 e10
      rename_i n1
      have HAL := Lib.hid ((HAL.out.drewN n1).drewN nq)
      generalize (wr.drewN n1).drewN nq = ws at *
      replace HN0 := Lib.hid (HAL.out.box GN0.out)
      replace HN1 := Lib.hid (HAL.out.box GN1.out)
      replace HTY := Lib.hid (HAL.out.ty GTY.out)
      replace HOWN := Lib.hid (HAL.out.own GOWN.out)
      replace HTW := Lib.hid (HAL.out.two GTW.out)
      refine wp_region_noPanic ?_
      refine wp_region_held_drew (S := (fun w' => Two w w' b (Value.slice D sh.length d).ownBlock)) (by kernel_rfl) ?_ (fun hHeld => ?_)
      · ((try dsimp only); exact HTW.out.drew)
      have HTW1 := Lib.hid HTW.out.drew
      have HN0 := Lib.hid HN0.out.drew
      have HN1 := Lib.hid HN1.out.drew
      have HOWN := Lib.hid HOWN.out.drew
      have HTY := Lib.hid (show Ty ws.drew b 29 from HTY.out)
      have hbu : b < ws.drew.heap.size := HTY.out.lt
      generalize ws.drew = ud at *
      refine take_yes (i := 0) (d := 54) (v := ?_) rfl rfl (by kernel_rfl) (by kernel_rfl) (by kernel_rfl) (fun _ _ _ h => h) (by kernel_rfl) ?_ hHeld ?_
      rotate_left
      · (intro w hSw; (try dsimp only at hSw); go_simp; try (with_reducible rfl))
      try simp only [Act.put, List.setIfInBounds_toArray, List.set_cons_zero, List.set_cons_succ]
      refine take_yes (i := 1) (d := 55) (v := ?_) rfl rfl (by kernel_rfl) (by kernel_rfl) (by kernel_rfl) (fun _ _ _ h => h) (by kernel_rfl) ?_ hHeld ?_
      rotate_left
      · (intro w hSw; (try dsimp only at hSw); go_simp; try (with_reducible rfl))
      try simp only [Act.put, List.setIfInBounds_toArray, List.set_cons_zero, List.set_cons_succ]
      refine take_yes (i := 2) (d := 56) (v := ?_) rfl rfl (by kernel_rfl) (by kernel_rfl) (by kernel_rfl) (fun _ _ _ h => h) (by kernel_rfl) ?_ hHeld ?_
      rotate_left
      · (intro w hSw; (try dsimp only at hSw); go_simp; try (with_reducible rfl))
      try simp only [Act.put, List.setIfInBounds_toArray, List.set_cons_zero, List.set_cons_succ]
      refine take_yes (i := 3) (d := 57) (v := ?_) rfl rfl (by kernel_rfl) (by kernel_rfl) (by kernel_rfl) (fun _ _ _ h => h) (by kernel_rfl) ?_ hHeld ?_
      rotate_left
      · (intro w hSw; (try dsimp only at hSw); go_simp; try (with_reducible rfl))
      try simp only [Act.put, List.setIfInBounds_toArray, List.set_cons_zero, List.set_cons_succ]
      refine take_yes (i := 5) (d := 59) (v := ?_) rfl rfl (by kernel_rfl) (by kernel_rfl) (by kernel_rfl) (fun _ _ _ h => h) (by kernel_rfl) ?_ hHeld ?_
      rotate_left
      · (intro w hSw; (try dsimp only at hSw); go_simp; try (with_reducible rfl))
      try simp only [Act.put, List.setIfInBounds_toArray, List.set_cons_zero, List.set_cons_succ]
      refine wpAnyH_ready (rs := [4, 6]) (by kernel_rfl) (by simp) ?_
      refine AllReadyH.cons rfl (fun K hK => ?_) (AllReadyH.cons rfl (fun K hK => ?_) (AllReadyH.nil))
      · have e00 := HN0.out.1 0 _ rfl
        have e01 := HN0.out.1 1 _ rfl
        have e02 := HN0.out.1 2 _ rfl
        have e03 := HN0.out.1 3 _ rfl
        have e04 := HN0.out.1 4 _ rfl
        go_simp
        clear e00 e01 e02 e03 e04
        (first | refine hK.out _ _ ?_ (fun hHeld1 => ?_) | (go_wp2_with fail; refine hK.out _ _ ?_ (fun hHeld1 => ?_)))
        · ((try dsimp only); exact HTW1.out)
        clear hK K hHeld
        have hHeld := hHeld1
        clear hHeld1
        try simp only [Act.put, List.setIfInBounds_toArray, List.set_cons_zero, List.set_cons_succ]
        refine wpAnyH_ready (rs := [6]) (by kernel_rfl) (by simp) ?_
        refine AllReadyH.cons rfl (fun K hK => ?_) (AllReadyH.nil)
        have e10 := HN1.out.1 0 _ rfl
        have e11 := HN1.out.1 1 _ rfl
        have e12 := HN1.out.1 2 _ rfl
        go_simp
        clear e10 e11 e12
        (first | refine hK.out _ _ ?_ (fun hHeld1 => ?_) | (go_wp2_with fail; refine hK.out _ _ ?_ (fun hHeld1 => ?_)))
        · ((try dsimp only); exact HTW1.out)
        clear hK K hHeld
        have hHeld := hHeld1
        clear hHeld1
        try simp only [Act.put, List.setIfInBounds_toArray, List.set_cons_zero, List.set_cons_succ]
        refine wpAnyH_ready (rs := [7]) (by kernel_rfl) (by simp) ?_
        refine AllReadyH.cons rfl (fun K hK => ?_) (AllReadyH.nil)
        try go_simp
        (first | refine hK.out _ _ ?_ (fun hHeld1 => ?_) | (go_wp2_with fail; refine hK.out _ _ ?_ (fun hHeld1 => ?_)))
        · ((try dsimp only); exact HTW1.out.grown (grownBy_of_below (below1 ud (.cells #[.int .i64 x.m, .int .i64 x.t, .int .i64 x.s] 43)) none) (.inr (.inr (.inl rfl))))
        clear hK K hHeld
        have hHeld := hHeld1
        clear hHeld1
        try simp only [Act.put, List.setIfInBounds_toArray, List.set_cons_zero, List.set_cons_succ]
        have HTW2 := Lib.hid hHeld
        have hb := below1 ud (.cells #[.int .i64 x.m, .int .i64 x.t, .int .i64 x.s] 43)
        have HV := Lib.hid (show (ud.alloc (.cells #[.int .i64 x.m, .int .i64 x.t, .int .i64 x.s] 43)).heap[ud.heap.size]? = some (.cells (ShareK.enc x).toArray 43 (0, 0)) from heap_alloc_new ud _)
        have HN0 := Lib.hid (HN0.out.below hb hbu)
        have HTY := Lib.hid (HTY.out.below hb hbu)
        have HNE := Lib.hid (fun g9 (hg : (Value.slice D sh.length d).ownBlock = some g9) => (HOWN.out.lt g9 hg).2)
        have HOWN := Lib.hid (own_keep HOWN.out hb)
        have hbv : b < (ud.alloc (.cells #[.int .i64 x.m, .int .i64 x.t, .int .i64 x.s] 43)).heap.size := HTY.out.lt
        have hszv : q ≤ (ud.alloc (.cells #[.int .i64 x.m, .int .i64 x.t, .int .i64 x.s] 43)).heap.size := by rw [← HQ.out]; exact HTW2.out.size
        generalize ud.alloc (.cells #[.int .i64 x.m, .int .i64 x.t, .int .i64 x.s] 43) = v at *
        generalize ud.heap.size = vb at *
        clear hb
        refine wpAnyH_ready (rs := [8]) (by kernel_rfl) (by simp) ?_
        refine AllReadyH.cons rfl (fun K hK => ?_) (AllReadyH.nil)
        go_simp
        (go_at_call 86; refine (insShare_any base D sh.length d sh.length vb sh x _ rfl HOWN.out hk HV.out (fun e => by have := HNE.out _ e; omega) (by omega) (Nat.le_trans hb0 hszv)).mono ?_; rintro e w3 ⟨D', d', rfl, own3, hg3⟩; have HO3 := Lib.hid own3; have HG3 := Lib.hid hg3; clear own3 hg3)
        (first | refine hK.out _ _ ?_ (fun hHeld1 => ?_) | (go_wp2_with fail; refine hK.out _ _ ?_ (fun hHeld1 => ?_)))
        · ((try dsimp only); exact HTW2.out.grown HG3.out (.inl rfl))
        clear hK K hHeld
        have hHeld := hHeld1
        clear hHeld1
        try simp only [Act.put, List.setIfInBounds_toArray, List.set_cons_zero, List.set_cons_succ]
        have HTW3 := Lib.hid hHeld
        have hoff := HTY.out.off HOWN.out (by decide)
        have HH := Lib.hid (HG3.out.block b hbv (fun e => hoff e.symm))
        have HN0 := Lib.hid (HN0.out.blk2 HH.out)
        have HTY := Lib.hid (show Ty w3 b 29 by obtain ⟨cs, fr, hc⟩ := HTY.out; exact ⟨cs, fr, HH.out.trans hc⟩)
        clear hoff
        refine take_yes (i := 9) (d := 63) (v := ?_) rfl rfl (by kernel_rfl) (by kernel_rfl) (by kernel_rfl) (fun _ _ _ h => h) (by kernel_rfl) ?_ hHeld ?_
        rotate_left
        · (intro w hSw; (try dsimp only at hSw); go_simp; try (with_reducible rfl))
        try simp only [Act.put, List.setIfInBounds_toArray, List.set_cons_zero, List.set_cons_succ]
        refine take_yes (i := 10) (d := 64) (v := ?_) rfl rfl (by kernel_rfl) (by kernel_rfl) (by kernel_rfl) (fun _ _ _ h => h) (by kernel_rfl) ?_ hHeld ?_
        rotate_left
        · (intro w hSw; (try dsimp only at hSw); go_simp; try (with_reducible rfl))
        try simp only [Act.put, List.setIfInBounds_toArray, List.set_cons_zero, List.set_cons_succ]
        have e00 := HN0.out.1 0 _ rfl
        have e01 := HN0.out.1 1 _ rfl
        have e02 := HN0.out.1 2 _ rfl
        have e03 := HN0.out.1 3 _ rfl
        have e04 := HN0.out.1 4 _ rfl
        have f04 := HN0.out.2 4
        refine wpAnyH_ready (rs := [11]) (by kernel_rfl) (by simp) ?_
        refine AllReadyH.cons rfl (fun K hK => ?_) (AllReadyH.nil)
        try go_simp
        clear f04
        clear e00 e01 e02 e03 e04
        (first | refine hK.out _ _ ?_ (fun hHeld1 => ?_) | (go_wp2_with fail; refine hK.out _ _ ?_ (fun hHeld1 => ?_)))
        · ((try dsimp only); exact HTW3.out.set 4 _)
        clear hK K hHeld
        have hHeld := hHeld1
        clear hHeld1
        try simp only [Act.put, List.setIfInBounds_toArray, List.set_cons_zero, List.set_cons_succ]
        refine wpAnyH_done (by kernel_rfl) ?_ _
        refine NoPanic.normal ?_
        clear hHeld
        go_wp2
        go_end0
        have hoff := HTY.out.off HO3.out (by decide)
        unfold SetTo
        rw [HPN.out.2, HPN.out.1]
        exact ⟨D', d', rfl, HN0.out.set (k := 4) (by simp) _, HTY.out.set _ _, ownsRow_setCell_other HO3.out hoff _, HTW3.out.set 4 _⟩
      · have e10 := HN1.out.1 0 _ rfl
        have e11 := HN1.out.1 1 _ rfl
        have e12 := HN1.out.1 2 _ rfl
        go_simp
        clear e10 e11 e12
        (first | refine hK.out _ _ ?_ (fun hHeld1 => ?_) | (go_wp2_with fail; refine hK.out _ _ ?_ (fun hHeld1 => ?_)))
        · ((try dsimp only); exact HTW1.out)
        clear hK K hHeld
        have hHeld := hHeld1
        clear hHeld1
        try simp only [Act.put, List.setIfInBounds_toArray, List.set_cons_zero, List.set_cons_succ]
        refine wpAnyH_ready (rs := [4, 7]) (by kernel_rfl) (by simp) ?_
        refine AllReadyH.cons rfl (fun K hK => ?_) (AllReadyH.cons rfl (fun K hK => ?_) (AllReadyH.nil))
        · have e00 := HN0.out.1 0 _ rfl
          have e01 := HN0.out.1 1 _ rfl
          have e02 := HN0.out.1 2 _ rfl
          have e03 := HN0.out.1 3 _ rfl
          have e04 := HN0.out.1 4 _ rfl
          go_simp
          clear e00 e01 e02 e03 e04
          (first | refine hK.out _ _ ?_ (fun hHeld1 => ?_) | (go_wp2_with fail; refine hK.out _ _ ?_ (fun hHeld1 => ?_)))
          · ((try dsimp only); exact HTW1.out)
          clear hK K hHeld
          have hHeld := hHeld1
          clear hHeld1
          try simp only [Act.put, List.setIfInBounds_toArray, List.set_cons_zero, List.set_cons_succ]
          refine wpAnyH_ready (rs := [7]) (by kernel_rfl) (by simp) ?_
          refine AllReadyH.cons rfl (fun K hK => ?_) (AllReadyH.nil)
          try go_simp
          (first | refine hK.out _ _ ?_ (fun hHeld1 => ?_) | (go_wp2_with fail; refine hK.out _ _ ?_ (fun hHeld1 => ?_)))
          · ((try dsimp only); exact HTW1.out.grown (grownBy_of_below (below1 ud (.cells #[.int .i64 x.m, .int .i64 x.t, .int .i64 x.s] 43)) none) (.inr (.inr (.inl rfl))))
          clear hK K hHeld
          have hHeld := hHeld1
          clear hHeld1
          try simp only [Act.put, List.setIfInBounds_toArray, List.set_cons_zero, List.set_cons_succ]
          have HTW2 := Lib.hid hHeld
          have hb := below1 ud (.cells #[.int .i64 x.m, .int .i64 x.t, .int .i64 x.s] 43)
          have HV := Lib.hid (show (ud.alloc (.cells #[.int .i64 x.m, .int .i64 x.t, .int .i64 x.s] 43)).heap[ud.heap.size]? = some (.cells (ShareK.enc x).toArray 43 (0, 0)) from heap_alloc_new ud _)
          have HN0 := Lib.hid (HN0.out.below hb hbu)
          have HTY := Lib.hid (HTY.out.below hb hbu)
          have HNE := Lib.hid (fun g9 (hg : (Value.slice D sh.length d).ownBlock = some g9) => (HOWN.out.lt g9 hg).2)
          have HOWN := Lib.hid (own_keep HOWN.out hb)
          have hbv : b < (ud.alloc (.cells #[.int .i64 x.m, .int .i64 x.t, .int .i64 x.s] 43)).heap.size := HTY.out.lt
          have hszv : q ≤ (ud.alloc (.cells #[.int .i64 x.m, .int .i64 x.t, .int .i64 x.s] 43)).heap.size := by rw [← HQ.out]; exact HTW2.out.size
          generalize ud.alloc (.cells #[.int .i64 x.m, .int .i64 x.t, .int .i64 x.s] 43) = v at *
          generalize ud.heap.size = vb at *
          clear hb
          refine wpAnyH_ready (rs := [8]) (by kernel_rfl) (by simp) ?_
          refine AllReadyH.cons rfl (fun K hK => ?_) (AllReadyH.nil)
          go_simp
          (go_at_call 86; refine (insShare_any base D sh.length d sh.length vb sh x _ rfl HOWN.out hk HV.out (fun e => by have := HNE.out _ e; omega) (by omega) (Nat.le_trans hb0 hszv)).mono ?_; rintro e w3 ⟨D', d', rfl, own3, hg3⟩; have HO3 := Lib.hid own3; have HG3 := Lib.hid hg3; clear own3 hg3)
          (first | refine hK.out _ _ ?_ (fun hHeld1 => ?_) | (go_wp2_with fail; refine hK.out _ _ ?_ (fun hHeld1 => ?_)))
          · ((try dsimp only); exact HTW2.out.grown HG3.out (.inl rfl))
          clear hK K hHeld
          have hHeld := hHeld1
          clear hHeld1
          try simp only [Act.put, List.setIfInBounds_toArray, List.set_cons_zero, List.set_cons_succ]
          have HTW3 := Lib.hid hHeld
          have hoff := HTY.out.off HOWN.out (by decide)
          have HH := Lib.hid (HG3.out.block b hbv (fun e => hoff e.symm))
          have HN0 := Lib.hid (HN0.out.blk2 HH.out)
          have HTY := Lib.hid (show Ty w3 b 29 by obtain ⟨cs, fr, hc⟩ := HTY.out; exact ⟨cs, fr, HH.out.trans hc⟩)
          clear hoff
          refine take_yes (i := 9) (d := 63) (v := ?_) rfl rfl (by kernel_rfl) (by kernel_rfl) (by kernel_rfl) (fun _ _ _ h => h) (by kernel_rfl) ?_ hHeld ?_
          rotate_left
          · (intro w hSw; (try dsimp only at hSw); go_simp; try (with_reducible rfl))
          try simp only [Act.put, List.setIfInBounds_toArray, List.set_cons_zero, List.set_cons_succ]
          refine take_yes (i := 10) (d := 64) (v := ?_) rfl rfl (by kernel_rfl) (by kernel_rfl) (by kernel_rfl) (fun _ _ _ h => h) (by kernel_rfl) ?_ hHeld ?_
          rotate_left
          · (intro w hSw; (try dsimp only at hSw); go_simp; try (with_reducible rfl))
          try simp only [Act.put, List.setIfInBounds_toArray, List.set_cons_zero, List.set_cons_succ]
          have e00 := HN0.out.1 0 _ rfl
          have e01 := HN0.out.1 1 _ rfl
          have e02 := HN0.out.1 2 _ rfl
          have e03 := HN0.out.1 3 _ rfl
          have e04 := HN0.out.1 4 _ rfl
          have f04 := HN0.out.2 4
          refine wpAnyH_ready (rs := [11]) (by kernel_rfl) (by simp) ?_
          refine AllReadyH.cons rfl (fun K hK => ?_) (AllReadyH.nil)
          try go_simp
          clear f04
          clear e00 e01 e02 e03 e04
          (first | refine hK.out _ _ ?_ (fun hHeld1 => ?_) | (go_wp2_with fail; refine hK.out _ _ ?_ (fun hHeld1 => ?_)))
          · ((try dsimp only); exact HTW3.out.set 4 _)
          clear hK K hHeld
          have hHeld := hHeld1
          clear hHeld1
          try simp only [Act.put, List.setIfInBounds_toArray, List.set_cons_zero, List.set_cons_succ]
          refine wpAnyH_done (by kernel_rfl) ?_ _
          refine NoPanic.normal ?_
          clear hHeld
          go_wp2
          go_end0
          have hoff := HTY.out.off HO3.out (by decide)
          unfold SetTo
          rw [HPN.out.2, HPN.out.1]
          exact ⟨D', d', rfl, HN0.out.set (k := 4) (by simp) _, HTY.out.set _ _, ownsRow_setCell_other HO3.out hoff _, HTW3.out.set 4 _⟩
        · have HN1 := HN1
          try go_simp
          (first | refine hK.out _ _ ?_ (fun hHeld1 => ?_) | (go_wp2_with fail; refine hK.out _ _ ?_ (fun hHeld1 => ?_)))
          · ((try dsimp only); exact HTW1.out.grown (grownBy_of_below (below1 ud (.cells #[.int .i64 x.m, .int .i64 x.t, .int .i64 x.s] 43)) none) (.inr (.inr (.inl rfl))))
          clear hK K hHeld
          have hHeld := hHeld1
          clear hHeld1
          try simp only [Act.put, List.setIfInBounds_toArray, List.set_cons_zero, List.set_cons_succ]
          have HTW2 := Lib.hid hHeld
          have hb := below1 ud (.cells #[.int .i64 x.m, .int .i64 x.t, .int .i64 x.s] 43)
          have HV := Lib.hid (show (ud.alloc (.cells #[.int .i64 x.m, .int .i64 x.t, .int .i64 x.s] 43)).heap[ud.heap.size]? = some (.cells (ShareK.enc x).toArray 43 (0, 0)) from heap_alloc_new ud _)
          have HN0 := Lib.hid (HN0.out.below hb hbu)
          have HTY := Lib.hid (HTY.out.below hb hbu)
          have HNE := Lib.hid (fun g9 (hg : (Value.slice D sh.length d).ownBlock = some g9) => (HOWN.out.lt g9 hg).2)
          have HOWN := Lib.hid (own_keep HOWN.out hb)
          have hbv : b < (ud.alloc (.cells #[.int .i64 x.m, .int .i64 x.t, .int .i64 x.s] 43)).heap.size := HTY.out.lt
          have hszv : q ≤ (ud.alloc (.cells #[.int .i64 x.m, .int .i64 x.t, .int .i64 x.s] 43)).heap.size := by rw [← HQ.out]; exact HTW2.out.size
          generalize ud.alloc (.cells #[.int .i64 x.m, .int .i64 x.t, .int .i64 x.s] 43) = v at *
          generalize ud.heap.size = vb at *
          clear hb
          refine wpAnyH_ready (rs := [4]) (by kernel_rfl) (by simp) ?_
          refine AllReadyH.cons rfl (fun K hK => ?_) (AllReadyH.nil)
          have e00 := HN0.out.1 0 _ rfl
          have e01 := HN0.out.1 1 _ rfl
          have e02 := HN0.out.1 2 _ rfl
          have e03 := HN0.out.1 3 _ rfl
          have e04 := HN0.out.1 4 _ rfl
          go_simp
          clear e00 e01 e02 e03 e04
          (first | refine hK.out _ _ ?_ (fun hHeld1 => ?_) | (go_wp2_with fail; refine hK.out _ _ ?_ (fun hHeld1 => ?_)))
          · ((try dsimp only); exact HTW2.out)
          clear hK K hHeld
          have hHeld := hHeld1
          clear hHeld1
          try simp only [Act.put, List.setIfInBounds_toArray, List.set_cons_zero, List.set_cons_succ]
          refine wpAnyH_ready (rs := [8]) (by kernel_rfl) (by simp) ?_
          refine AllReadyH.cons rfl (fun K hK => ?_) (AllReadyH.nil)
          go_simp
          (go_at_call 86; refine (insShare_any base D sh.length d sh.length vb sh x _ rfl HOWN.out hk HV.out (fun e => by have := HNE.out _ e; omega) (by omega) (Nat.le_trans hb0 hszv)).mono ?_; rintro e w3 ⟨D', d', rfl, own3, hg3⟩; have HO3 := Lib.hid own3; have HG3 := Lib.hid hg3; clear own3 hg3)
          (first | refine hK.out _ _ ?_ (fun hHeld1 => ?_) | (go_wp2_with fail; refine hK.out _ _ ?_ (fun hHeld1 => ?_)))
          · ((try dsimp only); exact HTW2.out.grown HG3.out (.inl rfl))
          clear hK K hHeld
          have hHeld := hHeld1
          clear hHeld1
          try simp only [Act.put, List.setIfInBounds_toArray, List.set_cons_zero, List.set_cons_succ]
          have HTW3 := Lib.hid hHeld
          have hoff := HTY.out.off HOWN.out (by decide)
          have HH := Lib.hid (HG3.out.block b hbv (fun e => hoff e.symm))
          have HN0 := Lib.hid (HN0.out.blk2 HH.out)
          have HTY := Lib.hid (show Ty w3 b 29 by obtain ⟨cs, fr, hc⟩ := HTY.out; exact ⟨cs, fr, HH.out.trans hc⟩)
          clear hoff
          refine take_yes (i := 9) (d := 63) (v := ?_) rfl rfl (by kernel_rfl) (by kernel_rfl) (by kernel_rfl) (fun _ _ _ h => h) (by kernel_rfl) ?_ hHeld ?_
          rotate_left
          · (intro w hSw; (try dsimp only at hSw); go_simp; try (with_reducible rfl))
          try simp only [Act.put, List.setIfInBounds_toArray, List.set_cons_zero, List.set_cons_succ]
          refine take_yes (i := 10) (d := 64) (v := ?_) rfl rfl (by kernel_rfl) (by kernel_rfl) (by kernel_rfl) (fun _ _ _ h => h) (by kernel_rfl) ?_ hHeld ?_
          rotate_left
          · (intro w hSw; (try dsimp only at hSw); go_simp; try (with_reducible rfl))
          try simp only [Act.put, List.setIfInBounds_toArray, List.set_cons_zero, List.set_cons_succ]
          have e00 := HN0.out.1 0 _ rfl
          have e01 := HN0.out.1 1 _ rfl
          have e02 := HN0.out.1 2 _ rfl
          have e03 := HN0.out.1 3 _ rfl
          have e04 := HN0.out.1 4 _ rfl
          have f04 := HN0.out.2 4
          refine wpAnyH_ready (rs := [11]) (by kernel_rfl) (by simp) ?_
          refine AllReadyH.cons rfl (fun K hK => ?_) (AllReadyH.nil)
          try go_simp
          clear f04
          clear e00 e01 e02 e03 e04
          (first | refine hK.out _ _ ?_ (fun hHeld1 => ?_) | (go_wp2_with fail; refine hK.out _ _ ?_ (fun hHeld1 => ?_)))
          · ((try dsimp only); exact HTW3.out.set 4 _)
          clear hK K hHeld
          have hHeld := hHeld1
          clear hHeld1
          try simp only [Act.put, List.setIfInBounds_toArray, List.set_cons_zero, List.set_cons_succ]
          refine wpAnyH_done (by kernel_rfl) ?_ _
          refine NoPanic.normal ?_
          clear hHeld
          go_wp2
          go_end0
          have hoff := HTY.out.off HO3.out (by decide)
          unfold SetTo
          rw [HPN.out.2, HPN.out.1]
          exact ⟨D', d', rfl, HN0.out.set (k := 4) (by simp) _, HTY.out.set _ _, ownsRow_setCell_other HO3.out hoff _, HTW3.out.set 4 _⟩
end Go.Proofs.Ytbpikbcnpmplfaa
