/- Lists of proposals, in the program and in the reference. Conditions: the ranges named. -/
import Derived.Test.YtgchbimjgdoifaaDk3
import Derived.Test.YtgchbimjgdoifaaConf
import Derived.Deep.DrawnRows
namespace Go.Proofs.Ytgchbimjgdoifaa
open Go.RowKit
set_option linter.unusedVariables false
set_option linter.unusedSimpArgs false
attribute [local go_sem ↓] Go.wp_at_zero Go.wp_at_succ
def okP (ss : List ByteArray) (ps : List Prp) (k : Nat) : Bool := if h : k < ps.length then (inB ps[k].i 1 99 && inB ps[k].t 1 100 && (vldA ps[k].a && fitsB ss ps[k].a) && (k == 0 || decide ((ps[k - 1]'(by omega)).i < ps[k].i))) else true
def propB (ss : List ByteArray) (ps : List Prp) : Bool := wordsB ss 0 20 && decide ((ps.length : Int) ≤ 8) && allN (okP ss ps) ps.length
theorem okP_eq {ss : List ByteArray} {ps : List Prp} {k : Nat} (h : k < ps.length) : okP ss ps k = (inB ps[k].i 1 99 && inB ps[k].t 1 100 && (vldA ps[k].a && fitsB ss ps[k].a) && (k == 0 || decide ((ps[k - 1]'(by omega)).i < ps[k].i))) := by
  unfold okP
  rw [dif_pos h]
theorem propB_no {ss : List ByteArray} {ps : List Prp} {k : Nat} (h : k < ps.length) (hk : okP ss ps k = false) : propB ss ps = false := by unfold propB; rw [allN_no h hk]; simp
theorem insideB_any (x a b : Int) (w : World) : Calls Try.prog 81 #[.int .i64 x, .int .i64 a, .int .i64 b] w fun e w' => e = .returned (.bool (inB x a b)) ∧ Below w.heap.size w w' := by
  refine (inside_any x a b w).mono ?_
  rintro e w' ⟨rfl, rfl⟩
  exact ⟨rfl, Below.refl _ _⟩
theorem l1InB_any (x a b : Int) (w : World) : Calls Try.prog 109 #[.int .i64 x, .int .i64 a, .int .i64 b] w fun e w' => e = .returned (.bool (inB x a b)) ∧ Below w.heap.size w w' := by
  refine (l1In_any x a b w).mono ?_
  rintro e w' ⟨rfl, rfl⟩
  exact ⟨rfl, Below.refl _ _⟩
theorem take_yes {P : Program} {md : Region.Mode} {ops : Array Oper} {Q : Exit → Act → World → Prop} {S : World → Prop} {i d : Nat} {oi : Oper} {v : Value} {fuel : Nat} {listed : Array Bool} {a : Act} {w : World} (hi : ops[i]? = some oi) (hd : oi.dst = some d)
    (hs : Region.noSelect ops = true) (hf : Region.free md ops listed i = true) (hr : (Region.ready md ops listed).contains i = true) (hQ : ∀ c a w, Q (.panic c) (a.put (some d) v) w → Q (.panic c) a w) (hw : Region.wanted oi (yielded ops a.tmps) = true)
    (hy : ∀ w, S w → (execOp a.eval oi).run P w = .ok (.value v) w) (hS : S w) (h : wpAnyH P md ops Q S fuel (listed.setIfInBounds i true) (a.put (some d) v) w) : wpAnyH P md ops Q S (fuel + 1) listed a w :=
  wpAnyH_take hi hs hf hr (by rw [hd]; exact hQ) (Or.inl ⟨hw, hy⟩) hS (by rw [hd]; exact h)
theorem take_no {P : Program} {md : Region.Mode} {ops : Array Oper} {Q : Exit → Act → World → Prop} {S : World → Prop} {i d : Nat} {oi : Oper} {fuel : Nat} {listed : Array Bool} {a : Act} {w : World} (hi : ops[i]? = some oi) (hd : oi.dst = some d)
    (hs : Region.noSelect ops = true) (hf : Region.free md ops listed i = true) (hr : (Region.ready md ops listed).contains i = true) (hQ : ∀ c a w, Q (.panic c) (a.put (some d) undef) w → Q (.panic c) a w) (hw : Region.wanted oi (yielded ops a.tmps) = false)
    (hS : S w) (h : wpAnyH P md ops Q S fuel (listed.setIfInBounds i true) (a.put (some d) undef) w) : wpAnyH P md ops Q S (fuel + 1) listed a w :=
  wpAnyH_take hi hs hf hr (by rw [hd]; exact hQ) (Or.inr ⟨hw, rfl⟩) hS (by rw [hd]; exact h)
set_option maxHeartbeats 4000000 in
set_option maxRecDepth 100000 in
theorem AreProposals_any (T A : Option Addr) (t c : Nat) (ss : List ByteArray) (ps : List Prp) (w : World) (hT : Cells w T (strs ss)) (htc : ss.length ≤ t) (hfs : Fit ss) (hd : DL w A c ps) (hf : FitP ps) :
    Calls Try.prog 48 #[.slice T ss.length t, .slice A ps.length c] w fun e w' => e = .returned (.bool (propB ss ps)) ∧ Below w.heap.size w w' := by
  have HT := Lib.hid hT
  have HD := Lib.hid hd
  have HV := Lib.hid (fun W h => IsText_any T t ss W h hfs.1 hfs.2)
  have HFP := Lib.hid hf.2.1
  have hn := hf.1
  clear hT hd hf
  rcases Bool.eq_false_or_eq_true (wordsB ss 0 20) with hr | hr
  · by_cases h6 : (ps.length : Int) ≤ 8
    · have HR := Lib.hid (show propB ss ps = allN (okP ss ps) ps.length by unfold propB; rw [hr, decide_eq_true h6]; simp)
      go_enter Try.func48, Try.ntmps48
      go_wp2_with (go_at_call 27; refine (HV.out _ HT.out).mono ?_; rintro e w1 ⟨rfl, rfl⟩; rw [hr])
      go_loopw [17] (fun i wr => ∃ k : Nat, k ≤ ps.length ∧ i = .int .i64 k ∧ Hid (allN (okP ss ps) k = true) ∧ Below w.heap.size w wr) (fun i _ => ps.length - (intOf i).toNat)
      case atStart => exact ⟨0, Nat.zero_le _, rfl, rfl, by first | exact Below.refl _ _ | exact (Below.refl _ _).drew⟩
      case round =>
        obtain ⟨k, hk, rfl, hq, hB⟩ := hrel
        have HB := Lib.hid hB
        clear hB
        by_cases hlt : k < ps.length
        · obtain ⟨a, B, d, rfl, ⟨hc0, hc1, hc2, hc3, hc4, hc5⟩, hle, hcw⟩ := (HD.out.below HB.out).at_ hlt
          have i1 : (k : Int) < (ps.length : Int) := by omega
          have hfq := HFP.out _ (List.getElem_mem hlt)
          have HK := Lib.hid (okP_eq hlt (ss := ss))
          obtain ⟨q, hqq⟩ : ∃ q, Hid (ps[k] = q) := ⟨_, Lib.hid rfl⟩
          rw [hqq.out] at hc0 hc1 hc2 hc3 hc4 hc5 hle hcw hfq HK
          go_wp2_with fail
          have hW := below1 wr (.cells #[.int .i64 q.i, .int .i64 q.a.k, .int .i64 q.a.p, .int .i64 q.a.n, .slice B q.a.ws.length d, .int .i64 q.t] 65)
          have HCT := Lib.hid ((HT.out.below HB.out).below hW)
          have HCV := Lib.hid (hcw.below hW)
          have HWb := Lib.hid hW
          have nb := BoxF.new wr #[.int .i64 q.i, .int .i64 q.a.k, .int .i64 q.a.p, .int .i64 q.a.n, .slice B q.a.ws.length d, .int .i64 q.t] 65
          generalize wr.alloc (.cells #[.int .i64 q.i, .int .i64 q.a.k, .int .i64 q.a.p, .int .i64 q.a.n, .slice B q.a.ws.length d, .int .i64 q.t] 65) = W at *
          have x0 := nb.1 0 _ rfl
          have x1 := nb.1 1 _ rfl
          have x2 := nb.1 2 _ rfl
          have x3 := nb.1 3 _ rfl
          have x4 := nb.1 4 _ rfl
          have x5 := nb.1 5 _ rfl
          clear nb hW hc0 hc1 hc2 hc3 hc4 hc5 hcw
          rcases Bool.eq_false_or_eq_true (inB q.i 1 99) with h1 | h1
          · rcases Bool.eq_false_or_eq_true (inB q.t 1 100) with h2 | h2
            · have h3d : canB ss q.a = (vldA q.a && fitsB ss q.a) := by unfold canB; rw [hr]; rfl
              rcases Bool.eq_false_or_eq_true (canB ss q.a) with h3 | h3
              · have h3c := h3d.symm.trans h3
                clear h3d
                have HK2 : okP ss ps k = (k == 0 || decide ((ps[k - 1]'(by omega)).i < q.i)) := by rw [HK.out, h1, h2, h3c]; simp
                by_cases hk0 : k = 0
                · have HS := Lib.hid (allN_step hq.out (show okP ss ps k = true by rw [HK2]; simp [hk0]))
                  have q9 : decide ((0 : Int) < (k : Int)) = false := decide_eq_false (by omega)
                  have q5 : decide (0 < k) = false := decide_eq_false (by omega)
                  clear hq HK HK2 hk0
                  refine wp_region_noPanic ?_
                  refine wp_region_held_drew (S := (fun w' => Below W.heap.size W w' ∧ w'.cell? ⟨wr.heap.size, 0, none⟩ = some (.int .i64 q.i) ∧ w'.cell? ⟨wr.heap.size, 1, none⟩ = some (.int .i64 q.a.k) ∧ w'.cell? ⟨wr.heap.size, 2, none⟩ = some (.int .i64 q.a.p) ∧ w'.cell? ⟨wr.heap.size, 3, none⟩ = some (.int .i64 q.a.n) ∧ w'.cell? ⟨wr.heap.size, 4, none⟩ = some (.slice B q.a.ws.length d) ∧ w'.cell? ⟨wr.heap.size, 5, none⟩ = some (.int .i64 q.t))) (by kernel_rfl) ?_ (fun hHeld => ?_)
                  · ((try dsimp only); (first | exact ⟨HB4.out, (HB4.out.cell (World.block_lt_of_cell? _ _ x0)).trans x0, (HB4.out.cell (World.block_lt_of_cell? _ _ x1)).trans x1, (HB4.out.cell (World.block_lt_of_cell? _ _ x2)).trans x2, (HB4.out.cell (World.block_lt_of_cell? _ _ x3)).trans x3, (HB4.out.cell (World.block_lt_of_cell? _ _ x4)).trans x4, (HB4.out.cell (World.block_lt_of_cell? _ _ x5)).trans x5⟩ | exact ⟨HB3.out, (HB3.out.cell (World.block_lt_of_cell? _ _ x0)).trans x0, (HB3.out.cell (World.block_lt_of_cell? _ _ x1)).trans x1, (HB3.out.cell (World.block_lt_of_cell? _ _ x2)).trans x2, (HB3.out.cell (World.block_lt_of_cell? _ _ x3)).trans x3, (HB3.out.cell (World.block_lt_of_cell? _ _ x4)).trans x4, (HB3.out.cell (World.block_lt_of_cell? _ _ x5)).trans x5⟩ | exact ⟨HB2.out, (HB2.out.cell (World.block_lt_of_cell? _ _ x0)).trans x0, (HB2.out.cell (World.block_lt_of_cell? _ _ x1)).trans x1, (HB2.out.cell (World.block_lt_of_cell? _ _ x2)).trans x2, (HB2.out.cell (World.block_lt_of_cell? _ _ x3)).trans x3, (HB2.out.cell (World.block_lt_of_cell? _ _ x4)).trans x4, (HB2.out.cell (World.block_lt_of_cell? _ _ x5)).trans x5⟩ | exact ⟨HB1.out, (HB1.out.cell (World.block_lt_of_cell? _ _ x0)).trans x0, (HB1.out.cell (World.block_lt_of_cell? _ _ x1)).trans x1, (HB1.out.cell (World.block_lt_of_cell? _ _ x2)).trans x2, (HB1.out.cell (World.block_lt_of_cell? _ _ x3)).trans x3, (HB1.out.cell (World.block_lt_of_cell? _ _ x4)).trans x4, (HB1.out.cell (World.block_lt_of_cell? _ _ x5)).trans x5⟩ | exact ⟨(Below.refl _ _).drew, x0, x1, x2, x3, x4, x5⟩))
                  refine take_yes (i := 0) (d := 22) (v := ?_) rfl rfl (by kernel_rfl) (by kernel_rfl) (by kernel_rfl) (fun _ _ _ h => h) (by kernel_rfl) ?_ hHeld ?_
                  rotate_left
                  · (intro w hSw; (try dsimp only at hSw); go_simp; try (with_reducible rfl))
                  try simp only [Act.put, List.setIfInBounds_toArray, List.set_cons_zero, List.set_cons_succ]
                  refine take_yes (i := 1) (d := 23) (v := ?_) rfl rfl (by kernel_rfl) (by kernel_rfl) (by kernel_rfl) (fun _ _ _ h => h) (by kernel_rfl) ?_ hHeld ?_
                  rotate_left
                  · (intro w hSw; (try dsimp only at hSw); go_simp; try (with_reducible rfl))
                  try simp only [Act.put, List.setIfInBounds_toArray, List.set_cons_zero, List.set_cons_succ]
                  refine wpAnyH_ready (rs := [2]) (by kernel_rfl) (by simp) ?_
                  refine AllReadyH.cons rfl (fun K hK => ?_) AllReadyH.nil
                  go_simp
                  (go_at_call 81; refine (insideB_any q.i 1 99 _).mono ?_; rintro e w2 ⟨rfl, hb⟩; rw [h1]; have HB1 := Lib.hid ((below_drewN (Below.refl W.heap.size W) 1).trans hb); clear hb)
                  (first | refine hK.out _ _ ?_ (fun hHeld1 => ?_) | (go_wp2_with fail; refine hK.out _ _ ?_ (fun hHeld1 => ?_)))
                  · ((try dsimp only); (first | exact ⟨HB4.out, (HB4.out.cell (World.block_lt_of_cell? _ _ x0)).trans x0, (HB4.out.cell (World.block_lt_of_cell? _ _ x1)).trans x1, (HB4.out.cell (World.block_lt_of_cell? _ _ x2)).trans x2, (HB4.out.cell (World.block_lt_of_cell? _ _ x3)).trans x3, (HB4.out.cell (World.block_lt_of_cell? _ _ x4)).trans x4, (HB4.out.cell (World.block_lt_of_cell? _ _ x5)).trans x5⟩ | exact ⟨HB3.out, (HB3.out.cell (World.block_lt_of_cell? _ _ x0)).trans x0, (HB3.out.cell (World.block_lt_of_cell? _ _ x1)).trans x1, (HB3.out.cell (World.block_lt_of_cell? _ _ x2)).trans x2, (HB3.out.cell (World.block_lt_of_cell? _ _ x3)).trans x3, (HB3.out.cell (World.block_lt_of_cell? _ _ x4)).trans x4, (HB3.out.cell (World.block_lt_of_cell? _ _ x5)).trans x5⟩ | exact ⟨HB2.out, (HB2.out.cell (World.block_lt_of_cell? _ _ x0)).trans x0, (HB2.out.cell (World.block_lt_of_cell? _ _ x1)).trans x1, (HB2.out.cell (World.block_lt_of_cell? _ _ x2)).trans x2, (HB2.out.cell (World.block_lt_of_cell? _ _ x3)).trans x3, (HB2.out.cell (World.block_lt_of_cell? _ _ x4)).trans x4, (HB2.out.cell (World.block_lt_of_cell? _ _ x5)).trans x5⟩ | exact ⟨HB1.out, (HB1.out.cell (World.block_lt_of_cell? _ _ x0)).trans x0, (HB1.out.cell (World.block_lt_of_cell? _ _ x1)).trans x1, (HB1.out.cell (World.block_lt_of_cell? _ _ x2)).trans x2, (HB1.out.cell (World.block_lt_of_cell? _ _ x3)).trans x3, (HB1.out.cell (World.block_lt_of_cell? _ _ x4)).trans x4, (HB1.out.cell (World.block_lt_of_cell? _ _ x5)).trans x5⟩ | exact ⟨(Below.refl _ _).drew, x0, x1, x2, x3, x4, x5⟩))
                  clear hK K hHeld
                  have hHeld := hHeld1
                  clear hHeld1
                  try simp only [Act.put, List.setIfInBounds_toArray, List.set_cons_zero, List.set_cons_succ]
                  refine take_yes (i := 3) (d := 25) (v := ?_) rfl rfl (by kernel_rfl) (by kernel_rfl) (by kernel_rfl) (fun _ _ _ h => h) (by kernel_rfl) ?_ hHeld ?_
                  rotate_left
                  · (intro w hSw; (try dsimp only at hSw); go_simp; try (with_reducible rfl))
                  try simp only [Act.put, List.setIfInBounds_toArray, List.set_cons_zero, List.set_cons_succ]
                  refine take_yes (i := 4) (d := 26) (v := ?_) rfl rfl (by kernel_rfl) (by kernel_rfl) (by kernel_rfl) (fun _ _ _ h => h) (by kernel_rfl) ?_ hHeld ?_
                  rotate_left
                  · (intro w hSw; (try dsimp only at hSw); go_simp; try (with_reducible rfl))
                  try simp only [Act.put, List.setIfInBounds_toArray, List.set_cons_zero, List.set_cons_succ]
                  refine take_yes (i := 5) (d := 27) (v := ?_) rfl rfl (by kernel_rfl) (by kernel_rfl) (by kernel_rfl) (fun _ _ _ h => h) (by kernel_rfl) ?_ hHeld ?_
                  rotate_left
                  · (intro w hSw; (try dsimp only at hSw); go_simp; try (with_reducible rfl))
                  try simp only [Act.put, List.setIfInBounds_toArray, List.set_cons_zero, List.set_cons_succ]
                  refine take_yes (i := 6) (d := 28) (v := ?_) rfl rfl (by kernel_rfl) (by kernel_rfl) (by kernel_rfl) (fun _ _ _ h => h) (by kernel_rfl) ?_ hHeld ?_
                  rotate_left
                  · (intro w hSw; (try dsimp only at hSw); go_simp; try (with_reducible rfl))
                  try simp only [Act.put, List.setIfInBounds_toArray, List.set_cons_zero, List.set_cons_succ]
                  refine wpAnyH_ready (rs := [7]) (by kernel_rfl) (by simp) ?_
                  refine AllReadyH.cons rfl (fun K hK => ?_) AllReadyH.nil
                  go_simp
                  (go_at_call 81; refine (insideB_any q.t 1 100 _).mono ?_; rintro e w3 ⟨rfl, hb⟩; rw [h2]; have HB2 := Lib.hid (HB1.out.trans (hb.mono HB1.out.size)); clear hb)
                  (first | refine hK.out _ _ ?_ (fun hHeld1 => ?_) | (go_wp2_with fail; refine hK.out _ _ ?_ (fun hHeld1 => ?_)))
                  · ((try dsimp only); (first | exact ⟨HB4.out, (HB4.out.cell (World.block_lt_of_cell? _ _ x0)).trans x0, (HB4.out.cell (World.block_lt_of_cell? _ _ x1)).trans x1, (HB4.out.cell (World.block_lt_of_cell? _ _ x2)).trans x2, (HB4.out.cell (World.block_lt_of_cell? _ _ x3)).trans x3, (HB4.out.cell (World.block_lt_of_cell? _ _ x4)).trans x4, (HB4.out.cell (World.block_lt_of_cell? _ _ x5)).trans x5⟩ | exact ⟨HB3.out, (HB3.out.cell (World.block_lt_of_cell? _ _ x0)).trans x0, (HB3.out.cell (World.block_lt_of_cell? _ _ x1)).trans x1, (HB3.out.cell (World.block_lt_of_cell? _ _ x2)).trans x2, (HB3.out.cell (World.block_lt_of_cell? _ _ x3)).trans x3, (HB3.out.cell (World.block_lt_of_cell? _ _ x4)).trans x4, (HB3.out.cell (World.block_lt_of_cell? _ _ x5)).trans x5⟩ | exact ⟨HB2.out, (HB2.out.cell (World.block_lt_of_cell? _ _ x0)).trans x0, (HB2.out.cell (World.block_lt_of_cell? _ _ x1)).trans x1, (HB2.out.cell (World.block_lt_of_cell? _ _ x2)).trans x2, (HB2.out.cell (World.block_lt_of_cell? _ _ x3)).trans x3, (HB2.out.cell (World.block_lt_of_cell? _ _ x4)).trans x4, (HB2.out.cell (World.block_lt_of_cell? _ _ x5)).trans x5⟩ | exact ⟨HB1.out, (HB1.out.cell (World.block_lt_of_cell? _ _ x0)).trans x0, (HB1.out.cell (World.block_lt_of_cell? _ _ x1)).trans x1, (HB1.out.cell (World.block_lt_of_cell? _ _ x2)).trans x2, (HB1.out.cell (World.block_lt_of_cell? _ _ x3)).trans x3, (HB1.out.cell (World.block_lt_of_cell? _ _ x4)).trans x4, (HB1.out.cell (World.block_lt_of_cell? _ _ x5)).trans x5⟩ | exact ⟨(Below.refl _ _).drew, x0, x1, x2, x3, x4, x5⟩))
                  clear hK K hHeld
                  have hHeld := hHeld1
                  clear hHeld1
                  try simp only [Act.put, List.setIfInBounds_toArray, List.set_cons_zero, List.set_cons_succ]
                  refine take_yes (i := 8) (d := 30) (v := ?_) rfl rfl (by kernel_rfl) (by kernel_rfl) (by kernel_rfl) (fun _ _ _ h => h) (by kernel_rfl) ?_ hHeld ?_
                  rotate_left
                  · (intro w hSw; (try dsimp only at hSw); go_simp; try (with_reducible rfl))
                  try simp only [Act.put, List.setIfInBounds_toArray, List.set_cons_zero, List.set_cons_succ]
                  refine take_yes (i := 9) (d := 31) (v := ?_) rfl rfl (by kernel_rfl) (by kernel_rfl) (by kernel_rfl) (fun _ _ _ h => h) (by kernel_rfl) ?_ hHeld ?_
                  rotate_left
                  · (intro w hSw; (try dsimp only at hSw); go_simp; try (with_reducible rfl))
                  try simp only [Act.put, List.setIfInBounds_toArray, List.set_cons_zero, List.set_cons_succ]
                  refine take_yes (i := 10) (d := 32) (v := ?_) rfl rfl (by kernel_rfl) (by kernel_rfl) (by kernel_rfl) (fun _ _ _ h => h) (by kernel_rfl) ?_ hHeld ?_
                  rotate_left
                  · (intro w hSw; (try dsimp only at hSw); go_simp; try (with_reducible rfl))
                  try simp only [Act.put, List.setIfInBounds_toArray, List.set_cons_zero, List.set_cons_succ]
                  refine take_yes (i := 11) (d := 33) (v := ?_) rfl rfl (by kernel_rfl) (by kernel_rfl) (by kernel_rfl) (fun _ _ _ h => h) (by kernel_rfl) ?_ hHeld ?_
                  rotate_left
                  · (intro w hSw; (try dsimp only at hSw); go_simp; try (with_reducible rfl))
                  try simp only [Act.put, List.setIfInBounds_toArray, List.set_cons_zero, List.set_cons_succ]
                  refine take_yes (i := 12) (d := 34) (v := ?_) rfl rfl (by kernel_rfl) (by kernel_rfl) (by kernel_rfl) (fun _ _ _ h => h) (by kernel_rfl) ?_ hHeld ?_
                  rotate_left
                  · (intro w hSw; (try dsimp only at hSw); go_simp; try (with_reducible rfl))
                  try simp only [Act.put, List.setIfInBounds_toArray, List.set_cons_zero, List.set_cons_succ]
                  refine take_yes (i := 13) (d := 35) (v := ?_) rfl rfl (by kernel_rfl) (by kernel_rfl) (by kernel_rfl) (fun _ _ _ h => h) (by kernel_rfl) ?_ hHeld ?_
                  rotate_left
                  · (intro w hSw; (try dsimp only at hSw); go_simp; try (with_reducible rfl))
                  try simp only [Act.put, List.setIfInBounds_toArray, List.set_cons_zero, List.set_cons_succ]
                  refine wpAnyH_ready (rs := [14]) (by kernel_rfl) (by simp) ?_
                  refine AllReadyH.cons rfl (fun K hK => ?_) AllReadyH.nil
                  go_simp
                  (go_at_call 77; refine (canAmend_any T B t d ss q.a _ (HCT.out.below HB2.out) htc hfs (HCV.out.below HB2.out) hfq).mono ?_; rintro e w4 ⟨rfl, hb⟩; rw [h3]; have HB3 := Lib.hid (HB2.out.trans (hb.mono HB2.out.size)); clear hb)
                  (first | refine hK.out _ _ ?_ (fun hHeld1 => ?_) | (go_wp2_with fail; refine hK.out _ _ ?_ (fun hHeld1 => ?_)))
                  · ((try dsimp only); (first | exact ⟨HB4.out, (HB4.out.cell (World.block_lt_of_cell? _ _ x0)).trans x0, (HB4.out.cell (World.block_lt_of_cell? _ _ x1)).trans x1, (HB4.out.cell (World.block_lt_of_cell? _ _ x2)).trans x2, (HB4.out.cell (World.block_lt_of_cell? _ _ x3)).trans x3, (HB4.out.cell (World.block_lt_of_cell? _ _ x4)).trans x4, (HB4.out.cell (World.block_lt_of_cell? _ _ x5)).trans x5⟩ | exact ⟨HB3.out, (HB3.out.cell (World.block_lt_of_cell? _ _ x0)).trans x0, (HB3.out.cell (World.block_lt_of_cell? _ _ x1)).trans x1, (HB3.out.cell (World.block_lt_of_cell? _ _ x2)).trans x2, (HB3.out.cell (World.block_lt_of_cell? _ _ x3)).trans x3, (HB3.out.cell (World.block_lt_of_cell? _ _ x4)).trans x4, (HB3.out.cell (World.block_lt_of_cell? _ _ x5)).trans x5⟩ | exact ⟨HB2.out, (HB2.out.cell (World.block_lt_of_cell? _ _ x0)).trans x0, (HB2.out.cell (World.block_lt_of_cell? _ _ x1)).trans x1, (HB2.out.cell (World.block_lt_of_cell? _ _ x2)).trans x2, (HB2.out.cell (World.block_lt_of_cell? _ _ x3)).trans x3, (HB2.out.cell (World.block_lt_of_cell? _ _ x4)).trans x4, (HB2.out.cell (World.block_lt_of_cell? _ _ x5)).trans x5⟩ | exact ⟨HB1.out, (HB1.out.cell (World.block_lt_of_cell? _ _ x0)).trans x0, (HB1.out.cell (World.block_lt_of_cell? _ _ x1)).trans x1, (HB1.out.cell (World.block_lt_of_cell? _ _ x2)).trans x2, (HB1.out.cell (World.block_lt_of_cell? _ _ x3)).trans x3, (HB1.out.cell (World.block_lt_of_cell? _ _ x4)).trans x4, (HB1.out.cell (World.block_lt_of_cell? _ _ x5)).trans x5⟩ | exact ⟨(Below.refl _ _).drew, x0, x1, x2, x3, x4, x5⟩))
                  clear hK K hHeld
                  have hHeld := hHeld1
                  clear hHeld1
                  try simp only [Act.put, List.setIfInBounds_toArray, List.set_cons_zero, List.set_cons_succ]
                  refine take_yes (i := 15) (d := 37) (v := ?_) rfl rfl (by kernel_rfl) (by kernel_rfl) (by kernel_rfl) (fun _ _ _ h => h) (by kernel_rfl) ?_ hHeld ?_
                  rotate_left
                  · (intro w hSw; (try dsimp only at hSw); go_simp; try (with_reducible rfl))
                  try simp only [Act.put, List.setIfInBounds_toArray, List.set_cons_zero, List.set_cons_succ]
                  refine take_yes (i := 16) (d := 38) (v := ?_) rfl rfl (by kernel_rfl) (by kernel_rfl) (by kernel_rfl) (fun _ _ _ h => h) (by kernel_rfl) ?_ hHeld ?_
                  rotate_left
                  · (intro w hSw; (try dsimp only at hSw); go_simp; try (with_reducible rfl))
                  try simp only [Act.put, List.setIfInBounds_toArray, List.set_cons_zero, List.set_cons_succ]
                  refine take_yes (i := 17) (d := 39) (v := ?_) rfl rfl (by kernel_rfl) (by kernel_rfl) (by kernel_rfl) (fun _ _ _ h => h) (by kernel_rfl) ?_ hHeld ?_
                  rotate_left
                  · (intro w hSw; (try dsimp only at hSw); go_simp; try (with_reducible rfl))
                  try simp only [Act.put, List.setIfInBounds_toArray, List.set_cons_zero, List.set_cons_succ]
                  refine take_yes (i := 18) (d := 40) (v := ?_) rfl rfl (by kernel_rfl) (by kernel_rfl) (by kernel_rfl) (fun _ _ _ h => h) (by kernel_rfl) ?_ hHeld ?_
                  rotate_left
                  · (intro w hSw; (try dsimp only at hSw); go_simp; try (with_reducible rfl))
                  try simp only [Act.put, List.setIfInBounds_toArray, List.set_cons_zero, List.set_cons_succ]
                  refine take_yes (i := 19) (d := 41) (v := ?_) rfl rfl (by kernel_rfl) (by kernel_rfl) (by kernel_rfl) (fun _ _ _ h => h) (by kernel_rfl) ?_ hHeld ?_
                  rotate_left
                  · (intro w hSw; (try dsimp only at hSw); go_simp; try (with_reducible rfl))
                  try simp only [Act.put, List.setIfInBounds_toArray, List.set_cons_zero, List.set_cons_succ]
                  refine take_yes (i := 20) (d := 42) (v := ?_) rfl rfl (by kernel_rfl) (by kernel_rfl) (by kernel_rfl) (fun _ _ _ h => h) (by kernel_rfl) ?_ hHeld ?_
                  rotate_left
                  · (intro w hSw; (try dsimp only at hSw); go_simp; try (with_reducible rfl))
                  try simp only [Act.put, List.setIfInBounds_toArray, List.set_cons_zero, List.set_cons_succ]
                  refine take_no (i := 21) (d := 43) rfl rfl (by kernel_rfl) (by kernel_rfl) (by kernel_rfl) (fun _ _ _ h => h) (by kernel_rfl) hHeld ?_
                  try simp only [Act.put, List.setIfInBounds_toArray, List.set_cons_zero, List.set_cons_succ]
                  refine take_no (i := 22) (d := 44) rfl rfl (by kernel_rfl) (by kernel_rfl) (by kernel_rfl) (fun _ _ _ h => h) (by kernel_rfl) hHeld ?_
                  try simp only [Act.put, List.setIfInBounds_toArray, List.set_cons_zero, List.set_cons_succ]
                  refine take_no (i := 23) (d := 45) rfl rfl (by kernel_rfl) (by kernel_rfl) (by kernel_rfl) (fun _ _ _ h => h) (by kernel_rfl) hHeld ?_
                  try simp only [Act.put, List.setIfInBounds_toArray, List.set_cons_zero, List.set_cons_succ]
                  refine take_no (i := 24) (d := 46) rfl rfl (by kernel_rfl) (by kernel_rfl) (by kernel_rfl) (fun _ _ _ h => h) (by kernel_rfl) hHeld ?_
                  try simp only [Act.put, List.setIfInBounds_toArray, List.set_cons_zero, List.set_cons_succ]
                  refine take_no (i := 25) (d := 47) rfl rfl (by kernel_rfl) (by kernel_rfl) (by kernel_rfl) (fun _ _ _ h => h) (by kernel_rfl) hHeld ?_
                  try simp only [Act.put, List.setIfInBounds_toArray, List.set_cons_zero, List.set_cons_succ]
                  refine take_no (i := 26) (d := 48) rfl rfl (by kernel_rfl) (by kernel_rfl) (by kernel_rfl) (fun _ _ _ h => h) (by kernel_rfl) hHeld ?_
                  try simp only [Act.put, List.setIfInBounds_toArray, List.set_cons_zero, List.set_cons_succ]
                  refine take_no (i := 27) (d := 49) rfl rfl (by kernel_rfl) (by kernel_rfl) (by kernel_rfl) (fun _ _ _ h => h) (by kernel_rfl) hHeld ?_
                  try simp only [Act.put, List.setIfInBounds_toArray, List.set_cons_zero, List.set_cons_succ]
                  refine take_no (i := 28) (d := 50) rfl rfl (by kernel_rfl) (by kernel_rfl) (by kernel_rfl) (fun _ _ _ h => h) (by kernel_rfl) hHeld ?_
                  try simp only [Act.put, List.setIfInBounds_toArray, List.set_cons_zero, List.set_cons_succ]
                  refine take_no (i := 29) (d := 51) rfl rfl (by kernel_rfl) (by kernel_rfl) (by kernel_rfl) (fun _ _ _ h => h) (by kernel_rfl) hHeld ?_
                  try simp only [Act.put, List.setIfInBounds_toArray, List.set_cons_zero, List.set_cons_succ]
                  refine take_yes (i := 30) (d := 52) (v := ?_) rfl rfl (by kernel_rfl) (by kernel_rfl) (by kernel_rfl) (fun _ _ _ h => h) (by kernel_rfl) ?_ hHeld ?_
                  rotate_left
                  · (intro w hSw; (try dsimp only at hSw); go_simp; try (with_reducible rfl))
                  try simp only [Act.put, List.setIfInBounds_toArray, List.set_cons_zero, List.set_cons_succ]
                  refine take_yes (i := 31) (d := 53) (v := ?_) rfl rfl (by kernel_rfl) (by kernel_rfl) (by kernel_rfl) (fun _ _ _ h => h) (by kernel_rfl) ?_ hHeld ?_
                  rotate_left
                  · (intro w hSw; (try dsimp only at hSw); go_simp; try (with_reducible rfl))
                  try simp only [Act.put, List.setIfInBounds_toArray, List.set_cons_zero, List.set_cons_succ]
                  refine wpAnyH_done (by kernel_rfl) ?_ _
                  refine NoPanic.normal ?_
                  go_wp2
                  go_roundw
                  case rel => exact ⟨k + 1, by omega, by go_num, HS.out, HB.out.trans ((HWb.out.trans (HB3.out.mono HWb.out.size)).mono HB.out.size)⟩
                  case measure => simp [intOf]; omega
                · have hk1 : 0 < k := by omega
                  obtain ⟨a', A2, d2, ha', ⟨p0, _, _, _, _, _⟩, _, _⟩ := ((HD.out.below HB.out).below HWb.out).at_ (show k - 1 < ps.length by omega)
                  obtain rfl : a = a' := by simpa using ha'
                  have t1 : IntKind.i64.wrap ((k : Int) - 1) = (k : Int) - 1 := by rw [IntKind.wrap_i64]; omega
                  have t2 : ((k : Int) - 1).toNat = k - 1 := by omega
                  have t3 : (0 : Int) ≤ (k : Int) - 1 := by omega
                  have t4 : (k : Int) - 1 < (ps.length : Int) := by omega
                  have t9 : decide ((0 : Int) < (k : Int)) = true := decide_eq_true (by omega)
                  have t5 : decide (0 < k) = true := decide_eq_true (by omega)
                  have t7 : (1 : Int) ≤ (k : Int) := by omega
                  have t8 : (k : Int) ≤ (ps.length : Int) := by omega
                  rw [show (k == 0) = false by simp; omega] at HK2
                  obtain ⟨p, hp⟩ : ∃ p, Hid (ps[k - 1] = p) := ⟨_, Lib.hid rfl⟩
                  rw [hp.out] at p0 HK2
                  clear ha' hk0 hp
                  by_cases hr2 : q.i ≤ p.i
                  · have HN := Lib.hid (propB_no (ss := ss) hlt (show okP ss ps k = false by rw [HK2]; simp; omega))
                    have hg : decide (q.i ≤ p.i) = true := decide_eq_true hr2
                    clear hq HK HK2 hr2
                    refine wp_region_noPanic ?_
                    refine wp_region_held_drew (S := (fun w' => Below W.heap.size W w' ∧ w'.cell? ⟨wr.heap.size, 0, none⟩ = some (.int .i64 q.i) ∧ w'.cell? ⟨wr.heap.size, 1, none⟩ = some (.int .i64 q.a.k) ∧ w'.cell? ⟨wr.heap.size, 2, none⟩ = some (.int .i64 q.a.p) ∧ w'.cell? ⟨wr.heap.size, 3, none⟩ = some (.int .i64 q.a.n) ∧ w'.cell? ⟨wr.heap.size, 4, none⟩ = some (.slice B q.a.ws.length d) ∧ w'.cell? ⟨wr.heap.size, 5, none⟩ = some (.int .i64 q.t) ∧ w'.cell? (a.add ((k - 1) * 6)) = some (.int .i64 p.i))) (by kernel_rfl) ?_ (fun hHeld => ?_)
                    · ((try dsimp only); (first | exact ⟨HB4.out, (HB4.out.cell (World.block_lt_of_cell? _ _ x0)).trans x0, (HB4.out.cell (World.block_lt_of_cell? _ _ x1)).trans x1, (HB4.out.cell (World.block_lt_of_cell? _ _ x2)).trans x2, (HB4.out.cell (World.block_lt_of_cell? _ _ x3)).trans x3, (HB4.out.cell (World.block_lt_of_cell? _ _ x4)).trans x4, (HB4.out.cell (World.block_lt_of_cell? _ _ x5)).trans x5, (HB4.out.cell (World.block_lt_of_cell? _ _ p0)).trans p0⟩ | exact ⟨HB3.out, (HB3.out.cell (World.block_lt_of_cell? _ _ x0)).trans x0, (HB3.out.cell (World.block_lt_of_cell? _ _ x1)).trans x1, (HB3.out.cell (World.block_lt_of_cell? _ _ x2)).trans x2, (HB3.out.cell (World.block_lt_of_cell? _ _ x3)).trans x3, (HB3.out.cell (World.block_lt_of_cell? _ _ x4)).trans x4, (HB3.out.cell (World.block_lt_of_cell? _ _ x5)).trans x5, (HB3.out.cell (World.block_lt_of_cell? _ _ p0)).trans p0⟩ | exact ⟨HB2.out, (HB2.out.cell (World.block_lt_of_cell? _ _ x0)).trans x0, (HB2.out.cell (World.block_lt_of_cell? _ _ x1)).trans x1, (HB2.out.cell (World.block_lt_of_cell? _ _ x2)).trans x2, (HB2.out.cell (World.block_lt_of_cell? _ _ x3)).trans x3, (HB2.out.cell (World.block_lt_of_cell? _ _ x4)).trans x4, (HB2.out.cell (World.block_lt_of_cell? _ _ x5)).trans x5, (HB2.out.cell (World.block_lt_of_cell? _ _ p0)).trans p0⟩ | exact ⟨HB1.out, (HB1.out.cell (World.block_lt_of_cell? _ _ x0)).trans x0, (HB1.out.cell (World.block_lt_of_cell? _ _ x1)).trans x1, (HB1.out.cell (World.block_lt_of_cell? _ _ x2)).trans x2, (HB1.out.cell (World.block_lt_of_cell? _ _ x3)).trans x3, (HB1.out.cell (World.block_lt_of_cell? _ _ x4)).trans x4, (HB1.out.cell (World.block_lt_of_cell? _ _ x5)).trans x5, (HB1.out.cell (World.block_lt_of_cell? _ _ p0)).trans p0⟩ | exact ⟨(Below.refl _ _).drew, x0, x1, x2, x3, x4, x5, p0⟩))
                    refine take_yes (i := 0) (d := 22) (v := ?_) rfl rfl (by kernel_rfl) (by kernel_rfl) (by kernel_rfl) (fun _ _ _ h => h) (by kernel_rfl) ?_ hHeld ?_
                    rotate_left
                    · (intro w hSw; (try dsimp only at hSw); go_simp; try (with_reducible rfl))
                    try simp only [Act.put, List.setIfInBounds_toArray, List.set_cons_zero, List.set_cons_succ]
                    refine take_yes (i := 1) (d := 23) (v := ?_) rfl rfl (by kernel_rfl) (by kernel_rfl) (by kernel_rfl) (fun _ _ _ h => h) (by kernel_rfl) ?_ hHeld ?_
                    rotate_left
                    · (intro w hSw; (try dsimp only at hSw); go_simp; try (with_reducible rfl))
                    try simp only [Act.put, List.setIfInBounds_toArray, List.set_cons_zero, List.set_cons_succ]
                    refine wpAnyH_ready (rs := [2]) (by kernel_rfl) (by simp) ?_
                    refine AllReadyH.cons rfl (fun K hK => ?_) AllReadyH.nil
                    go_simp
                    (go_at_call 81; refine (insideB_any q.i 1 99 _).mono ?_; rintro e w2 ⟨rfl, hb⟩; rw [h1]; have HB1 := Lib.hid ((below_drewN (Below.refl W.heap.size W) 1).trans hb); clear hb)
                    (first | refine hK.out _ _ ?_ (fun hHeld1 => ?_) | (go_wp2_with fail; refine hK.out _ _ ?_ (fun hHeld1 => ?_)))
                    · ((try dsimp only); (first | exact ⟨HB4.out, (HB4.out.cell (World.block_lt_of_cell? _ _ x0)).trans x0, (HB4.out.cell (World.block_lt_of_cell? _ _ x1)).trans x1, (HB4.out.cell (World.block_lt_of_cell? _ _ x2)).trans x2, (HB4.out.cell (World.block_lt_of_cell? _ _ x3)).trans x3, (HB4.out.cell (World.block_lt_of_cell? _ _ x4)).trans x4, (HB4.out.cell (World.block_lt_of_cell? _ _ x5)).trans x5, (HB4.out.cell (World.block_lt_of_cell? _ _ p0)).trans p0⟩ | exact ⟨HB3.out, (HB3.out.cell (World.block_lt_of_cell? _ _ x0)).trans x0, (HB3.out.cell (World.block_lt_of_cell? _ _ x1)).trans x1, (HB3.out.cell (World.block_lt_of_cell? _ _ x2)).trans x2, (HB3.out.cell (World.block_lt_of_cell? _ _ x3)).trans x3, (HB3.out.cell (World.block_lt_of_cell? _ _ x4)).trans x4, (HB3.out.cell (World.block_lt_of_cell? _ _ x5)).trans x5, (HB3.out.cell (World.block_lt_of_cell? _ _ p0)).trans p0⟩ | exact ⟨HB2.out, (HB2.out.cell (World.block_lt_of_cell? _ _ x0)).trans x0, (HB2.out.cell (World.block_lt_of_cell? _ _ x1)).trans x1, (HB2.out.cell (World.block_lt_of_cell? _ _ x2)).trans x2, (HB2.out.cell (World.block_lt_of_cell? _ _ x3)).trans x3, (HB2.out.cell (World.block_lt_of_cell? _ _ x4)).trans x4, (HB2.out.cell (World.block_lt_of_cell? _ _ x5)).trans x5, (HB2.out.cell (World.block_lt_of_cell? _ _ p0)).trans p0⟩ | exact ⟨HB1.out, (HB1.out.cell (World.block_lt_of_cell? _ _ x0)).trans x0, (HB1.out.cell (World.block_lt_of_cell? _ _ x1)).trans x1, (HB1.out.cell (World.block_lt_of_cell? _ _ x2)).trans x2, (HB1.out.cell (World.block_lt_of_cell? _ _ x3)).trans x3, (HB1.out.cell (World.block_lt_of_cell? _ _ x4)).trans x4, (HB1.out.cell (World.block_lt_of_cell? _ _ x5)).trans x5, (HB1.out.cell (World.block_lt_of_cell? _ _ p0)).trans p0⟩ | exact ⟨(Below.refl _ _).drew, x0, x1, x2, x3, x4, x5, p0⟩))
                    clear hK K hHeld
                    have hHeld := hHeld1
                    clear hHeld1
                    try simp only [Act.put, List.setIfInBounds_toArray, List.set_cons_zero, List.set_cons_succ]
                    refine take_yes (i := 3) (d := 25) (v := ?_) rfl rfl (by kernel_rfl) (by kernel_rfl) (by kernel_rfl) (fun _ _ _ h => h) (by kernel_rfl) ?_ hHeld ?_
                    rotate_left
                    · (intro w hSw; (try dsimp only at hSw); go_simp; try (with_reducible rfl))
                    try simp only [Act.put, List.setIfInBounds_toArray, List.set_cons_zero, List.set_cons_succ]
                    refine take_yes (i := 4) (d := 26) (v := ?_) rfl rfl (by kernel_rfl) (by kernel_rfl) (by kernel_rfl) (fun _ _ _ h => h) (by kernel_rfl) ?_ hHeld ?_
                    rotate_left
                    · (intro w hSw; (try dsimp only at hSw); go_simp; try (with_reducible rfl))
                    try simp only [Act.put, List.setIfInBounds_toArray, List.set_cons_zero, List.set_cons_succ]
                    refine take_yes (i := 5) (d := 27) (v := ?_) rfl rfl (by kernel_rfl) (by kernel_rfl) (by kernel_rfl) (fun _ _ _ h => h) (by kernel_rfl) ?_ hHeld ?_
                    rotate_left
                    · (intro w hSw; (try dsimp only at hSw); go_simp; try (with_reducible rfl))
                    try simp only [Act.put, List.setIfInBounds_toArray, List.set_cons_zero, List.set_cons_succ]
                    refine take_yes (i := 6) (d := 28) (v := ?_) rfl rfl (by kernel_rfl) (by kernel_rfl) (by kernel_rfl) (fun _ _ _ h => h) (by kernel_rfl) ?_ hHeld ?_
                    rotate_left
                    · (intro w hSw; (try dsimp only at hSw); go_simp; try (with_reducible rfl))
                    try simp only [Act.put, List.setIfInBounds_toArray, List.set_cons_zero, List.set_cons_succ]
                    refine wpAnyH_ready (rs := [7]) (by kernel_rfl) (by simp) ?_
                    refine AllReadyH.cons rfl (fun K hK => ?_) AllReadyH.nil
                    go_simp
                    (go_at_call 81; refine (insideB_any q.t 1 100 _).mono ?_; rintro e w3 ⟨rfl, hb⟩; rw [h2]; have HB2 := Lib.hid (HB1.out.trans (hb.mono HB1.out.size)); clear hb)
                    (first | refine hK.out _ _ ?_ (fun hHeld1 => ?_) | (go_wp2_with fail; refine hK.out _ _ ?_ (fun hHeld1 => ?_)))
                    · ((try dsimp only); (first | exact ⟨HB4.out, (HB4.out.cell (World.block_lt_of_cell? _ _ x0)).trans x0, (HB4.out.cell (World.block_lt_of_cell? _ _ x1)).trans x1, (HB4.out.cell (World.block_lt_of_cell? _ _ x2)).trans x2, (HB4.out.cell (World.block_lt_of_cell? _ _ x3)).trans x3, (HB4.out.cell (World.block_lt_of_cell? _ _ x4)).trans x4, (HB4.out.cell (World.block_lt_of_cell? _ _ x5)).trans x5, (HB4.out.cell (World.block_lt_of_cell? _ _ p0)).trans p0⟩ | exact ⟨HB3.out, (HB3.out.cell (World.block_lt_of_cell? _ _ x0)).trans x0, (HB3.out.cell (World.block_lt_of_cell? _ _ x1)).trans x1, (HB3.out.cell (World.block_lt_of_cell? _ _ x2)).trans x2, (HB3.out.cell (World.block_lt_of_cell? _ _ x3)).trans x3, (HB3.out.cell (World.block_lt_of_cell? _ _ x4)).trans x4, (HB3.out.cell (World.block_lt_of_cell? _ _ x5)).trans x5, (HB3.out.cell (World.block_lt_of_cell? _ _ p0)).trans p0⟩ | exact ⟨HB2.out, (HB2.out.cell (World.block_lt_of_cell? _ _ x0)).trans x0, (HB2.out.cell (World.block_lt_of_cell? _ _ x1)).trans x1, (HB2.out.cell (World.block_lt_of_cell? _ _ x2)).trans x2, (HB2.out.cell (World.block_lt_of_cell? _ _ x3)).trans x3, (HB2.out.cell (World.block_lt_of_cell? _ _ x4)).trans x4, (HB2.out.cell (World.block_lt_of_cell? _ _ x5)).trans x5, (HB2.out.cell (World.block_lt_of_cell? _ _ p0)).trans p0⟩ | exact ⟨HB1.out, (HB1.out.cell (World.block_lt_of_cell? _ _ x0)).trans x0, (HB1.out.cell (World.block_lt_of_cell? _ _ x1)).trans x1, (HB1.out.cell (World.block_lt_of_cell? _ _ x2)).trans x2, (HB1.out.cell (World.block_lt_of_cell? _ _ x3)).trans x3, (HB1.out.cell (World.block_lt_of_cell? _ _ x4)).trans x4, (HB1.out.cell (World.block_lt_of_cell? _ _ x5)).trans x5, (HB1.out.cell (World.block_lt_of_cell? _ _ p0)).trans p0⟩ | exact ⟨(Below.refl _ _).drew, x0, x1, x2, x3, x4, x5, p0⟩))
                    clear hK K hHeld
                    have hHeld := hHeld1
                    clear hHeld1
                    try simp only [Act.put, List.setIfInBounds_toArray, List.set_cons_zero, List.set_cons_succ]
                    refine take_yes (i := 8) (d := 30) (v := ?_) rfl rfl (by kernel_rfl) (by kernel_rfl) (by kernel_rfl) (fun _ _ _ h => h) (by kernel_rfl) ?_ hHeld ?_
                    rotate_left
                    · (intro w hSw; (try dsimp only at hSw); go_simp; try (with_reducible rfl))
                    try simp only [Act.put, List.setIfInBounds_toArray, List.set_cons_zero, List.set_cons_succ]
                    refine take_yes (i := 9) (d := 31) (v := ?_) rfl rfl (by kernel_rfl) (by kernel_rfl) (by kernel_rfl) (fun _ _ _ h => h) (by kernel_rfl) ?_ hHeld ?_
                    rotate_left
                    · (intro w hSw; (try dsimp only at hSw); go_simp; try (with_reducible rfl))
                    try simp only [Act.put, List.setIfInBounds_toArray, List.set_cons_zero, List.set_cons_succ]
                    refine take_yes (i := 10) (d := 32) (v := ?_) rfl rfl (by kernel_rfl) (by kernel_rfl) (by kernel_rfl) (fun _ _ _ h => h) (by kernel_rfl) ?_ hHeld ?_
                    rotate_left
                    · (intro w hSw; (try dsimp only at hSw); go_simp; try (with_reducible rfl))
                    try simp only [Act.put, List.setIfInBounds_toArray, List.set_cons_zero, List.set_cons_succ]
                    refine take_yes (i := 11) (d := 33) (v := ?_) rfl rfl (by kernel_rfl) (by kernel_rfl) (by kernel_rfl) (fun _ _ _ h => h) (by kernel_rfl) ?_ hHeld ?_
                    rotate_left
                    · (intro w hSw; (try dsimp only at hSw); go_simp; try (with_reducible rfl))
                    try simp only [Act.put, List.setIfInBounds_toArray, List.set_cons_zero, List.set_cons_succ]
                    refine take_yes (i := 12) (d := 34) (v := ?_) rfl rfl (by kernel_rfl) (by kernel_rfl) (by kernel_rfl) (fun _ _ _ h => h) (by kernel_rfl) ?_ hHeld ?_
                    rotate_left
                    · (intro w hSw; (try dsimp only at hSw); go_simp; try (with_reducible rfl))
                    try simp only [Act.put, List.setIfInBounds_toArray, List.set_cons_zero, List.set_cons_succ]
                    refine take_yes (i := 13) (d := 35) (v := ?_) rfl rfl (by kernel_rfl) (by kernel_rfl) (by kernel_rfl) (fun _ _ _ h => h) (by kernel_rfl) ?_ hHeld ?_
                    rotate_left
                    · (intro w hSw; (try dsimp only at hSw); go_simp; try (with_reducible rfl))
                    try simp only [Act.put, List.setIfInBounds_toArray, List.set_cons_zero, List.set_cons_succ]
                    refine wpAnyH_ready (rs := [14]) (by kernel_rfl) (by simp) ?_
                    refine AllReadyH.cons rfl (fun K hK => ?_) AllReadyH.nil
                    go_simp
                    (go_at_call 77; refine (canAmend_any T B t d ss q.a _ (HCT.out.below HB2.out) htc hfs (HCV.out.below HB2.out) hfq).mono ?_; rintro e w4 ⟨rfl, hb⟩; rw [h3]; have HB3 := Lib.hid (HB2.out.trans (hb.mono HB2.out.size)); clear hb)
                    (first | refine hK.out _ _ ?_ (fun hHeld1 => ?_) | (go_wp2_with fail; refine hK.out _ _ ?_ (fun hHeld1 => ?_)))
                    · ((try dsimp only); (first | exact ⟨HB4.out, (HB4.out.cell (World.block_lt_of_cell? _ _ x0)).trans x0, (HB4.out.cell (World.block_lt_of_cell? _ _ x1)).trans x1, (HB4.out.cell (World.block_lt_of_cell? _ _ x2)).trans x2, (HB4.out.cell (World.block_lt_of_cell? _ _ x3)).trans x3, (HB4.out.cell (World.block_lt_of_cell? _ _ x4)).trans x4, (HB4.out.cell (World.block_lt_of_cell? _ _ x5)).trans x5, (HB4.out.cell (World.block_lt_of_cell? _ _ p0)).trans p0⟩ | exact ⟨HB3.out, (HB3.out.cell (World.block_lt_of_cell? _ _ x0)).trans x0, (HB3.out.cell (World.block_lt_of_cell? _ _ x1)).trans x1, (HB3.out.cell (World.block_lt_of_cell? _ _ x2)).trans x2, (HB3.out.cell (World.block_lt_of_cell? _ _ x3)).trans x3, (HB3.out.cell (World.block_lt_of_cell? _ _ x4)).trans x4, (HB3.out.cell (World.block_lt_of_cell? _ _ x5)).trans x5, (HB3.out.cell (World.block_lt_of_cell? _ _ p0)).trans p0⟩ | exact ⟨HB2.out, (HB2.out.cell (World.block_lt_of_cell? _ _ x0)).trans x0, (HB2.out.cell (World.block_lt_of_cell? _ _ x1)).trans x1, (HB2.out.cell (World.block_lt_of_cell? _ _ x2)).trans x2, (HB2.out.cell (World.block_lt_of_cell? _ _ x3)).trans x3, (HB2.out.cell (World.block_lt_of_cell? _ _ x4)).trans x4, (HB2.out.cell (World.block_lt_of_cell? _ _ x5)).trans x5, (HB2.out.cell (World.block_lt_of_cell? _ _ p0)).trans p0⟩ | exact ⟨HB1.out, (HB1.out.cell (World.block_lt_of_cell? _ _ x0)).trans x0, (HB1.out.cell (World.block_lt_of_cell? _ _ x1)).trans x1, (HB1.out.cell (World.block_lt_of_cell? _ _ x2)).trans x2, (HB1.out.cell (World.block_lt_of_cell? _ _ x3)).trans x3, (HB1.out.cell (World.block_lt_of_cell? _ _ x4)).trans x4, (HB1.out.cell (World.block_lt_of_cell? _ _ x5)).trans x5, (HB1.out.cell (World.block_lt_of_cell? _ _ p0)).trans p0⟩ | exact ⟨(Below.refl _ _).drew, x0, x1, x2, x3, x4, x5, p0⟩))
                    clear hK K hHeld
                    have hHeld := hHeld1
                    clear hHeld1
                    try simp only [Act.put, List.setIfInBounds_toArray, List.set_cons_zero, List.set_cons_succ]
                    refine take_yes (i := 15) (d := 37) (v := ?_) rfl rfl (by kernel_rfl) (by kernel_rfl) (by kernel_rfl) (fun _ _ _ h => h) (by kernel_rfl) ?_ hHeld ?_
                    rotate_left
                    · (intro w hSw; (try dsimp only at hSw); go_simp; try (with_reducible rfl))
                    try simp only [Act.put, List.setIfInBounds_toArray, List.set_cons_zero, List.set_cons_succ]
                    refine take_yes (i := 16) (d := 38) (v := ?_) rfl rfl (by kernel_rfl) (by kernel_rfl) (by kernel_rfl) (fun _ _ _ h => h) (by kernel_rfl) ?_ hHeld ?_
                    rotate_left
                    · (intro w hSw; (try dsimp only at hSw); go_simp; try (with_reducible rfl))
                    try simp only [Act.put, List.setIfInBounds_toArray, List.set_cons_zero, List.set_cons_succ]
                    refine take_yes (i := 17) (d := 39) (v := ?_) rfl rfl (by kernel_rfl) (by kernel_rfl) (by kernel_rfl) (fun _ _ _ h => h) (by kernel_rfl) ?_ hHeld ?_
                    rotate_left
                    · (intro w hSw; (try dsimp only at hSw); go_simp; try (with_reducible rfl))
                    try simp only [Act.put, List.setIfInBounds_toArray, List.set_cons_zero, List.set_cons_succ]
                    refine take_yes (i := 18) (d := 40) (v := ?_) rfl rfl (by kernel_rfl) (by kernel_rfl) (by kernel_rfl) (fun _ _ _ h => h) (by kernel_rfl) ?_ hHeld ?_
                    rotate_left
                    · (intro w hSw; (try dsimp only at hSw); go_simp; try (with_reducible rfl))
                    try simp only [Act.put, List.setIfInBounds_toArray, List.set_cons_zero, List.set_cons_succ]
                    refine take_yes (i := 19) (d := 41) (v := ?_) rfl rfl (by kernel_rfl) (by kernel_rfl) (by kernel_rfl) (fun _ _ _ h => h) (by kernel_rfl) ?_ hHeld ?_
                    rotate_left
                    · (intro w hSw; (try dsimp only at hSw); go_simp; try (with_reducible rfl))
                    try simp only [Act.put, List.setIfInBounds_toArray, List.set_cons_zero, List.set_cons_succ]
                    refine take_yes (i := 20) (d := 42) (v := ?_) rfl rfl (by kernel_rfl) (by kernel_rfl) (by kernel_rfl) (fun _ _ _ h => h) (by kernel_rfl) ?_ hHeld ?_
                    rotate_left
                    · (intro w hSw; (try dsimp only at hSw); go_simp; try (with_reducible rfl))
                    try simp only [Act.put, List.setIfInBounds_toArray, List.set_cons_zero, List.set_cons_succ]
                    refine take_yes (i := 21) (d := 43) (v := ?_) rfl rfl (by kernel_rfl) (by kernel_rfl) (by kernel_rfl) (fun _ _ _ h => h) (by kernel_rfl) ?_ hHeld ?_
                    rotate_left
                    · (intro w hSw; (try dsimp only at hSw); go_simp; try (with_reducible rfl))
                    try simp only [Act.put, List.setIfInBounds_toArray, List.set_cons_zero, List.set_cons_succ]
                    refine take_yes (i := 22) (d := 44) (v := ?_) rfl rfl (by kernel_rfl) (by kernel_rfl) (by kernel_rfl) (fun _ _ _ h => h) (by kernel_rfl) ?_ hHeld ?_
                    rotate_left
                    · (intro w hSw; (try dsimp only at hSw); go_simp; try (with_reducible rfl))
                    try simp only [Act.put, List.setIfInBounds_toArray, List.set_cons_zero, List.set_cons_succ]
                    refine take_yes (i := 23) (d := 45) (v := ?_) rfl rfl (by kernel_rfl) (by kernel_rfl) (by kernel_rfl) (fun _ _ _ h => h) (by kernel_rfl) ?_ hHeld ?_
                    rotate_left
                    · (intro w hSw; (try dsimp only at hSw); go_simp; try (with_reducible rfl))
                    try simp only [Act.put, List.setIfInBounds_toArray, List.set_cons_zero, List.set_cons_succ]
                    refine take_yes (i := 24) (d := 46) (v := ?_) rfl rfl (by kernel_rfl) (by kernel_rfl) (by kernel_rfl) (fun _ _ _ h => h) (by kernel_rfl) ?_ hHeld ?_
                    rotate_left
                    · (intro w hSw; (try dsimp only at hSw); go_simp; try (with_reducible rfl))
                    try simp only [Act.put, List.setIfInBounds_toArray, List.set_cons_zero, List.set_cons_succ]
                    refine take_yes (i := 25) (d := 47) (v := ?_) rfl rfl (by kernel_rfl) (by kernel_rfl) (by kernel_rfl) (fun _ _ _ h => h) (by kernel_rfl) ?_ hHeld ?_
                    rotate_left
                    · (intro w hSw; (try dsimp only at hSw); go_simp; try (with_reducible rfl))
                    try simp only [Act.put, List.setIfInBounds_toArray, List.set_cons_zero, List.set_cons_succ]
                    refine take_yes (i := 26) (d := 48) (v := ?_) rfl rfl (by kernel_rfl) (by kernel_rfl) (by kernel_rfl) (fun _ _ _ h => h) (by kernel_rfl) ?_ hHeld ?_
                    rotate_left
                    · (intro w hSw; (try dsimp only at hSw); go_simp; try (with_reducible rfl))
                    try simp only [Act.put, List.setIfInBounds_toArray, List.set_cons_zero, List.set_cons_succ]
                    refine take_yes (i := 27) (d := 49) (v := ?_) rfl rfl (by kernel_rfl) (by kernel_rfl) (by kernel_rfl) (fun _ _ _ h => h) (by kernel_rfl) ?_ hHeld ?_
                    rotate_left
                    · (intro w hSw; (try dsimp only at hSw); go_simp; try (with_reducible rfl))
                    try simp only [Act.put, List.setIfInBounds_toArray, List.set_cons_zero, List.set_cons_succ]
                    refine take_yes (i := 28) (d := 50) (v := ?_) rfl rfl (by kernel_rfl) (by kernel_rfl) (by kernel_rfl) (fun _ _ _ h => h) (by kernel_rfl) ?_ hHeld ?_
                    rotate_left
                    · (intro w hSw; (try dsimp only at hSw); go_simp; try (with_reducible rfl))
                    try simp only [Act.put, List.setIfInBounds_toArray, List.set_cons_zero, List.set_cons_succ]
                    refine take_yes (i := 29) (d := 51) (v := ?_) rfl rfl (by kernel_rfl) (by kernel_rfl) (by kernel_rfl) (fun _ _ _ h => h) (by kernel_rfl) ?_ hHeld ?_
                    rotate_left
                    · (intro w hSw; (try dsimp only at hSw); go_simp; try (with_reducible rfl))
                    try simp only [Act.put, List.setIfInBounds_toArray, List.set_cons_zero, List.set_cons_succ]
                    refine take_yes (i := 30) (d := 52) (v := ?_) rfl rfl (by kernel_rfl) (by kernel_rfl) (by kernel_rfl) (fun _ _ _ h => h) (by kernel_rfl) ?_ hHeld ?_
                    rotate_left
                    · (intro w hSw; (try dsimp only at hSw); go_simp; try (with_reducible rfl))
                    try simp only [Act.put, List.setIfInBounds_toArray, List.set_cons_zero, List.set_cons_succ]
                    refine take_yes (i := 31) (d := 53) (v := ?_) rfl rfl (by kernel_rfl) (by kernel_rfl) (by kernel_rfl) (fun _ _ _ h => h) (by kernel_rfl) ?_ hHeld ?_
                    rotate_left
                    · (intro w hSw; (try dsimp only at hSw); go_simp; try (with_reducible rfl))
                    try simp only [Act.put, List.setIfInBounds_toArray, List.set_cons_zero, List.set_cons_succ]
                    refine wpAnyH_done (by kernel_rfl) ?_ _
                    refine NoPanic.normal ?_
                    go_wp2
                    go_ret
                    exact ⟨ret_bool HN.out.symm, HB.out.trans ((HWb.out.trans (HB3.out.mono HWb.out.size)).mono HB.out.size)⟩
                  · have HS := Lib.hid (allN_step hq.out (show okP ss ps k = true by rw [HK2]; simp; omega))
                    have hg : decide (q.i ≤ p.i) = false := decide_eq_false hr2
                    clear hq HK HK2 hr2
                    refine wp_region_noPanic ?_
                    refine wp_region_held_drew (S := (fun w' => Below W.heap.size W w' ∧ w'.cell? ⟨wr.heap.size, 0, none⟩ = some (.int .i64 q.i) ∧ w'.cell? ⟨wr.heap.size, 1, none⟩ = some (.int .i64 q.a.k) ∧ w'.cell? ⟨wr.heap.size, 2, none⟩ = some (.int .i64 q.a.p) ∧ w'.cell? ⟨wr.heap.size, 3, none⟩ = some (.int .i64 q.a.n) ∧ w'.cell? ⟨wr.heap.size, 4, none⟩ = some (.slice B q.a.ws.length d) ∧ w'.cell? ⟨wr.heap.size, 5, none⟩ = some (.int .i64 q.t) ∧ w'.cell? (a.add ((k - 1) * 6)) = some (.int .i64 p.i))) (by kernel_rfl) ?_ (fun hHeld => ?_)
                    · ((try dsimp only); (first | exact ⟨HB4.out, (HB4.out.cell (World.block_lt_of_cell? _ _ x0)).trans x0, (HB4.out.cell (World.block_lt_of_cell? _ _ x1)).trans x1, (HB4.out.cell (World.block_lt_of_cell? _ _ x2)).trans x2, (HB4.out.cell (World.block_lt_of_cell? _ _ x3)).trans x3, (HB4.out.cell (World.block_lt_of_cell? _ _ x4)).trans x4, (HB4.out.cell (World.block_lt_of_cell? _ _ x5)).trans x5, (HB4.out.cell (World.block_lt_of_cell? _ _ p0)).trans p0⟩ | exact ⟨HB3.out, (HB3.out.cell (World.block_lt_of_cell? _ _ x0)).trans x0, (HB3.out.cell (World.block_lt_of_cell? _ _ x1)).trans x1, (HB3.out.cell (World.block_lt_of_cell? _ _ x2)).trans x2, (HB3.out.cell (World.block_lt_of_cell? _ _ x3)).trans x3, (HB3.out.cell (World.block_lt_of_cell? _ _ x4)).trans x4, (HB3.out.cell (World.block_lt_of_cell? _ _ x5)).trans x5, (HB3.out.cell (World.block_lt_of_cell? _ _ p0)).trans p0⟩ | exact ⟨HB2.out, (HB2.out.cell (World.block_lt_of_cell? _ _ x0)).trans x0, (HB2.out.cell (World.block_lt_of_cell? _ _ x1)).trans x1, (HB2.out.cell (World.block_lt_of_cell? _ _ x2)).trans x2, (HB2.out.cell (World.block_lt_of_cell? _ _ x3)).trans x3, (HB2.out.cell (World.block_lt_of_cell? _ _ x4)).trans x4, (HB2.out.cell (World.block_lt_of_cell? _ _ x5)).trans x5, (HB2.out.cell (World.block_lt_of_cell? _ _ p0)).trans p0⟩ | exact ⟨HB1.out, (HB1.out.cell (World.block_lt_of_cell? _ _ x0)).trans x0, (HB1.out.cell (World.block_lt_of_cell? _ _ x1)).trans x1, (HB1.out.cell (World.block_lt_of_cell? _ _ x2)).trans x2, (HB1.out.cell (World.block_lt_of_cell? _ _ x3)).trans x3, (HB1.out.cell (World.block_lt_of_cell? _ _ x4)).trans x4, (HB1.out.cell (World.block_lt_of_cell? _ _ x5)).trans x5, (HB1.out.cell (World.block_lt_of_cell? _ _ p0)).trans p0⟩ | exact ⟨(Below.refl _ _).drew, x0, x1, x2, x3, x4, x5, p0⟩))
                    refine take_yes (i := 0) (d := 22) (v := ?_) rfl rfl (by kernel_rfl) (by kernel_rfl) (by kernel_rfl) (fun _ _ _ h => h) (by kernel_rfl) ?_ hHeld ?_
                    rotate_left
                    · (intro w hSw; (try dsimp only at hSw); go_simp; try (with_reducible rfl))
                    try simp only [Act.put, List.setIfInBounds_toArray, List.set_cons_zero, List.set_cons_succ]
                    refine take_yes (i := 1) (d := 23) (v := ?_) rfl rfl (by kernel_rfl) (by kernel_rfl) (by kernel_rfl) (fun _ _ _ h => h) (by kernel_rfl) ?_ hHeld ?_
                    rotate_left
                    · (intro w hSw; (try dsimp only at hSw); go_simp; try (with_reducible rfl))
                    try simp only [Act.put, List.setIfInBounds_toArray, List.set_cons_zero, List.set_cons_succ]
                    refine wpAnyH_ready (rs := [2]) (by kernel_rfl) (by simp) ?_
                    refine AllReadyH.cons rfl (fun K hK => ?_) AllReadyH.nil
                    go_simp
                    (go_at_call 81; refine (insideB_any q.i 1 99 _).mono ?_; rintro e w2 ⟨rfl, hb⟩; rw [h1]; have HB1 := Lib.hid ((below_drewN (Below.refl W.heap.size W) 1).trans hb); clear hb)
                    (first | refine hK.out _ _ ?_ (fun hHeld1 => ?_) | (go_wp2_with fail; refine hK.out _ _ ?_ (fun hHeld1 => ?_)))
                    · ((try dsimp only); (first | exact ⟨HB4.out, (HB4.out.cell (World.block_lt_of_cell? _ _ x0)).trans x0, (HB4.out.cell (World.block_lt_of_cell? _ _ x1)).trans x1, (HB4.out.cell (World.block_lt_of_cell? _ _ x2)).trans x2, (HB4.out.cell (World.block_lt_of_cell? _ _ x3)).trans x3, (HB4.out.cell (World.block_lt_of_cell? _ _ x4)).trans x4, (HB4.out.cell (World.block_lt_of_cell? _ _ x5)).trans x5, (HB4.out.cell (World.block_lt_of_cell? _ _ p0)).trans p0⟩ | exact ⟨HB3.out, (HB3.out.cell (World.block_lt_of_cell? _ _ x0)).trans x0, (HB3.out.cell (World.block_lt_of_cell? _ _ x1)).trans x1, (HB3.out.cell (World.block_lt_of_cell? _ _ x2)).trans x2, (HB3.out.cell (World.block_lt_of_cell? _ _ x3)).trans x3, (HB3.out.cell (World.block_lt_of_cell? _ _ x4)).trans x4, (HB3.out.cell (World.block_lt_of_cell? _ _ x5)).trans x5, (HB3.out.cell (World.block_lt_of_cell? _ _ p0)).trans p0⟩ | exact ⟨HB2.out, (HB2.out.cell (World.block_lt_of_cell? _ _ x0)).trans x0, (HB2.out.cell (World.block_lt_of_cell? _ _ x1)).trans x1, (HB2.out.cell (World.block_lt_of_cell? _ _ x2)).trans x2, (HB2.out.cell (World.block_lt_of_cell? _ _ x3)).trans x3, (HB2.out.cell (World.block_lt_of_cell? _ _ x4)).trans x4, (HB2.out.cell (World.block_lt_of_cell? _ _ x5)).trans x5, (HB2.out.cell (World.block_lt_of_cell? _ _ p0)).trans p0⟩ | exact ⟨HB1.out, (HB1.out.cell (World.block_lt_of_cell? _ _ x0)).trans x0, (HB1.out.cell (World.block_lt_of_cell? _ _ x1)).trans x1, (HB1.out.cell (World.block_lt_of_cell? _ _ x2)).trans x2, (HB1.out.cell (World.block_lt_of_cell? _ _ x3)).trans x3, (HB1.out.cell (World.block_lt_of_cell? _ _ x4)).trans x4, (HB1.out.cell (World.block_lt_of_cell? _ _ x5)).trans x5, (HB1.out.cell (World.block_lt_of_cell? _ _ p0)).trans p0⟩ | exact ⟨(Below.refl _ _).drew, x0, x1, x2, x3, x4, x5, p0⟩))
                    clear hK K hHeld
                    have hHeld := hHeld1
                    clear hHeld1
                    try simp only [Act.put, List.setIfInBounds_toArray, List.set_cons_zero, List.set_cons_succ]
                    refine take_yes (i := 3) (d := 25) (v := ?_) rfl rfl (by kernel_rfl) (by kernel_rfl) (by kernel_rfl) (fun _ _ _ h => h) (by kernel_rfl) ?_ hHeld ?_
                    rotate_left
                    · (intro w hSw; (try dsimp only at hSw); go_simp; try (with_reducible rfl))
                    try simp only [Act.put, List.setIfInBounds_toArray, List.set_cons_zero, List.set_cons_succ]
                    refine take_yes (i := 4) (d := 26) (v := ?_) rfl rfl (by kernel_rfl) (by kernel_rfl) (by kernel_rfl) (fun _ _ _ h => h) (by kernel_rfl) ?_ hHeld ?_
                    rotate_left
                    · (intro w hSw; (try dsimp only at hSw); go_simp; try (with_reducible rfl))
                    try simp only [Act.put, List.setIfInBounds_toArray, List.set_cons_zero, List.set_cons_succ]
                    refine take_yes (i := 5) (d := 27) (v := ?_) rfl rfl (by kernel_rfl) (by kernel_rfl) (by kernel_rfl) (fun _ _ _ h => h) (by kernel_rfl) ?_ hHeld ?_
                    rotate_left
                    · (intro w hSw; (try dsimp only at hSw); go_simp; try (with_reducible rfl))
                    try simp only [Act.put, List.setIfInBounds_toArray, List.set_cons_zero, List.set_cons_succ]
                    refine take_yes (i := 6) (d := 28) (v := ?_) rfl rfl (by kernel_rfl) (by kernel_rfl) (by kernel_rfl) (fun _ _ _ h => h) (by kernel_rfl) ?_ hHeld ?_
                    rotate_left
                    · (intro w hSw; (try dsimp only at hSw); go_simp; try (with_reducible rfl))
                    try simp only [Act.put, List.setIfInBounds_toArray, List.set_cons_zero, List.set_cons_succ]
                    refine wpAnyH_ready (rs := [7]) (by kernel_rfl) (by simp) ?_
                    refine AllReadyH.cons rfl (fun K hK => ?_) AllReadyH.nil
                    go_simp
                    (go_at_call 81; refine (insideB_any q.t 1 100 _).mono ?_; rintro e w3 ⟨rfl, hb⟩; rw [h2]; have HB2 := Lib.hid (HB1.out.trans (hb.mono HB1.out.size)); clear hb)
                    (first | refine hK.out _ _ ?_ (fun hHeld1 => ?_) | (go_wp2_with fail; refine hK.out _ _ ?_ (fun hHeld1 => ?_)))
                    · ((try dsimp only); (first | exact ⟨HB4.out, (HB4.out.cell (World.block_lt_of_cell? _ _ x0)).trans x0, (HB4.out.cell (World.block_lt_of_cell? _ _ x1)).trans x1, (HB4.out.cell (World.block_lt_of_cell? _ _ x2)).trans x2, (HB4.out.cell (World.block_lt_of_cell? _ _ x3)).trans x3, (HB4.out.cell (World.block_lt_of_cell? _ _ x4)).trans x4, (HB4.out.cell (World.block_lt_of_cell? _ _ x5)).trans x5, (HB4.out.cell (World.block_lt_of_cell? _ _ p0)).trans p0⟩ | exact ⟨HB3.out, (HB3.out.cell (World.block_lt_of_cell? _ _ x0)).trans x0, (HB3.out.cell (World.block_lt_of_cell? _ _ x1)).trans x1, (HB3.out.cell (World.block_lt_of_cell? _ _ x2)).trans x2, (HB3.out.cell (World.block_lt_of_cell? _ _ x3)).trans x3, (HB3.out.cell (World.block_lt_of_cell? _ _ x4)).trans x4, (HB3.out.cell (World.block_lt_of_cell? _ _ x5)).trans x5, (HB3.out.cell (World.block_lt_of_cell? _ _ p0)).trans p0⟩ | exact ⟨HB2.out, (HB2.out.cell (World.block_lt_of_cell? _ _ x0)).trans x0, (HB2.out.cell (World.block_lt_of_cell? _ _ x1)).trans x1, (HB2.out.cell (World.block_lt_of_cell? _ _ x2)).trans x2, (HB2.out.cell (World.block_lt_of_cell? _ _ x3)).trans x3, (HB2.out.cell (World.block_lt_of_cell? _ _ x4)).trans x4, (HB2.out.cell (World.block_lt_of_cell? _ _ x5)).trans x5, (HB2.out.cell (World.block_lt_of_cell? _ _ p0)).trans p0⟩ | exact ⟨HB1.out, (HB1.out.cell (World.block_lt_of_cell? _ _ x0)).trans x0, (HB1.out.cell (World.block_lt_of_cell? _ _ x1)).trans x1, (HB1.out.cell (World.block_lt_of_cell? _ _ x2)).trans x2, (HB1.out.cell (World.block_lt_of_cell? _ _ x3)).trans x3, (HB1.out.cell (World.block_lt_of_cell? _ _ x4)).trans x4, (HB1.out.cell (World.block_lt_of_cell? _ _ x5)).trans x5, (HB1.out.cell (World.block_lt_of_cell? _ _ p0)).trans p0⟩ | exact ⟨(Below.refl _ _).drew, x0, x1, x2, x3, x4, x5, p0⟩))
                    clear hK K hHeld
                    have hHeld := hHeld1
                    clear hHeld1
                    try simp only [Act.put, List.setIfInBounds_toArray, List.set_cons_zero, List.set_cons_succ]
                    refine take_yes (i := 8) (d := 30) (v := ?_) rfl rfl (by kernel_rfl) (by kernel_rfl) (by kernel_rfl) (fun _ _ _ h => h) (by kernel_rfl) ?_ hHeld ?_
                    rotate_left
                    · (intro w hSw; (try dsimp only at hSw); go_simp; try (with_reducible rfl))
                    try simp only [Act.put, List.setIfInBounds_toArray, List.set_cons_zero, List.set_cons_succ]
                    refine take_yes (i := 9) (d := 31) (v := ?_) rfl rfl (by kernel_rfl) (by kernel_rfl) (by kernel_rfl) (fun _ _ _ h => h) (by kernel_rfl) ?_ hHeld ?_
                    rotate_left
                    · (intro w hSw; (try dsimp only at hSw); go_simp; try (with_reducible rfl))
                    try simp only [Act.put, List.setIfInBounds_toArray, List.set_cons_zero, List.set_cons_succ]
                    refine take_yes (i := 10) (d := 32) (v := ?_) rfl rfl (by kernel_rfl) (by kernel_rfl) (by kernel_rfl) (fun _ _ _ h => h) (by kernel_rfl) ?_ hHeld ?_
                    rotate_left
                    · (intro w hSw; (try dsimp only at hSw); go_simp; try (with_reducible rfl))
                    try simp only [Act.put, List.setIfInBounds_toArray, List.set_cons_zero, List.set_cons_succ]
                    refine take_yes (i := 11) (d := 33) (v := ?_) rfl rfl (by kernel_rfl) (by kernel_rfl) (by kernel_rfl) (fun _ _ _ h => h) (by kernel_rfl) ?_ hHeld ?_
                    rotate_left
                    · (intro w hSw; (try dsimp only at hSw); go_simp; try (with_reducible rfl))
                    try simp only [Act.put, List.setIfInBounds_toArray, List.set_cons_zero, List.set_cons_succ]
                    refine take_yes (i := 12) (d := 34) (v := ?_) rfl rfl (by kernel_rfl) (by kernel_rfl) (by kernel_rfl) (fun _ _ _ h => h) (by kernel_rfl) ?_ hHeld ?_
                    rotate_left
                    · (intro w hSw; (try dsimp only at hSw); go_simp; try (with_reducible rfl))
                    try simp only [Act.put, List.setIfInBounds_toArray, List.set_cons_zero, List.set_cons_succ]
                    refine take_yes (i := 13) (d := 35) (v := ?_) rfl rfl (by kernel_rfl) (by kernel_rfl) (by kernel_rfl) (fun _ _ _ h => h) (by kernel_rfl) ?_ hHeld ?_
                    rotate_left
                    · (intro w hSw; (try dsimp only at hSw); go_simp; try (with_reducible rfl))
                    try simp only [Act.put, List.setIfInBounds_toArray, List.set_cons_zero, List.set_cons_succ]
                    refine wpAnyH_ready (rs := [14]) (by kernel_rfl) (by simp) ?_
                    refine AllReadyH.cons rfl (fun K hK => ?_) AllReadyH.nil
                    go_simp
                    (go_at_call 77; refine (canAmend_any T B t d ss q.a _ (HCT.out.below HB2.out) htc hfs (HCV.out.below HB2.out) hfq).mono ?_; rintro e w4 ⟨rfl, hb⟩; rw [h3]; have HB3 := Lib.hid (HB2.out.trans (hb.mono HB2.out.size)); clear hb)
                    (first | refine hK.out _ _ ?_ (fun hHeld1 => ?_) | (go_wp2_with fail; refine hK.out _ _ ?_ (fun hHeld1 => ?_)))
                    · ((try dsimp only); (first | exact ⟨HB4.out, (HB4.out.cell (World.block_lt_of_cell? _ _ x0)).trans x0, (HB4.out.cell (World.block_lt_of_cell? _ _ x1)).trans x1, (HB4.out.cell (World.block_lt_of_cell? _ _ x2)).trans x2, (HB4.out.cell (World.block_lt_of_cell? _ _ x3)).trans x3, (HB4.out.cell (World.block_lt_of_cell? _ _ x4)).trans x4, (HB4.out.cell (World.block_lt_of_cell? _ _ x5)).trans x5, (HB4.out.cell (World.block_lt_of_cell? _ _ p0)).trans p0⟩ | exact ⟨HB3.out, (HB3.out.cell (World.block_lt_of_cell? _ _ x0)).trans x0, (HB3.out.cell (World.block_lt_of_cell? _ _ x1)).trans x1, (HB3.out.cell (World.block_lt_of_cell? _ _ x2)).trans x2, (HB3.out.cell (World.block_lt_of_cell? _ _ x3)).trans x3, (HB3.out.cell (World.block_lt_of_cell? _ _ x4)).trans x4, (HB3.out.cell (World.block_lt_of_cell? _ _ x5)).trans x5, (HB3.out.cell (World.block_lt_of_cell? _ _ p0)).trans p0⟩ | exact ⟨HB2.out, (HB2.out.cell (World.block_lt_of_cell? _ _ x0)).trans x0, (HB2.out.cell (World.block_lt_of_cell? _ _ x1)).trans x1, (HB2.out.cell (World.block_lt_of_cell? _ _ x2)).trans x2, (HB2.out.cell (World.block_lt_of_cell? _ _ x3)).trans x3, (HB2.out.cell (World.block_lt_of_cell? _ _ x4)).trans x4, (HB2.out.cell (World.block_lt_of_cell? _ _ x5)).trans x5, (HB2.out.cell (World.block_lt_of_cell? _ _ p0)).trans p0⟩ | exact ⟨HB1.out, (HB1.out.cell (World.block_lt_of_cell? _ _ x0)).trans x0, (HB1.out.cell (World.block_lt_of_cell? _ _ x1)).trans x1, (HB1.out.cell (World.block_lt_of_cell? _ _ x2)).trans x2, (HB1.out.cell (World.block_lt_of_cell? _ _ x3)).trans x3, (HB1.out.cell (World.block_lt_of_cell? _ _ x4)).trans x4, (HB1.out.cell (World.block_lt_of_cell? _ _ x5)).trans x5, (HB1.out.cell (World.block_lt_of_cell? _ _ p0)).trans p0⟩ | exact ⟨(Below.refl _ _).drew, x0, x1, x2, x3, x4, x5, p0⟩))
                    clear hK K hHeld
                    have hHeld := hHeld1
                    clear hHeld1
                    try simp only [Act.put, List.setIfInBounds_toArray, List.set_cons_zero, List.set_cons_succ]
                    refine take_yes (i := 15) (d := 37) (v := ?_) rfl rfl (by kernel_rfl) (by kernel_rfl) (by kernel_rfl) (fun _ _ _ h => h) (by kernel_rfl) ?_ hHeld ?_
                    rotate_left
                    · (intro w hSw; (try dsimp only at hSw); go_simp; try (with_reducible rfl))
                    try simp only [Act.put, List.setIfInBounds_toArray, List.set_cons_zero, List.set_cons_succ]
                    refine take_yes (i := 16) (d := 38) (v := ?_) rfl rfl (by kernel_rfl) (by kernel_rfl) (by kernel_rfl) (fun _ _ _ h => h) (by kernel_rfl) ?_ hHeld ?_
                    rotate_left
                    · (intro w hSw; (try dsimp only at hSw); go_simp; try (with_reducible rfl))
                    try simp only [Act.put, List.setIfInBounds_toArray, List.set_cons_zero, List.set_cons_succ]
                    refine take_yes (i := 17) (d := 39) (v := ?_) rfl rfl (by kernel_rfl) (by kernel_rfl) (by kernel_rfl) (fun _ _ _ h => h) (by kernel_rfl) ?_ hHeld ?_
                    rotate_left
                    · (intro w hSw; (try dsimp only at hSw); go_simp; try (with_reducible rfl))
                    try simp only [Act.put, List.setIfInBounds_toArray, List.set_cons_zero, List.set_cons_succ]
                    refine take_yes (i := 18) (d := 40) (v := ?_) rfl rfl (by kernel_rfl) (by kernel_rfl) (by kernel_rfl) (fun _ _ _ h => h) (by kernel_rfl) ?_ hHeld ?_
                    rotate_left
                    · (intro w hSw; (try dsimp only at hSw); go_simp; try (with_reducible rfl))
                    try simp only [Act.put, List.setIfInBounds_toArray, List.set_cons_zero, List.set_cons_succ]
                    refine take_yes (i := 19) (d := 41) (v := ?_) rfl rfl (by kernel_rfl) (by kernel_rfl) (by kernel_rfl) (fun _ _ _ h => h) (by kernel_rfl) ?_ hHeld ?_
                    rotate_left
                    · (intro w hSw; (try dsimp only at hSw); go_simp; try (with_reducible rfl))
                    try simp only [Act.put, List.setIfInBounds_toArray, List.set_cons_zero, List.set_cons_succ]
                    refine take_yes (i := 20) (d := 42) (v := ?_) rfl rfl (by kernel_rfl) (by kernel_rfl) (by kernel_rfl) (fun _ _ _ h => h) (by kernel_rfl) ?_ hHeld ?_
                    rotate_left
                    · (intro w hSw; (try dsimp only at hSw); go_simp; try (with_reducible rfl))
                    try simp only [Act.put, List.setIfInBounds_toArray, List.set_cons_zero, List.set_cons_succ]
                    refine take_yes (i := 21) (d := 43) (v := ?_) rfl rfl (by kernel_rfl) (by kernel_rfl) (by kernel_rfl) (fun _ _ _ h => h) (by kernel_rfl) ?_ hHeld ?_
                    rotate_left
                    · (intro w hSw; (try dsimp only at hSw); go_simp; try (with_reducible rfl))
                    try simp only [Act.put, List.setIfInBounds_toArray, List.set_cons_zero, List.set_cons_succ]
                    refine take_yes (i := 22) (d := 44) (v := ?_) rfl rfl (by kernel_rfl) (by kernel_rfl) (by kernel_rfl) (fun _ _ _ h => h) (by kernel_rfl) ?_ hHeld ?_
                    rotate_left
                    · (intro w hSw; (try dsimp only at hSw); go_simp; try (with_reducible rfl))
                    try simp only [Act.put, List.setIfInBounds_toArray, List.set_cons_zero, List.set_cons_succ]
                    refine take_yes (i := 23) (d := 45) (v := ?_) rfl rfl (by kernel_rfl) (by kernel_rfl) (by kernel_rfl) (fun _ _ _ h => h) (by kernel_rfl) ?_ hHeld ?_
                    rotate_left
                    · (intro w hSw; (try dsimp only at hSw); go_simp; try (with_reducible rfl))
                    try simp only [Act.put, List.setIfInBounds_toArray, List.set_cons_zero, List.set_cons_succ]
                    refine take_yes (i := 24) (d := 46) (v := ?_) rfl rfl (by kernel_rfl) (by kernel_rfl) (by kernel_rfl) (fun _ _ _ h => h) (by kernel_rfl) ?_ hHeld ?_
                    rotate_left
                    · (intro w hSw; (try dsimp only at hSw); go_simp; try (with_reducible rfl))
                    try simp only [Act.put, List.setIfInBounds_toArray, List.set_cons_zero, List.set_cons_succ]
                    refine take_yes (i := 25) (d := 47) (v := ?_) rfl rfl (by kernel_rfl) (by kernel_rfl) (by kernel_rfl) (fun _ _ _ h => h) (by kernel_rfl) ?_ hHeld ?_
                    rotate_left
                    · (intro w hSw; (try dsimp only at hSw); go_simp; try (with_reducible rfl))
                    try simp only [Act.put, List.setIfInBounds_toArray, List.set_cons_zero, List.set_cons_succ]
                    refine take_yes (i := 26) (d := 48) (v := ?_) rfl rfl (by kernel_rfl) (by kernel_rfl) (by kernel_rfl) (fun _ _ _ h => h) (by kernel_rfl) ?_ hHeld ?_
                    rotate_left
                    · (intro w hSw; (try dsimp only at hSw); go_simp; try (with_reducible rfl))
                    try simp only [Act.put, List.setIfInBounds_toArray, List.set_cons_zero, List.set_cons_succ]
                    refine take_yes (i := 27) (d := 49) (v := ?_) rfl rfl (by kernel_rfl) (by kernel_rfl) (by kernel_rfl) (fun _ _ _ h => h) (by kernel_rfl) ?_ hHeld ?_
                    rotate_left
                    · (intro w hSw; (try dsimp only at hSw); go_simp; try (with_reducible rfl))
                    try simp only [Act.put, List.setIfInBounds_toArray, List.set_cons_zero, List.set_cons_succ]
                    refine take_yes (i := 28) (d := 50) (v := ?_) rfl rfl (by kernel_rfl) (by kernel_rfl) (by kernel_rfl) (fun _ _ _ h => h) (by kernel_rfl) ?_ hHeld ?_
                    rotate_left
                    · (intro w hSw; (try dsimp only at hSw); go_simp; try (with_reducible rfl))
                    try simp only [Act.put, List.setIfInBounds_toArray, List.set_cons_zero, List.set_cons_succ]
                    refine take_yes (i := 29) (d := 51) (v := ?_) rfl rfl (by kernel_rfl) (by kernel_rfl) (by kernel_rfl) (fun _ _ _ h => h) (by kernel_rfl) ?_ hHeld ?_
                    rotate_left
                    · (intro w hSw; (try dsimp only at hSw); go_simp; try (with_reducible rfl))
                    try simp only [Act.put, List.setIfInBounds_toArray, List.set_cons_zero, List.set_cons_succ]
                    refine take_yes (i := 30) (d := 52) (v := ?_) rfl rfl (by kernel_rfl) (by kernel_rfl) (by kernel_rfl) (fun _ _ _ h => h) (by kernel_rfl) ?_ hHeld ?_
                    rotate_left
                    · (intro w hSw; (try dsimp only at hSw); go_simp; try (with_reducible rfl))
                    try simp only [Act.put, List.setIfInBounds_toArray, List.set_cons_zero, List.set_cons_succ]
                    refine take_yes (i := 31) (d := 53) (v := ?_) rfl rfl (by kernel_rfl) (by kernel_rfl) (by kernel_rfl) (fun _ _ _ h => h) (by kernel_rfl) ?_ hHeld ?_
                    rotate_left
                    · (intro w hSw; (try dsimp only at hSw); go_simp; try (with_reducible rfl))
                    try simp only [Act.put, List.setIfInBounds_toArray, List.set_cons_zero, List.set_cons_succ]
                    refine wpAnyH_done (by kernel_rfl) ?_ _
                    refine NoPanic.normal ?_
                    go_wp2
                    go_roundw
                    case rel => exact ⟨k + 1, by omega, by go_num, HS.out, HB.out.trans ((HWb.out.trans (HB3.out.mono HWb.out.size)).mono HB.out.size)⟩
                    case measure => simp [intOf]; omega
              · have h3c := h3d.symm.trans h3
                clear h3d
                have HN := Lib.hid (propB_no (ss := ss) hlt (show okP ss ps k = false by rw [HK.out, h3c]; simp))
                clear hq HK
                refine wp_region_noPanic ?_
                refine wp_region_held_drew (S := (fun w' => Below W.heap.size W w' ∧ w'.cell? ⟨wr.heap.size, 0, none⟩ = some (.int .i64 q.i) ∧ w'.cell? ⟨wr.heap.size, 1, none⟩ = some (.int .i64 q.a.k) ∧ w'.cell? ⟨wr.heap.size, 2, none⟩ = some (.int .i64 q.a.p) ∧ w'.cell? ⟨wr.heap.size, 3, none⟩ = some (.int .i64 q.a.n) ∧ w'.cell? ⟨wr.heap.size, 4, none⟩ = some (.slice B q.a.ws.length d) ∧ w'.cell? ⟨wr.heap.size, 5, none⟩ = some (.int .i64 q.t))) (by kernel_rfl) ?_ (fun hHeld => ?_)
                · ((try dsimp only); (first | exact ⟨HB4.out, (HB4.out.cell (World.block_lt_of_cell? _ _ x0)).trans x0, (HB4.out.cell (World.block_lt_of_cell? _ _ x1)).trans x1, (HB4.out.cell (World.block_lt_of_cell? _ _ x2)).trans x2, (HB4.out.cell (World.block_lt_of_cell? _ _ x3)).trans x3, (HB4.out.cell (World.block_lt_of_cell? _ _ x4)).trans x4, (HB4.out.cell (World.block_lt_of_cell? _ _ x5)).trans x5⟩ | exact ⟨HB3.out, (HB3.out.cell (World.block_lt_of_cell? _ _ x0)).trans x0, (HB3.out.cell (World.block_lt_of_cell? _ _ x1)).trans x1, (HB3.out.cell (World.block_lt_of_cell? _ _ x2)).trans x2, (HB3.out.cell (World.block_lt_of_cell? _ _ x3)).trans x3, (HB3.out.cell (World.block_lt_of_cell? _ _ x4)).trans x4, (HB3.out.cell (World.block_lt_of_cell? _ _ x5)).trans x5⟩ | exact ⟨HB2.out, (HB2.out.cell (World.block_lt_of_cell? _ _ x0)).trans x0, (HB2.out.cell (World.block_lt_of_cell? _ _ x1)).trans x1, (HB2.out.cell (World.block_lt_of_cell? _ _ x2)).trans x2, (HB2.out.cell (World.block_lt_of_cell? _ _ x3)).trans x3, (HB2.out.cell (World.block_lt_of_cell? _ _ x4)).trans x4, (HB2.out.cell (World.block_lt_of_cell? _ _ x5)).trans x5⟩ | exact ⟨HB1.out, (HB1.out.cell (World.block_lt_of_cell? _ _ x0)).trans x0, (HB1.out.cell (World.block_lt_of_cell? _ _ x1)).trans x1, (HB1.out.cell (World.block_lt_of_cell? _ _ x2)).trans x2, (HB1.out.cell (World.block_lt_of_cell? _ _ x3)).trans x3, (HB1.out.cell (World.block_lt_of_cell? _ _ x4)).trans x4, (HB1.out.cell (World.block_lt_of_cell? _ _ x5)).trans x5⟩ | exact ⟨(Below.refl _ _).drew, x0, x1, x2, x3, x4, x5⟩))
                refine take_yes (i := 0) (d := 22) (v := ?_) rfl rfl (by kernel_rfl) (by kernel_rfl) (by kernel_rfl) (fun _ _ _ h => h) (by kernel_rfl) ?_ hHeld ?_
                rotate_left
                · (intro w hSw; (try dsimp only at hSw); go_simp; try (with_reducible rfl))
                try simp only [Act.put, List.setIfInBounds_toArray, List.set_cons_zero, List.set_cons_succ]
                refine take_yes (i := 1) (d := 23) (v := ?_) rfl rfl (by kernel_rfl) (by kernel_rfl) (by kernel_rfl) (fun _ _ _ h => h) (by kernel_rfl) ?_ hHeld ?_
                rotate_left
                · (intro w hSw; (try dsimp only at hSw); go_simp; try (with_reducible rfl))
                try simp only [Act.put, List.setIfInBounds_toArray, List.set_cons_zero, List.set_cons_succ]
                refine wpAnyH_ready (rs := [2]) (by kernel_rfl) (by simp) ?_
                refine AllReadyH.cons rfl (fun K hK => ?_) AllReadyH.nil
                go_simp
                (go_at_call 81; refine (insideB_any q.i 1 99 _).mono ?_; rintro e w2 ⟨rfl, hb⟩; rw [h1]; have HB1 := Lib.hid ((below_drewN (Below.refl W.heap.size W) 1).trans hb); clear hb)
                (first | refine hK.out _ _ ?_ (fun hHeld1 => ?_) | (go_wp2_with fail; refine hK.out _ _ ?_ (fun hHeld1 => ?_)))
                · ((try dsimp only); (first | exact ⟨HB4.out, (HB4.out.cell (World.block_lt_of_cell? _ _ x0)).trans x0, (HB4.out.cell (World.block_lt_of_cell? _ _ x1)).trans x1, (HB4.out.cell (World.block_lt_of_cell? _ _ x2)).trans x2, (HB4.out.cell (World.block_lt_of_cell? _ _ x3)).trans x3, (HB4.out.cell (World.block_lt_of_cell? _ _ x4)).trans x4, (HB4.out.cell (World.block_lt_of_cell? _ _ x5)).trans x5⟩ | exact ⟨HB3.out, (HB3.out.cell (World.block_lt_of_cell? _ _ x0)).trans x0, (HB3.out.cell (World.block_lt_of_cell? _ _ x1)).trans x1, (HB3.out.cell (World.block_lt_of_cell? _ _ x2)).trans x2, (HB3.out.cell (World.block_lt_of_cell? _ _ x3)).trans x3, (HB3.out.cell (World.block_lt_of_cell? _ _ x4)).trans x4, (HB3.out.cell (World.block_lt_of_cell? _ _ x5)).trans x5⟩ | exact ⟨HB2.out, (HB2.out.cell (World.block_lt_of_cell? _ _ x0)).trans x0, (HB2.out.cell (World.block_lt_of_cell? _ _ x1)).trans x1, (HB2.out.cell (World.block_lt_of_cell? _ _ x2)).trans x2, (HB2.out.cell (World.block_lt_of_cell? _ _ x3)).trans x3, (HB2.out.cell (World.block_lt_of_cell? _ _ x4)).trans x4, (HB2.out.cell (World.block_lt_of_cell? _ _ x5)).trans x5⟩ | exact ⟨HB1.out, (HB1.out.cell (World.block_lt_of_cell? _ _ x0)).trans x0, (HB1.out.cell (World.block_lt_of_cell? _ _ x1)).trans x1, (HB1.out.cell (World.block_lt_of_cell? _ _ x2)).trans x2, (HB1.out.cell (World.block_lt_of_cell? _ _ x3)).trans x3, (HB1.out.cell (World.block_lt_of_cell? _ _ x4)).trans x4, (HB1.out.cell (World.block_lt_of_cell? _ _ x5)).trans x5⟩ | exact ⟨(Below.refl _ _).drew, x0, x1, x2, x3, x4, x5⟩))
                clear hK K hHeld
                have hHeld := hHeld1
                clear hHeld1
                try simp only [Act.put, List.setIfInBounds_toArray, List.set_cons_zero, List.set_cons_succ]
                refine take_yes (i := 3) (d := 25) (v := ?_) rfl rfl (by kernel_rfl) (by kernel_rfl) (by kernel_rfl) (fun _ _ _ h => h) (by kernel_rfl) ?_ hHeld ?_
                rotate_left
                · (intro w hSw; (try dsimp only at hSw); go_simp; try (with_reducible rfl))
                try simp only [Act.put, List.setIfInBounds_toArray, List.set_cons_zero, List.set_cons_succ]
                refine take_yes (i := 4) (d := 26) (v := ?_) rfl rfl (by kernel_rfl) (by kernel_rfl) (by kernel_rfl) (fun _ _ _ h => h) (by kernel_rfl) ?_ hHeld ?_
                rotate_left
                · (intro w hSw; (try dsimp only at hSw); go_simp; try (with_reducible rfl))
                try simp only [Act.put, List.setIfInBounds_toArray, List.set_cons_zero, List.set_cons_succ]
                refine take_yes (i := 5) (d := 27) (v := ?_) rfl rfl (by kernel_rfl) (by kernel_rfl) (by kernel_rfl) (fun _ _ _ h => h) (by kernel_rfl) ?_ hHeld ?_
                rotate_left
                · (intro w hSw; (try dsimp only at hSw); go_simp; try (with_reducible rfl))
                try simp only [Act.put, List.setIfInBounds_toArray, List.set_cons_zero, List.set_cons_succ]
                refine take_yes (i := 6) (d := 28) (v := ?_) rfl rfl (by kernel_rfl) (by kernel_rfl) (by kernel_rfl) (fun _ _ _ h => h) (by kernel_rfl) ?_ hHeld ?_
                rotate_left
                · (intro w hSw; (try dsimp only at hSw); go_simp; try (with_reducible rfl))
                try simp only [Act.put, List.setIfInBounds_toArray, List.set_cons_zero, List.set_cons_succ]
                refine wpAnyH_ready (rs := [7]) (by kernel_rfl) (by simp) ?_
                refine AllReadyH.cons rfl (fun K hK => ?_) AllReadyH.nil
                go_simp
                (go_at_call 81; refine (insideB_any q.t 1 100 _).mono ?_; rintro e w3 ⟨rfl, hb⟩; rw [h2]; have HB2 := Lib.hid (HB1.out.trans (hb.mono HB1.out.size)); clear hb)
                (first | refine hK.out _ _ ?_ (fun hHeld1 => ?_) | (go_wp2_with fail; refine hK.out _ _ ?_ (fun hHeld1 => ?_)))
                · ((try dsimp only); (first | exact ⟨HB4.out, (HB4.out.cell (World.block_lt_of_cell? _ _ x0)).trans x0, (HB4.out.cell (World.block_lt_of_cell? _ _ x1)).trans x1, (HB4.out.cell (World.block_lt_of_cell? _ _ x2)).trans x2, (HB4.out.cell (World.block_lt_of_cell? _ _ x3)).trans x3, (HB4.out.cell (World.block_lt_of_cell? _ _ x4)).trans x4, (HB4.out.cell (World.block_lt_of_cell? _ _ x5)).trans x5⟩ | exact ⟨HB3.out, (HB3.out.cell (World.block_lt_of_cell? _ _ x0)).trans x0, (HB3.out.cell (World.block_lt_of_cell? _ _ x1)).trans x1, (HB3.out.cell (World.block_lt_of_cell? _ _ x2)).trans x2, (HB3.out.cell (World.block_lt_of_cell? _ _ x3)).trans x3, (HB3.out.cell (World.block_lt_of_cell? _ _ x4)).trans x4, (HB3.out.cell (World.block_lt_of_cell? _ _ x5)).trans x5⟩ | exact ⟨HB2.out, (HB2.out.cell (World.block_lt_of_cell? _ _ x0)).trans x0, (HB2.out.cell (World.block_lt_of_cell? _ _ x1)).trans x1, (HB2.out.cell (World.block_lt_of_cell? _ _ x2)).trans x2, (HB2.out.cell (World.block_lt_of_cell? _ _ x3)).trans x3, (HB2.out.cell (World.block_lt_of_cell? _ _ x4)).trans x4, (HB2.out.cell (World.block_lt_of_cell? _ _ x5)).trans x5⟩ | exact ⟨HB1.out, (HB1.out.cell (World.block_lt_of_cell? _ _ x0)).trans x0, (HB1.out.cell (World.block_lt_of_cell? _ _ x1)).trans x1, (HB1.out.cell (World.block_lt_of_cell? _ _ x2)).trans x2, (HB1.out.cell (World.block_lt_of_cell? _ _ x3)).trans x3, (HB1.out.cell (World.block_lt_of_cell? _ _ x4)).trans x4, (HB1.out.cell (World.block_lt_of_cell? _ _ x5)).trans x5⟩ | exact ⟨(Below.refl _ _).drew, x0, x1, x2, x3, x4, x5⟩))
                clear hK K hHeld
                have hHeld := hHeld1
                clear hHeld1
                try simp only [Act.put, List.setIfInBounds_toArray, List.set_cons_zero, List.set_cons_succ]
                refine take_yes (i := 8) (d := 30) (v := ?_) rfl rfl (by kernel_rfl) (by kernel_rfl) (by kernel_rfl) (fun _ _ _ h => h) (by kernel_rfl) ?_ hHeld ?_
                rotate_left
                · (intro w hSw; (try dsimp only at hSw); go_simp; try (with_reducible rfl))
                try simp only [Act.put, List.setIfInBounds_toArray, List.set_cons_zero, List.set_cons_succ]
                refine take_yes (i := 9) (d := 31) (v := ?_) rfl rfl (by kernel_rfl) (by kernel_rfl) (by kernel_rfl) (fun _ _ _ h => h) (by kernel_rfl) ?_ hHeld ?_
                rotate_left
                · (intro w hSw; (try dsimp only at hSw); go_simp; try (with_reducible rfl))
                try simp only [Act.put, List.setIfInBounds_toArray, List.set_cons_zero, List.set_cons_succ]
                refine take_yes (i := 10) (d := 32) (v := ?_) rfl rfl (by kernel_rfl) (by kernel_rfl) (by kernel_rfl) (fun _ _ _ h => h) (by kernel_rfl) ?_ hHeld ?_
                rotate_left
                · (intro w hSw; (try dsimp only at hSw); go_simp; try (with_reducible rfl))
                try simp only [Act.put, List.setIfInBounds_toArray, List.set_cons_zero, List.set_cons_succ]
                refine take_yes (i := 11) (d := 33) (v := ?_) rfl rfl (by kernel_rfl) (by kernel_rfl) (by kernel_rfl) (fun _ _ _ h => h) (by kernel_rfl) ?_ hHeld ?_
                rotate_left
                · (intro w hSw; (try dsimp only at hSw); go_simp; try (with_reducible rfl))
                try simp only [Act.put, List.setIfInBounds_toArray, List.set_cons_zero, List.set_cons_succ]
                refine take_yes (i := 12) (d := 34) (v := ?_) rfl rfl (by kernel_rfl) (by kernel_rfl) (by kernel_rfl) (fun _ _ _ h => h) (by kernel_rfl) ?_ hHeld ?_
                rotate_left
                · (intro w hSw; (try dsimp only at hSw); go_simp; try (with_reducible rfl))
                try simp only [Act.put, List.setIfInBounds_toArray, List.set_cons_zero, List.set_cons_succ]
                refine take_yes (i := 13) (d := 35) (v := ?_) rfl rfl (by kernel_rfl) (by kernel_rfl) (by kernel_rfl) (fun _ _ _ h => h) (by kernel_rfl) ?_ hHeld ?_
                rotate_left
                · (intro w hSw; (try dsimp only at hSw); go_simp; try (with_reducible rfl))
                try simp only [Act.put, List.setIfInBounds_toArray, List.set_cons_zero, List.set_cons_succ]
                refine wpAnyH_ready (rs := [14]) (by kernel_rfl) (by simp) ?_
                refine AllReadyH.cons rfl (fun K hK => ?_) AllReadyH.nil
                go_simp
                (go_at_call 77; refine (canAmend_any T B t d ss q.a _ (HCT.out.below HB2.out) htc hfs (HCV.out.below HB2.out) hfq).mono ?_; rintro e w4 ⟨rfl, hb⟩; rw [h3]; have HB3 := Lib.hid (HB2.out.trans (hb.mono HB2.out.size)); clear hb)
                (first | refine hK.out _ _ ?_ (fun hHeld1 => ?_) | (go_wp2_with fail; refine hK.out _ _ ?_ (fun hHeld1 => ?_)))
                · ((try dsimp only); (first | exact ⟨HB4.out, (HB4.out.cell (World.block_lt_of_cell? _ _ x0)).trans x0, (HB4.out.cell (World.block_lt_of_cell? _ _ x1)).trans x1, (HB4.out.cell (World.block_lt_of_cell? _ _ x2)).trans x2, (HB4.out.cell (World.block_lt_of_cell? _ _ x3)).trans x3, (HB4.out.cell (World.block_lt_of_cell? _ _ x4)).trans x4, (HB4.out.cell (World.block_lt_of_cell? _ _ x5)).trans x5⟩ | exact ⟨HB3.out, (HB3.out.cell (World.block_lt_of_cell? _ _ x0)).trans x0, (HB3.out.cell (World.block_lt_of_cell? _ _ x1)).trans x1, (HB3.out.cell (World.block_lt_of_cell? _ _ x2)).trans x2, (HB3.out.cell (World.block_lt_of_cell? _ _ x3)).trans x3, (HB3.out.cell (World.block_lt_of_cell? _ _ x4)).trans x4, (HB3.out.cell (World.block_lt_of_cell? _ _ x5)).trans x5⟩ | exact ⟨HB2.out, (HB2.out.cell (World.block_lt_of_cell? _ _ x0)).trans x0, (HB2.out.cell (World.block_lt_of_cell? _ _ x1)).trans x1, (HB2.out.cell (World.block_lt_of_cell? _ _ x2)).trans x2, (HB2.out.cell (World.block_lt_of_cell? _ _ x3)).trans x3, (HB2.out.cell (World.block_lt_of_cell? _ _ x4)).trans x4, (HB2.out.cell (World.block_lt_of_cell? _ _ x5)).trans x5⟩ | exact ⟨HB1.out, (HB1.out.cell (World.block_lt_of_cell? _ _ x0)).trans x0, (HB1.out.cell (World.block_lt_of_cell? _ _ x1)).trans x1, (HB1.out.cell (World.block_lt_of_cell? _ _ x2)).trans x2, (HB1.out.cell (World.block_lt_of_cell? _ _ x3)).trans x3, (HB1.out.cell (World.block_lt_of_cell? _ _ x4)).trans x4, (HB1.out.cell (World.block_lt_of_cell? _ _ x5)).trans x5⟩ | exact ⟨(Below.refl _ _).drew, x0, x1, x2, x3, x4, x5⟩))
                clear hK K hHeld
                have hHeld := hHeld1
                clear hHeld1
                try simp only [Act.put, List.setIfInBounds_toArray, List.set_cons_zero, List.set_cons_succ]
                refine take_yes (i := 15) (d := 37) (v := ?_) rfl rfl (by kernel_rfl) (by kernel_rfl) (by kernel_rfl) (fun _ _ _ h => h) (by kernel_rfl) ?_ hHeld ?_
                rotate_left
                · (intro w hSw; (try dsimp only at hSw); go_simp; try (with_reducible rfl))
                try simp only [Act.put, List.setIfInBounds_toArray, List.set_cons_zero, List.set_cons_succ]
                refine take_yes (i := 16) (d := 38) (v := ?_) rfl rfl (by kernel_rfl) (by kernel_rfl) (by kernel_rfl) (fun _ _ _ h => h) (by kernel_rfl) ?_ hHeld ?_
                rotate_left
                · (intro w hSw; (try dsimp only at hSw); go_simp; try (with_reducible rfl))
                try simp only [Act.put, List.setIfInBounds_toArray, List.set_cons_zero, List.set_cons_succ]
                refine take_yes (i := 17) (d := 39) (v := ?_) rfl rfl (by kernel_rfl) (by kernel_rfl) (by kernel_rfl) (fun _ _ _ h => h) (by kernel_rfl) ?_ hHeld ?_
                rotate_left
                · (intro w hSw; (try dsimp only at hSw); go_simp; try (with_reducible rfl))
                try simp only [Act.put, List.setIfInBounds_toArray, List.set_cons_zero, List.set_cons_succ]
                refine take_no (i := 18) (d := 40) rfl rfl (by kernel_rfl) (by kernel_rfl) (by kernel_rfl) (fun _ _ _ h => h) (by kernel_rfl) hHeld ?_
                try simp only [Act.put, List.setIfInBounds_toArray, List.set_cons_zero, List.set_cons_succ]
                refine take_no (i := 19) (d := 41) rfl rfl (by kernel_rfl) (by kernel_rfl) (by kernel_rfl) (fun _ _ _ h => h) (by kernel_rfl) hHeld ?_
                try simp only [Act.put, List.setIfInBounds_toArray, List.set_cons_zero, List.set_cons_succ]
                refine take_no (i := 20) (d := 42) rfl rfl (by kernel_rfl) (by kernel_rfl) (by kernel_rfl) (fun _ _ _ h => h) (by kernel_rfl) hHeld ?_
                try simp only [Act.put, List.setIfInBounds_toArray, List.set_cons_zero, List.set_cons_succ]
                refine take_no (i := 21) (d := 43) rfl rfl (by kernel_rfl) (by kernel_rfl) (by kernel_rfl) (fun _ _ _ h => h) (by kernel_rfl) hHeld ?_
                try simp only [Act.put, List.setIfInBounds_toArray, List.set_cons_zero, List.set_cons_succ]
                refine take_no (i := 22) (d := 44) rfl rfl (by kernel_rfl) (by kernel_rfl) (by kernel_rfl) (fun _ _ _ h => h) (by kernel_rfl) hHeld ?_
                try simp only [Act.put, List.setIfInBounds_toArray, List.set_cons_zero, List.set_cons_succ]
                refine take_no (i := 23) (d := 45) rfl rfl (by kernel_rfl) (by kernel_rfl) (by kernel_rfl) (fun _ _ _ h => h) (by kernel_rfl) hHeld ?_
                try simp only [Act.put, List.setIfInBounds_toArray, List.set_cons_zero, List.set_cons_succ]
                refine take_no (i := 24) (d := 46) rfl rfl (by kernel_rfl) (by kernel_rfl) (by kernel_rfl) (fun _ _ _ h => h) (by kernel_rfl) hHeld ?_
                try simp only [Act.put, List.setIfInBounds_toArray, List.set_cons_zero, List.set_cons_succ]
                refine take_no (i := 25) (d := 47) rfl rfl (by kernel_rfl) (by kernel_rfl) (by kernel_rfl) (fun _ _ _ h => h) (by kernel_rfl) hHeld ?_
                try simp only [Act.put, List.setIfInBounds_toArray, List.set_cons_zero, List.set_cons_succ]
                refine take_no (i := 26) (d := 48) rfl rfl (by kernel_rfl) (by kernel_rfl) (by kernel_rfl) (fun _ _ _ h => h) (by kernel_rfl) hHeld ?_
                try simp only [Act.put, List.setIfInBounds_toArray, List.set_cons_zero, List.set_cons_succ]
                refine take_no (i := 27) (d := 49) rfl rfl (by kernel_rfl) (by kernel_rfl) (by kernel_rfl) (fun _ _ _ h => h) (by kernel_rfl) hHeld ?_
                try simp only [Act.put, List.setIfInBounds_toArray, List.set_cons_zero, List.set_cons_succ]
                refine take_no (i := 28) (d := 50) rfl rfl (by kernel_rfl) (by kernel_rfl) (by kernel_rfl) (fun _ _ _ h => h) (by kernel_rfl) hHeld ?_
                try simp only [Act.put, List.setIfInBounds_toArray, List.set_cons_zero, List.set_cons_succ]
                refine take_no (i := 29) (d := 51) rfl rfl (by kernel_rfl) (by kernel_rfl) (by kernel_rfl) (fun _ _ _ h => h) (by kernel_rfl) hHeld ?_
                try simp only [Act.put, List.setIfInBounds_toArray, List.set_cons_zero, List.set_cons_succ]
                refine take_no (i := 30) (d := 52) rfl rfl (by kernel_rfl) (by kernel_rfl) (by kernel_rfl) (fun _ _ _ h => h) (by kernel_rfl) hHeld ?_
                try simp only [Act.put, List.setIfInBounds_toArray, List.set_cons_zero, List.set_cons_succ]
                refine take_yes (i := 31) (d := 53) (v := ?_) rfl rfl (by kernel_rfl) (by kernel_rfl) (by kernel_rfl) (fun _ _ _ h => h) (by kernel_rfl) ?_ hHeld ?_
                rotate_left
                · (intro w hSw; (try dsimp only at hSw); go_simp; try (with_reducible rfl))
                try simp only [Act.put, List.setIfInBounds_toArray, List.set_cons_zero, List.set_cons_succ]
                refine wpAnyH_done (by kernel_rfl) ?_ _
                refine NoPanic.normal ?_
                go_wp2
                go_ret
                exact ⟨ret_bool HN.out.symm, HB.out.trans ((HWb.out.trans (HB3.out.mono HWb.out.size)).mono HB.out.size)⟩
            · have HN := Lib.hid (propB_no (ss := ss) hlt (show okP ss ps k = false by rw [HK.out, h2]; simp))
              clear hq HK
              refine wp_region_noPanic ?_
              refine wp_region_held_drew (S := (fun w' => Below W.heap.size W w' ∧ w'.cell? ⟨wr.heap.size, 0, none⟩ = some (.int .i64 q.i) ∧ w'.cell? ⟨wr.heap.size, 1, none⟩ = some (.int .i64 q.a.k) ∧ w'.cell? ⟨wr.heap.size, 2, none⟩ = some (.int .i64 q.a.p) ∧ w'.cell? ⟨wr.heap.size, 3, none⟩ = some (.int .i64 q.a.n) ∧ w'.cell? ⟨wr.heap.size, 4, none⟩ = some (.slice B q.a.ws.length d) ∧ w'.cell? ⟨wr.heap.size, 5, none⟩ = some (.int .i64 q.t))) (by kernel_rfl) ?_ (fun hHeld => ?_)
              · ((try dsimp only); (first | exact ⟨HB4.out, (HB4.out.cell (World.block_lt_of_cell? _ _ x0)).trans x0, (HB4.out.cell (World.block_lt_of_cell? _ _ x1)).trans x1, (HB4.out.cell (World.block_lt_of_cell? _ _ x2)).trans x2, (HB4.out.cell (World.block_lt_of_cell? _ _ x3)).trans x3, (HB4.out.cell (World.block_lt_of_cell? _ _ x4)).trans x4, (HB4.out.cell (World.block_lt_of_cell? _ _ x5)).trans x5⟩ | exact ⟨HB3.out, (HB3.out.cell (World.block_lt_of_cell? _ _ x0)).trans x0, (HB3.out.cell (World.block_lt_of_cell? _ _ x1)).trans x1, (HB3.out.cell (World.block_lt_of_cell? _ _ x2)).trans x2, (HB3.out.cell (World.block_lt_of_cell? _ _ x3)).trans x3, (HB3.out.cell (World.block_lt_of_cell? _ _ x4)).trans x4, (HB3.out.cell (World.block_lt_of_cell? _ _ x5)).trans x5⟩ | exact ⟨HB2.out, (HB2.out.cell (World.block_lt_of_cell? _ _ x0)).trans x0, (HB2.out.cell (World.block_lt_of_cell? _ _ x1)).trans x1, (HB2.out.cell (World.block_lt_of_cell? _ _ x2)).trans x2, (HB2.out.cell (World.block_lt_of_cell? _ _ x3)).trans x3, (HB2.out.cell (World.block_lt_of_cell? _ _ x4)).trans x4, (HB2.out.cell (World.block_lt_of_cell? _ _ x5)).trans x5⟩ | exact ⟨HB1.out, (HB1.out.cell (World.block_lt_of_cell? _ _ x0)).trans x0, (HB1.out.cell (World.block_lt_of_cell? _ _ x1)).trans x1, (HB1.out.cell (World.block_lt_of_cell? _ _ x2)).trans x2, (HB1.out.cell (World.block_lt_of_cell? _ _ x3)).trans x3, (HB1.out.cell (World.block_lt_of_cell? _ _ x4)).trans x4, (HB1.out.cell (World.block_lt_of_cell? _ _ x5)).trans x5⟩ | exact ⟨(Below.refl _ _).drew, x0, x1, x2, x3, x4, x5⟩))
              refine take_yes (i := 0) (d := 22) (v := ?_) rfl rfl (by kernel_rfl) (by kernel_rfl) (by kernel_rfl) (fun _ _ _ h => h) (by kernel_rfl) ?_ hHeld ?_
              rotate_left
              · (intro w hSw; (try dsimp only at hSw); go_simp; try (with_reducible rfl))
              try simp only [Act.put, List.setIfInBounds_toArray, List.set_cons_zero, List.set_cons_succ]
              refine take_yes (i := 1) (d := 23) (v := ?_) rfl rfl (by kernel_rfl) (by kernel_rfl) (by kernel_rfl) (fun _ _ _ h => h) (by kernel_rfl) ?_ hHeld ?_
              rotate_left
              · (intro w hSw; (try dsimp only at hSw); go_simp; try (with_reducible rfl))
              try simp only [Act.put, List.setIfInBounds_toArray, List.set_cons_zero, List.set_cons_succ]
              refine wpAnyH_ready (rs := [2]) (by kernel_rfl) (by simp) ?_
              refine AllReadyH.cons rfl (fun K hK => ?_) AllReadyH.nil
              go_simp
              (go_at_call 81; refine (insideB_any q.i 1 99 _).mono ?_; rintro e w2 ⟨rfl, hb⟩; rw [h1]; have HB1 := Lib.hid ((below_drewN (Below.refl W.heap.size W) 1).trans hb); clear hb)
              (first | refine hK.out _ _ ?_ (fun hHeld1 => ?_) | (go_wp2_with fail; refine hK.out _ _ ?_ (fun hHeld1 => ?_)))
              · ((try dsimp only); (first | exact ⟨HB4.out, (HB4.out.cell (World.block_lt_of_cell? _ _ x0)).trans x0, (HB4.out.cell (World.block_lt_of_cell? _ _ x1)).trans x1, (HB4.out.cell (World.block_lt_of_cell? _ _ x2)).trans x2, (HB4.out.cell (World.block_lt_of_cell? _ _ x3)).trans x3, (HB4.out.cell (World.block_lt_of_cell? _ _ x4)).trans x4, (HB4.out.cell (World.block_lt_of_cell? _ _ x5)).trans x5⟩ | exact ⟨HB3.out, (HB3.out.cell (World.block_lt_of_cell? _ _ x0)).trans x0, (HB3.out.cell (World.block_lt_of_cell? _ _ x1)).trans x1, (HB3.out.cell (World.block_lt_of_cell? _ _ x2)).trans x2, (HB3.out.cell (World.block_lt_of_cell? _ _ x3)).trans x3, (HB3.out.cell (World.block_lt_of_cell? _ _ x4)).trans x4, (HB3.out.cell (World.block_lt_of_cell? _ _ x5)).trans x5⟩ | exact ⟨HB2.out, (HB2.out.cell (World.block_lt_of_cell? _ _ x0)).trans x0, (HB2.out.cell (World.block_lt_of_cell? _ _ x1)).trans x1, (HB2.out.cell (World.block_lt_of_cell? _ _ x2)).trans x2, (HB2.out.cell (World.block_lt_of_cell? _ _ x3)).trans x3, (HB2.out.cell (World.block_lt_of_cell? _ _ x4)).trans x4, (HB2.out.cell (World.block_lt_of_cell? _ _ x5)).trans x5⟩ | exact ⟨HB1.out, (HB1.out.cell (World.block_lt_of_cell? _ _ x0)).trans x0, (HB1.out.cell (World.block_lt_of_cell? _ _ x1)).trans x1, (HB1.out.cell (World.block_lt_of_cell? _ _ x2)).trans x2, (HB1.out.cell (World.block_lt_of_cell? _ _ x3)).trans x3, (HB1.out.cell (World.block_lt_of_cell? _ _ x4)).trans x4, (HB1.out.cell (World.block_lt_of_cell? _ _ x5)).trans x5⟩ | exact ⟨(Below.refl _ _).drew, x0, x1, x2, x3, x4, x5⟩))
              clear hK K hHeld
              have hHeld := hHeld1
              clear hHeld1
              try simp only [Act.put, List.setIfInBounds_toArray, List.set_cons_zero, List.set_cons_succ]
              refine take_yes (i := 3) (d := 25) (v := ?_) rfl rfl (by kernel_rfl) (by kernel_rfl) (by kernel_rfl) (fun _ _ _ h => h) (by kernel_rfl) ?_ hHeld ?_
              rotate_left
              · (intro w hSw; (try dsimp only at hSw); go_simp; try (with_reducible rfl))
              try simp only [Act.put, List.setIfInBounds_toArray, List.set_cons_zero, List.set_cons_succ]
              refine take_yes (i := 4) (d := 26) (v := ?_) rfl rfl (by kernel_rfl) (by kernel_rfl) (by kernel_rfl) (fun _ _ _ h => h) (by kernel_rfl) ?_ hHeld ?_
              rotate_left
              · (intro w hSw; (try dsimp only at hSw); go_simp; try (with_reducible rfl))
              try simp only [Act.put, List.setIfInBounds_toArray, List.set_cons_zero, List.set_cons_succ]
              refine take_yes (i := 5) (d := 27) (v := ?_) rfl rfl (by kernel_rfl) (by kernel_rfl) (by kernel_rfl) (fun _ _ _ h => h) (by kernel_rfl) ?_ hHeld ?_
              rotate_left
              · (intro w hSw; (try dsimp only at hSw); go_simp; try (with_reducible rfl))
              try simp only [Act.put, List.setIfInBounds_toArray, List.set_cons_zero, List.set_cons_succ]
              refine take_yes (i := 6) (d := 28) (v := ?_) rfl rfl (by kernel_rfl) (by kernel_rfl) (by kernel_rfl) (fun _ _ _ h => h) (by kernel_rfl) ?_ hHeld ?_
              rotate_left
              · (intro w hSw; (try dsimp only at hSw); go_simp; try (with_reducible rfl))
              try simp only [Act.put, List.setIfInBounds_toArray, List.set_cons_zero, List.set_cons_succ]
              refine wpAnyH_ready (rs := [7]) (by kernel_rfl) (by simp) ?_
              refine AllReadyH.cons rfl (fun K hK => ?_) AllReadyH.nil
              go_simp
              (go_at_call 81; refine (insideB_any q.t 1 100 _).mono ?_; rintro e w3 ⟨rfl, hb⟩; rw [h2]; have HB2 := Lib.hid (HB1.out.trans (hb.mono HB1.out.size)); clear hb)
              (first | refine hK.out _ _ ?_ (fun hHeld1 => ?_) | (go_wp2_with fail; refine hK.out _ _ ?_ (fun hHeld1 => ?_)))
              · ((try dsimp only); (first | exact ⟨HB4.out, (HB4.out.cell (World.block_lt_of_cell? _ _ x0)).trans x0, (HB4.out.cell (World.block_lt_of_cell? _ _ x1)).trans x1, (HB4.out.cell (World.block_lt_of_cell? _ _ x2)).trans x2, (HB4.out.cell (World.block_lt_of_cell? _ _ x3)).trans x3, (HB4.out.cell (World.block_lt_of_cell? _ _ x4)).trans x4, (HB4.out.cell (World.block_lt_of_cell? _ _ x5)).trans x5⟩ | exact ⟨HB3.out, (HB3.out.cell (World.block_lt_of_cell? _ _ x0)).trans x0, (HB3.out.cell (World.block_lt_of_cell? _ _ x1)).trans x1, (HB3.out.cell (World.block_lt_of_cell? _ _ x2)).trans x2, (HB3.out.cell (World.block_lt_of_cell? _ _ x3)).trans x3, (HB3.out.cell (World.block_lt_of_cell? _ _ x4)).trans x4, (HB3.out.cell (World.block_lt_of_cell? _ _ x5)).trans x5⟩ | exact ⟨HB2.out, (HB2.out.cell (World.block_lt_of_cell? _ _ x0)).trans x0, (HB2.out.cell (World.block_lt_of_cell? _ _ x1)).trans x1, (HB2.out.cell (World.block_lt_of_cell? _ _ x2)).trans x2, (HB2.out.cell (World.block_lt_of_cell? _ _ x3)).trans x3, (HB2.out.cell (World.block_lt_of_cell? _ _ x4)).trans x4, (HB2.out.cell (World.block_lt_of_cell? _ _ x5)).trans x5⟩ | exact ⟨HB1.out, (HB1.out.cell (World.block_lt_of_cell? _ _ x0)).trans x0, (HB1.out.cell (World.block_lt_of_cell? _ _ x1)).trans x1, (HB1.out.cell (World.block_lt_of_cell? _ _ x2)).trans x2, (HB1.out.cell (World.block_lt_of_cell? _ _ x3)).trans x3, (HB1.out.cell (World.block_lt_of_cell? _ _ x4)).trans x4, (HB1.out.cell (World.block_lt_of_cell? _ _ x5)).trans x5⟩ | exact ⟨(Below.refl _ _).drew, x0, x1, x2, x3, x4, x5⟩))
              clear hK K hHeld
              have hHeld := hHeld1
              clear hHeld1
              try simp only [Act.put, List.setIfInBounds_toArray, List.set_cons_zero, List.set_cons_succ]
              refine take_yes (i := 8) (d := 30) (v := ?_) rfl rfl (by kernel_rfl) (by kernel_rfl) (by kernel_rfl) (fun _ _ _ h => h) (by kernel_rfl) ?_ hHeld ?_
              rotate_left
              · (intro w hSw; (try dsimp only at hSw); go_simp; try (with_reducible rfl))
              try simp only [Act.put, List.setIfInBounds_toArray, List.set_cons_zero, List.set_cons_succ]
              refine take_yes (i := 9) (d := 31) (v := ?_) rfl rfl (by kernel_rfl) (by kernel_rfl) (by kernel_rfl) (fun _ _ _ h => h) (by kernel_rfl) ?_ hHeld ?_
              rotate_left
              · (intro w hSw; (try dsimp only at hSw); go_simp; try (with_reducible rfl))
              try simp only [Act.put, List.setIfInBounds_toArray, List.set_cons_zero, List.set_cons_succ]
              refine take_yes (i := 10) (d := 32) (v := ?_) rfl rfl (by kernel_rfl) (by kernel_rfl) (by kernel_rfl) (fun _ _ _ h => h) (by kernel_rfl) ?_ hHeld ?_
              rotate_left
              · (intro w hSw; (try dsimp only at hSw); go_simp; try (with_reducible rfl))
              try simp only [Act.put, List.setIfInBounds_toArray, List.set_cons_zero, List.set_cons_succ]
              refine take_no (i := 11) (d := 33) rfl rfl (by kernel_rfl) (by kernel_rfl) (by kernel_rfl) (fun _ _ _ h => h) (by kernel_rfl) hHeld ?_
              try simp only [Act.put, List.setIfInBounds_toArray, List.set_cons_zero, List.set_cons_succ]
              refine take_no (i := 12) (d := 34) rfl rfl (by kernel_rfl) (by kernel_rfl) (by kernel_rfl) (fun _ _ _ h => h) (by kernel_rfl) hHeld ?_
              try simp only [Act.put, List.setIfInBounds_toArray, List.set_cons_zero, List.set_cons_succ]
              refine take_no (i := 13) (d := 35) rfl rfl (by kernel_rfl) (by kernel_rfl) (by kernel_rfl) (fun _ _ _ h => h) (by kernel_rfl) hHeld ?_
              try simp only [Act.put, List.setIfInBounds_toArray, List.set_cons_zero, List.set_cons_succ]
              refine take_no (i := 14) (d := 36) rfl rfl (by kernel_rfl) (by kernel_rfl) (by kernel_rfl) (fun _ _ _ h => h) (by kernel_rfl) hHeld ?_
              try simp only [Act.put, List.setIfInBounds_toArray, List.set_cons_zero, List.set_cons_succ]
              refine take_no (i := 15) (d := 37) rfl rfl (by kernel_rfl) (by kernel_rfl) (by kernel_rfl) (fun _ _ _ h => h) (by kernel_rfl) hHeld ?_
              try simp only [Act.put, List.setIfInBounds_toArray, List.set_cons_zero, List.set_cons_succ]
              refine take_yes (i := 16) (d := 38) (v := ?_) rfl rfl (by kernel_rfl) (by kernel_rfl) (by kernel_rfl) (fun _ _ _ h => h) (by kernel_rfl) ?_ hHeld ?_
              rotate_left
              · (intro w hSw; (try dsimp only at hSw); go_simp; try (with_reducible rfl))
              try simp only [Act.put, List.setIfInBounds_toArray, List.set_cons_zero, List.set_cons_succ]
              refine take_yes (i := 17) (d := 39) (v := ?_) rfl rfl (by kernel_rfl) (by kernel_rfl) (by kernel_rfl) (fun _ _ _ h => h) (by kernel_rfl) ?_ hHeld ?_
              rotate_left
              · (intro w hSw; (try dsimp only at hSw); go_simp; try (with_reducible rfl))
              try simp only [Act.put, List.setIfInBounds_toArray, List.set_cons_zero, List.set_cons_succ]
              refine take_no (i := 18) (d := 40) rfl rfl (by kernel_rfl) (by kernel_rfl) (by kernel_rfl) (fun _ _ _ h => h) (by kernel_rfl) hHeld ?_
              try simp only [Act.put, List.setIfInBounds_toArray, List.set_cons_zero, List.set_cons_succ]
              refine take_no (i := 19) (d := 41) rfl rfl (by kernel_rfl) (by kernel_rfl) (by kernel_rfl) (fun _ _ _ h => h) (by kernel_rfl) hHeld ?_
              try simp only [Act.put, List.setIfInBounds_toArray, List.set_cons_zero, List.set_cons_succ]
              refine take_no (i := 20) (d := 42) rfl rfl (by kernel_rfl) (by kernel_rfl) (by kernel_rfl) (fun _ _ _ h => h) (by kernel_rfl) hHeld ?_
              try simp only [Act.put, List.setIfInBounds_toArray, List.set_cons_zero, List.set_cons_succ]
              refine take_no (i := 21) (d := 43) rfl rfl (by kernel_rfl) (by kernel_rfl) (by kernel_rfl) (fun _ _ _ h => h) (by kernel_rfl) hHeld ?_
              try simp only [Act.put, List.setIfInBounds_toArray, List.set_cons_zero, List.set_cons_succ]
              refine take_no (i := 22) (d := 44) rfl rfl (by kernel_rfl) (by kernel_rfl) (by kernel_rfl) (fun _ _ _ h => h) (by kernel_rfl) hHeld ?_
              try simp only [Act.put, List.setIfInBounds_toArray, List.set_cons_zero, List.set_cons_succ]
              refine take_no (i := 23) (d := 45) rfl rfl (by kernel_rfl) (by kernel_rfl) (by kernel_rfl) (fun _ _ _ h => h) (by kernel_rfl) hHeld ?_
              try simp only [Act.put, List.setIfInBounds_toArray, List.set_cons_zero, List.set_cons_succ]
              refine take_no (i := 24) (d := 46) rfl rfl (by kernel_rfl) (by kernel_rfl) (by kernel_rfl) (fun _ _ _ h => h) (by kernel_rfl) hHeld ?_
              try simp only [Act.put, List.setIfInBounds_toArray, List.set_cons_zero, List.set_cons_succ]
              refine take_no (i := 25) (d := 47) rfl rfl (by kernel_rfl) (by kernel_rfl) (by kernel_rfl) (fun _ _ _ h => h) (by kernel_rfl) hHeld ?_
              try simp only [Act.put, List.setIfInBounds_toArray, List.set_cons_zero, List.set_cons_succ]
              refine take_no (i := 26) (d := 48) rfl rfl (by kernel_rfl) (by kernel_rfl) (by kernel_rfl) (fun _ _ _ h => h) (by kernel_rfl) hHeld ?_
              try simp only [Act.put, List.setIfInBounds_toArray, List.set_cons_zero, List.set_cons_succ]
              refine take_no (i := 27) (d := 49) rfl rfl (by kernel_rfl) (by kernel_rfl) (by kernel_rfl) (fun _ _ _ h => h) (by kernel_rfl) hHeld ?_
              try simp only [Act.put, List.setIfInBounds_toArray, List.set_cons_zero, List.set_cons_succ]
              refine take_no (i := 28) (d := 50) rfl rfl (by kernel_rfl) (by kernel_rfl) (by kernel_rfl) (fun _ _ _ h => h) (by kernel_rfl) hHeld ?_
              try simp only [Act.put, List.setIfInBounds_toArray, List.set_cons_zero, List.set_cons_succ]
              refine take_no (i := 29) (d := 51) rfl rfl (by kernel_rfl) (by kernel_rfl) (by kernel_rfl) (fun _ _ _ h => h) (by kernel_rfl) hHeld ?_
              try simp only [Act.put, List.setIfInBounds_toArray, List.set_cons_zero, List.set_cons_succ]
              refine take_no (i := 30) (d := 52) rfl rfl (by kernel_rfl) (by kernel_rfl) (by kernel_rfl) (fun _ _ _ h => h) (by kernel_rfl) hHeld ?_
              try simp only [Act.put, List.setIfInBounds_toArray, List.set_cons_zero, List.set_cons_succ]
              refine take_yes (i := 31) (d := 53) (v := ?_) rfl rfl (by kernel_rfl) (by kernel_rfl) (by kernel_rfl) (fun _ _ _ h => h) (by kernel_rfl) ?_ hHeld ?_
              rotate_left
              · (intro w hSw; (try dsimp only at hSw); go_simp; try (with_reducible rfl))
              try simp only [Act.put, List.setIfInBounds_toArray, List.set_cons_zero, List.set_cons_succ]
              refine wpAnyH_done (by kernel_rfl) ?_ _
              refine NoPanic.normal ?_
              go_wp2
              go_ret
              exact ⟨ret_bool HN.out.symm, HB.out.trans ((HWb.out.trans (HB2.out.mono HWb.out.size)).mono HB.out.size)⟩
          · have HN := Lib.hid (propB_no (ss := ss) hlt (show okP ss ps k = false by rw [HK.out, h1]; simp))
            clear hq HK
            refine wp_region_noPanic ?_
            refine wp_region_held_drew (S := (fun w' => Below W.heap.size W w' ∧ w'.cell? ⟨wr.heap.size, 0, none⟩ = some (.int .i64 q.i) ∧ w'.cell? ⟨wr.heap.size, 1, none⟩ = some (.int .i64 q.a.k) ∧ w'.cell? ⟨wr.heap.size, 2, none⟩ = some (.int .i64 q.a.p) ∧ w'.cell? ⟨wr.heap.size, 3, none⟩ = some (.int .i64 q.a.n) ∧ w'.cell? ⟨wr.heap.size, 4, none⟩ = some (.slice B q.a.ws.length d) ∧ w'.cell? ⟨wr.heap.size, 5, none⟩ = some (.int .i64 q.t))) (by kernel_rfl) ?_ (fun hHeld => ?_)
            · ((try dsimp only); (first | exact ⟨HB4.out, (HB4.out.cell (World.block_lt_of_cell? _ _ x0)).trans x0, (HB4.out.cell (World.block_lt_of_cell? _ _ x1)).trans x1, (HB4.out.cell (World.block_lt_of_cell? _ _ x2)).trans x2, (HB4.out.cell (World.block_lt_of_cell? _ _ x3)).trans x3, (HB4.out.cell (World.block_lt_of_cell? _ _ x4)).trans x4, (HB4.out.cell (World.block_lt_of_cell? _ _ x5)).trans x5⟩ | exact ⟨HB3.out, (HB3.out.cell (World.block_lt_of_cell? _ _ x0)).trans x0, (HB3.out.cell (World.block_lt_of_cell? _ _ x1)).trans x1, (HB3.out.cell (World.block_lt_of_cell? _ _ x2)).trans x2, (HB3.out.cell (World.block_lt_of_cell? _ _ x3)).trans x3, (HB3.out.cell (World.block_lt_of_cell? _ _ x4)).trans x4, (HB3.out.cell (World.block_lt_of_cell? _ _ x5)).trans x5⟩ | exact ⟨HB2.out, (HB2.out.cell (World.block_lt_of_cell? _ _ x0)).trans x0, (HB2.out.cell (World.block_lt_of_cell? _ _ x1)).trans x1, (HB2.out.cell (World.block_lt_of_cell? _ _ x2)).trans x2, (HB2.out.cell (World.block_lt_of_cell? _ _ x3)).trans x3, (HB2.out.cell (World.block_lt_of_cell? _ _ x4)).trans x4, (HB2.out.cell (World.block_lt_of_cell? _ _ x5)).trans x5⟩ | exact ⟨HB1.out, (HB1.out.cell (World.block_lt_of_cell? _ _ x0)).trans x0, (HB1.out.cell (World.block_lt_of_cell? _ _ x1)).trans x1, (HB1.out.cell (World.block_lt_of_cell? _ _ x2)).trans x2, (HB1.out.cell (World.block_lt_of_cell? _ _ x3)).trans x3, (HB1.out.cell (World.block_lt_of_cell? _ _ x4)).trans x4, (HB1.out.cell (World.block_lt_of_cell? _ _ x5)).trans x5⟩ | exact ⟨(Below.refl _ _).drew, x0, x1, x2, x3, x4, x5⟩))
            refine take_yes (i := 0) (d := 22) (v := ?_) rfl rfl (by kernel_rfl) (by kernel_rfl) (by kernel_rfl) (fun _ _ _ h => h) (by kernel_rfl) ?_ hHeld ?_
            rotate_left
            · (intro w hSw; (try dsimp only at hSw); go_simp; try (with_reducible rfl))
            try simp only [Act.put, List.setIfInBounds_toArray, List.set_cons_zero, List.set_cons_succ]
            refine take_yes (i := 1) (d := 23) (v := ?_) rfl rfl (by kernel_rfl) (by kernel_rfl) (by kernel_rfl) (fun _ _ _ h => h) (by kernel_rfl) ?_ hHeld ?_
            rotate_left
            · (intro w hSw; (try dsimp only at hSw); go_simp; try (with_reducible rfl))
            try simp only [Act.put, List.setIfInBounds_toArray, List.set_cons_zero, List.set_cons_succ]
            refine wpAnyH_ready (rs := [2]) (by kernel_rfl) (by simp) ?_
            refine AllReadyH.cons rfl (fun K hK => ?_) AllReadyH.nil
            go_simp
            (go_at_call 81; refine (insideB_any q.i 1 99 _).mono ?_; rintro e w2 ⟨rfl, hb⟩; rw [h1]; have HB1 := Lib.hid ((below_drewN (Below.refl W.heap.size W) 1).trans hb); clear hb)
            (first | refine hK.out _ _ ?_ (fun hHeld1 => ?_) | (go_wp2_with fail; refine hK.out _ _ ?_ (fun hHeld1 => ?_)))
            · ((try dsimp only); (first | exact ⟨HB4.out, (HB4.out.cell (World.block_lt_of_cell? _ _ x0)).trans x0, (HB4.out.cell (World.block_lt_of_cell? _ _ x1)).trans x1, (HB4.out.cell (World.block_lt_of_cell? _ _ x2)).trans x2, (HB4.out.cell (World.block_lt_of_cell? _ _ x3)).trans x3, (HB4.out.cell (World.block_lt_of_cell? _ _ x4)).trans x4, (HB4.out.cell (World.block_lt_of_cell? _ _ x5)).trans x5⟩ | exact ⟨HB3.out, (HB3.out.cell (World.block_lt_of_cell? _ _ x0)).trans x0, (HB3.out.cell (World.block_lt_of_cell? _ _ x1)).trans x1, (HB3.out.cell (World.block_lt_of_cell? _ _ x2)).trans x2, (HB3.out.cell (World.block_lt_of_cell? _ _ x3)).trans x3, (HB3.out.cell (World.block_lt_of_cell? _ _ x4)).trans x4, (HB3.out.cell (World.block_lt_of_cell? _ _ x5)).trans x5⟩ | exact ⟨HB2.out, (HB2.out.cell (World.block_lt_of_cell? _ _ x0)).trans x0, (HB2.out.cell (World.block_lt_of_cell? _ _ x1)).trans x1, (HB2.out.cell (World.block_lt_of_cell? _ _ x2)).trans x2, (HB2.out.cell (World.block_lt_of_cell? _ _ x3)).trans x3, (HB2.out.cell (World.block_lt_of_cell? _ _ x4)).trans x4, (HB2.out.cell (World.block_lt_of_cell? _ _ x5)).trans x5⟩ | exact ⟨HB1.out, (HB1.out.cell (World.block_lt_of_cell? _ _ x0)).trans x0, (HB1.out.cell (World.block_lt_of_cell? _ _ x1)).trans x1, (HB1.out.cell (World.block_lt_of_cell? _ _ x2)).trans x2, (HB1.out.cell (World.block_lt_of_cell? _ _ x3)).trans x3, (HB1.out.cell (World.block_lt_of_cell? _ _ x4)).trans x4, (HB1.out.cell (World.block_lt_of_cell? _ _ x5)).trans x5⟩ | exact ⟨(Below.refl _ _).drew, x0, x1, x2, x3, x4, x5⟩))
            clear hK K hHeld
            have hHeld := hHeld1
            clear hHeld1
            try simp only [Act.put, List.setIfInBounds_toArray, List.set_cons_zero, List.set_cons_succ]
            refine take_yes (i := 3) (d := 25) (v := ?_) rfl rfl (by kernel_rfl) (by kernel_rfl) (by kernel_rfl) (fun _ _ _ h => h) (by kernel_rfl) ?_ hHeld ?_
            rotate_left
            · (intro w hSw; (try dsimp only at hSw); go_simp; try (with_reducible rfl))
            try simp only [Act.put, List.setIfInBounds_toArray, List.set_cons_zero, List.set_cons_succ]
            refine take_yes (i := 4) (d := 26) (v := ?_) rfl rfl (by kernel_rfl) (by kernel_rfl) (by kernel_rfl) (fun _ _ _ h => h) (by kernel_rfl) ?_ hHeld ?_
            rotate_left
            · (intro w hSw; (try dsimp only at hSw); go_simp; try (with_reducible rfl))
            try simp only [Act.put, List.setIfInBounds_toArray, List.set_cons_zero, List.set_cons_succ]
            refine take_no (i := 5) (d := 27) rfl rfl (by kernel_rfl) (by kernel_rfl) (by kernel_rfl) (fun _ _ _ h => h) (by kernel_rfl) hHeld ?_
            try simp only [Act.put, List.setIfInBounds_toArray, List.set_cons_zero, List.set_cons_succ]
            refine take_no (i := 6) (d := 28) rfl rfl (by kernel_rfl) (by kernel_rfl) (by kernel_rfl) (fun _ _ _ h => h) (by kernel_rfl) hHeld ?_
            try simp only [Act.put, List.setIfInBounds_toArray, List.set_cons_zero, List.set_cons_succ]
            refine take_no (i := 7) (d := 29) rfl rfl (by kernel_rfl) (by kernel_rfl) (by kernel_rfl) (fun _ _ _ h => h) (by kernel_rfl) hHeld ?_
            try simp only [Act.put, List.setIfInBounds_toArray, List.set_cons_zero, List.set_cons_succ]
            refine take_no (i := 8) (d := 30) rfl rfl (by kernel_rfl) (by kernel_rfl) (by kernel_rfl) (fun _ _ _ h => h) (by kernel_rfl) hHeld ?_
            try simp only [Act.put, List.setIfInBounds_toArray, List.set_cons_zero, List.set_cons_succ]
            refine take_yes (i := 9) (d := 31) (v := ?_) rfl rfl (by kernel_rfl) (by kernel_rfl) (by kernel_rfl) (fun _ _ _ h => h) (by kernel_rfl) ?_ hHeld ?_
            rotate_left
            · (intro w hSw; (try dsimp only at hSw); go_simp; try (with_reducible rfl))
            try simp only [Act.put, List.setIfInBounds_toArray, List.set_cons_zero, List.set_cons_succ]
            refine take_yes (i := 10) (d := 32) (v := ?_) rfl rfl (by kernel_rfl) (by kernel_rfl) (by kernel_rfl) (fun _ _ _ h => h) (by kernel_rfl) ?_ hHeld ?_
            rotate_left
            · (intro w hSw; (try dsimp only at hSw); go_simp; try (with_reducible rfl))
            try simp only [Act.put, List.setIfInBounds_toArray, List.set_cons_zero, List.set_cons_succ]
            refine take_no (i := 11) (d := 33) rfl rfl (by kernel_rfl) (by kernel_rfl) (by kernel_rfl) (fun _ _ _ h => h) (by kernel_rfl) hHeld ?_
            try simp only [Act.put, List.setIfInBounds_toArray, List.set_cons_zero, List.set_cons_succ]
            refine take_no (i := 12) (d := 34) rfl rfl (by kernel_rfl) (by kernel_rfl) (by kernel_rfl) (fun _ _ _ h => h) (by kernel_rfl) hHeld ?_
            try simp only [Act.put, List.setIfInBounds_toArray, List.set_cons_zero, List.set_cons_succ]
            refine take_no (i := 13) (d := 35) rfl rfl (by kernel_rfl) (by kernel_rfl) (by kernel_rfl) (fun _ _ _ h => h) (by kernel_rfl) hHeld ?_
            try simp only [Act.put, List.setIfInBounds_toArray, List.set_cons_zero, List.set_cons_succ]
            refine take_no (i := 14) (d := 36) rfl rfl (by kernel_rfl) (by kernel_rfl) (by kernel_rfl) (fun _ _ _ h => h) (by kernel_rfl) hHeld ?_
            try simp only [Act.put, List.setIfInBounds_toArray, List.set_cons_zero, List.set_cons_succ]
            refine take_no (i := 15) (d := 37) rfl rfl (by kernel_rfl) (by kernel_rfl) (by kernel_rfl) (fun _ _ _ h => h) (by kernel_rfl) hHeld ?_
            try simp only [Act.put, List.setIfInBounds_toArray, List.set_cons_zero, List.set_cons_succ]
            refine take_yes (i := 16) (d := 38) (v := ?_) rfl rfl (by kernel_rfl) (by kernel_rfl) (by kernel_rfl) (fun _ _ _ h => h) (by kernel_rfl) ?_ hHeld ?_
            rotate_left
            · (intro w hSw; (try dsimp only at hSw); go_simp; try (with_reducible rfl))
            try simp only [Act.put, List.setIfInBounds_toArray, List.set_cons_zero, List.set_cons_succ]
            refine take_yes (i := 17) (d := 39) (v := ?_) rfl rfl (by kernel_rfl) (by kernel_rfl) (by kernel_rfl) (fun _ _ _ h => h) (by kernel_rfl) ?_ hHeld ?_
            rotate_left
            · (intro w hSw; (try dsimp only at hSw); go_simp; try (with_reducible rfl))
            try simp only [Act.put, List.setIfInBounds_toArray, List.set_cons_zero, List.set_cons_succ]
            refine take_no (i := 18) (d := 40) rfl rfl (by kernel_rfl) (by kernel_rfl) (by kernel_rfl) (fun _ _ _ h => h) (by kernel_rfl) hHeld ?_
            try simp only [Act.put, List.setIfInBounds_toArray, List.set_cons_zero, List.set_cons_succ]
            refine take_no (i := 19) (d := 41) rfl rfl (by kernel_rfl) (by kernel_rfl) (by kernel_rfl) (fun _ _ _ h => h) (by kernel_rfl) hHeld ?_
            try simp only [Act.put, List.setIfInBounds_toArray, List.set_cons_zero, List.set_cons_succ]
            refine take_no (i := 20) (d := 42) rfl rfl (by kernel_rfl) (by kernel_rfl) (by kernel_rfl) (fun _ _ _ h => h) (by kernel_rfl) hHeld ?_
            try simp only [Act.put, List.setIfInBounds_toArray, List.set_cons_zero, List.set_cons_succ]
            refine take_no (i := 21) (d := 43) rfl rfl (by kernel_rfl) (by kernel_rfl) (by kernel_rfl) (fun _ _ _ h => h) (by kernel_rfl) hHeld ?_
            try simp only [Act.put, List.setIfInBounds_toArray, List.set_cons_zero, List.set_cons_succ]
            refine take_no (i := 22) (d := 44) rfl rfl (by kernel_rfl) (by kernel_rfl) (by kernel_rfl) (fun _ _ _ h => h) (by kernel_rfl) hHeld ?_
            try simp only [Act.put, List.setIfInBounds_toArray, List.set_cons_zero, List.set_cons_succ]
            refine take_no (i := 23) (d := 45) rfl rfl (by kernel_rfl) (by kernel_rfl) (by kernel_rfl) (fun _ _ _ h => h) (by kernel_rfl) hHeld ?_
            try simp only [Act.put, List.setIfInBounds_toArray, List.set_cons_zero, List.set_cons_succ]
            refine take_no (i := 24) (d := 46) rfl rfl (by kernel_rfl) (by kernel_rfl) (by kernel_rfl) (fun _ _ _ h => h) (by kernel_rfl) hHeld ?_
            try simp only [Act.put, List.setIfInBounds_toArray, List.set_cons_zero, List.set_cons_succ]
            refine take_no (i := 25) (d := 47) rfl rfl (by kernel_rfl) (by kernel_rfl) (by kernel_rfl) (fun _ _ _ h => h) (by kernel_rfl) hHeld ?_
            try simp only [Act.put, List.setIfInBounds_toArray, List.set_cons_zero, List.set_cons_succ]
            refine take_no (i := 26) (d := 48) rfl rfl (by kernel_rfl) (by kernel_rfl) (by kernel_rfl) (fun _ _ _ h => h) (by kernel_rfl) hHeld ?_
            try simp only [Act.put, List.setIfInBounds_toArray, List.set_cons_zero, List.set_cons_succ]
            refine take_no (i := 27) (d := 49) rfl rfl (by kernel_rfl) (by kernel_rfl) (by kernel_rfl) (fun _ _ _ h => h) (by kernel_rfl) hHeld ?_
            try simp only [Act.put, List.setIfInBounds_toArray, List.set_cons_zero, List.set_cons_succ]
            refine take_no (i := 28) (d := 50) rfl rfl (by kernel_rfl) (by kernel_rfl) (by kernel_rfl) (fun _ _ _ h => h) (by kernel_rfl) hHeld ?_
            try simp only [Act.put, List.setIfInBounds_toArray, List.set_cons_zero, List.set_cons_succ]
            refine take_no (i := 29) (d := 51) rfl rfl (by kernel_rfl) (by kernel_rfl) (by kernel_rfl) (fun _ _ _ h => h) (by kernel_rfl) hHeld ?_
            try simp only [Act.put, List.setIfInBounds_toArray, List.set_cons_zero, List.set_cons_succ]
            refine take_no (i := 30) (d := 52) rfl rfl (by kernel_rfl) (by kernel_rfl) (by kernel_rfl) (fun _ _ _ h => h) (by kernel_rfl) hHeld ?_
            try simp only [Act.put, List.setIfInBounds_toArray, List.set_cons_zero, List.set_cons_succ]
            refine take_yes (i := 31) (d := 53) (v := ?_) rfl rfl (by kernel_rfl) (by kernel_rfl) (by kernel_rfl) (fun _ _ _ h => h) (by kernel_rfl) ?_ hHeld ?_
            rotate_left
            · (intro w hSw; (try dsimp only at hSw); go_simp; try (with_reducible rfl))
            try simp only [Act.put, List.setIfInBounds_toArray, List.set_cons_zero, List.set_cons_succ]
            refine wpAnyH_done (by kernel_rfl) ?_ _
            refine NoPanic.normal ?_
            go_wp2
            go_ret
            exact ⟨ret_bool HN.out.symm, HB.out.trans ((HWb.out.trans (HB1.out.mono HWb.out.size)).mono HB.out.size)⟩
        · obtain rfl : k = ps.length := by omega
          have HA := Lib.hid (HR.out.trans hq.out)
          go_wp2
          go_ret
          exact ⟨ret_bool HA.out.symm, HB.out⟩
    · have HR := Lib.hid (show propB ss ps = false by unfold propB; rw [decide_eq_false h6]; simp)
      go_enter Try.func48, Try.ntmps48
      go_wp2_with (go_at_call 27; refine (HV.out _ HT.out).mono ?_; rintro e w1 ⟨rfl, rfl⟩; rw [hr])
      go_ret
      exact ⟨ret_bool HR.out.symm, by first | exact Below.refl _ _ | exact (Below.refl _ _).drew⟩
  · have HR := Lib.hid (show propB ss ps = false by unfold propB; rw [hr]; simp)
    go_enter Try.func48, Try.ntmps48
    go_wp2_with (go_at_call 27; refine (HV.out _ HT.out).mono ?_; rintro e w1 ⟨rfl, rfl⟩; rw [hr])
    go_ret
    exact ⟨ret_bool HR.out.symm, by first | exact Below.refl _ _ | exact (Below.refl _ _).drew⟩
set_option maxHeartbeats 4000000 in
set_option maxRecDepth 100000 in
theorem l10Good_any (T A : Option Addr) (t c : Nat) (ss : List ByteArray) (ps : List Prp) (w : World) (hT : Cells w T (strs ss)) (htc : ss.length ≤ t) (hfs : Fit ss) (hd : DL w A c ps) (hf : FitP ps) :
    Calls Try.prog 94 #[.slice T ss.length t, .slice A ps.length c] w fun e w' => e = .returned (.bool (propB ss ps)) ∧ Below w.heap.size w w' := by
  have HT := Lib.hid hT
  have HD := Lib.hid hd
  have HV := Lib.hid (fun W h => l9Text_any T t ss W h hfs.1 hfs.2)
  have HFP := Lib.hid hf.2.1
  have hn := hf.1
  clear hT hd hf
  rcases Bool.eq_false_or_eq_true (wordsB ss 0 20) with hr | hr
  · by_cases h6 : (ps.length : Int) ≤ 8
    · have HR := Lib.hid (show propB ss ps = allN (okP ss ps) ps.length by unfold propB; rw [hr, decide_eq_true h6]; simp)
      go_enter Try.func94, Try.ntmps94
      go_wp2_with (go_at_call 65; refine (HV.out _ HT.out).mono ?_; rintro e w1 ⟨rfl, rfl⟩; rw [hr])
      go_loopw [5] (fun i wr => ∃ k : Nat, k ≤ ps.length ∧ i = .int .i64 k ∧ Hid (allN (okP ss ps) k = true) ∧ Below w.heap.size w wr) (fun i _ => ps.length - (intOf i).toNat)
      case atStart => exact ⟨0, Nat.zero_le _, rfl, rfl, by first | exact Below.refl _ _ | exact (Below.refl _ _).drew⟩
      case round =>
        obtain ⟨k, hk, rfl, hq, hB⟩ := hrel
        have HB := Lib.hid hB
        clear hB
        by_cases hlt : k < ps.length
        · obtain ⟨a, B, d, rfl, ⟨hc0, hc1, hc2, hc3, hc4, hc5⟩, hle, hcw⟩ := (HD.out.below HB.out).at_ hlt
          have i1 : (k : Int) < (ps.length : Int) := by omega
          have hfq := HFP.out _ (List.getElem_mem hlt)
          have HK := Lib.hid (okP_eq hlt (ss := ss))
          obtain ⟨q, hqq⟩ : ∃ q, Hid (ps[k] = q) := ⟨_, Lib.hid rfl⟩
          rw [hqq.out] at hc0 hc1 hc2 hc3 hc4 hc5 hle hcw hfq HK
          go_wp2_with fail
          have hW := below1 wr (.cells #[.int .i64 q.i, .int .i64 q.a.k, .int .i64 q.a.p, .int .i64 q.a.n, .slice B q.a.ws.length d, .int .i64 q.t] 65)
          have HCT := Lib.hid ((HT.out.below HB.out).below hW)
          have HCV := Lib.hid (hcw.below hW)
          have HWb := Lib.hid hW
          have nb := BoxF.new wr #[.int .i64 q.i, .int .i64 q.a.k, .int .i64 q.a.p, .int .i64 q.a.n, .slice B q.a.ws.length d, .int .i64 q.t] 65
          generalize wr.alloc (.cells #[.int .i64 q.i, .int .i64 q.a.k, .int .i64 q.a.p, .int .i64 q.a.n, .slice B q.a.ws.length d, .int .i64 q.t] 65) = W at *
          have x0 := nb.1 0 _ rfl
          have x1 := nb.1 1 _ rfl
          have x2 := nb.1 2 _ rfl
          have x3 := nb.1 3 _ rfl
          have x4 := nb.1 4 _ rfl
          have x5 := nb.1 5 _ rfl
          clear nb hW hc0 hc1 hc2 hc3 hc4 hc5 hcw
          rcases Bool.eq_false_or_eq_true (inB q.i 1 99) with h1 | h1
          · rcases Bool.eq_false_or_eq_true (inB q.t 1 100) with h2 | h2
            · rcases Bool.eq_false_or_eq_true (vldA q.a) with h3 | h3
              · rcases Bool.eq_false_or_eq_true (fitsB ss q.a) with h4 | h4
                · have HK2 : okP ss ps k = (k == 0 || decide ((ps[k - 1]'(by omega)).i < q.i)) := by rw [HK.out, h1, h2, h3, h4]; simp
                  by_cases hk0 : k = 0
                  · have HS := Lib.hid (allN_step hq.out (show okP ss ps k = true by rw [HK2]; simp [hk0]))
                    have q9 : decide ((0 : Int) < (k : Int)) = false := decide_eq_false (by omega)
                    have q5 : decide (0 < k) = false := decide_eq_false (by omega)
                    clear hq HK HK2 hk0
                    refine wp_region_noPanic ?_
                    refine wp_region_held_drew (S := (fun w' => Below W.heap.size W w' ∧ w'.cell? ⟨wr.heap.size, 0, none⟩ = some (.int .i64 q.i) ∧ w'.cell? ⟨wr.heap.size, 1, none⟩ = some (.int .i64 q.a.k) ∧ w'.cell? ⟨wr.heap.size, 2, none⟩ = some (.int .i64 q.a.p) ∧ w'.cell? ⟨wr.heap.size, 3, none⟩ = some (.int .i64 q.a.n) ∧ w'.cell? ⟨wr.heap.size, 4, none⟩ = some (.slice B q.a.ws.length d) ∧ w'.cell? ⟨wr.heap.size, 5, none⟩ = some (.int .i64 q.t))) (by kernel_rfl) ?_ (fun hHeld => ?_)
                    · ((try dsimp only); (first | exact ⟨HB4.out, (HB4.out.cell (World.block_lt_of_cell? _ _ x0)).trans x0, (HB4.out.cell (World.block_lt_of_cell? _ _ x1)).trans x1, (HB4.out.cell (World.block_lt_of_cell? _ _ x2)).trans x2, (HB4.out.cell (World.block_lt_of_cell? _ _ x3)).trans x3, (HB4.out.cell (World.block_lt_of_cell? _ _ x4)).trans x4, (HB4.out.cell (World.block_lt_of_cell? _ _ x5)).trans x5⟩ | exact ⟨HB3.out, (HB3.out.cell (World.block_lt_of_cell? _ _ x0)).trans x0, (HB3.out.cell (World.block_lt_of_cell? _ _ x1)).trans x1, (HB3.out.cell (World.block_lt_of_cell? _ _ x2)).trans x2, (HB3.out.cell (World.block_lt_of_cell? _ _ x3)).trans x3, (HB3.out.cell (World.block_lt_of_cell? _ _ x4)).trans x4, (HB3.out.cell (World.block_lt_of_cell? _ _ x5)).trans x5⟩ | exact ⟨HB2.out, (HB2.out.cell (World.block_lt_of_cell? _ _ x0)).trans x0, (HB2.out.cell (World.block_lt_of_cell? _ _ x1)).trans x1, (HB2.out.cell (World.block_lt_of_cell? _ _ x2)).trans x2, (HB2.out.cell (World.block_lt_of_cell? _ _ x3)).trans x3, (HB2.out.cell (World.block_lt_of_cell? _ _ x4)).trans x4, (HB2.out.cell (World.block_lt_of_cell? _ _ x5)).trans x5⟩ | exact ⟨HB1.out, (HB1.out.cell (World.block_lt_of_cell? _ _ x0)).trans x0, (HB1.out.cell (World.block_lt_of_cell? _ _ x1)).trans x1, (HB1.out.cell (World.block_lt_of_cell? _ _ x2)).trans x2, (HB1.out.cell (World.block_lt_of_cell? _ _ x3)).trans x3, (HB1.out.cell (World.block_lt_of_cell? _ _ x4)).trans x4, (HB1.out.cell (World.block_lt_of_cell? _ _ x5)).trans x5⟩ | exact ⟨(Below.refl _ _).drew, x0, x1, x2, x3, x4, x5⟩))
                    refine take_yes (i := 0) (d := 25) (v := ?_) rfl rfl (by kernel_rfl) (by kernel_rfl) (by kernel_rfl) (fun _ _ _ h => h) (by kernel_rfl) ?_ hHeld ?_
                    rotate_left
                    · (intro w hSw; (try dsimp only at hSw); go_simp; try (with_reducible rfl))
                    try simp only [Act.put, List.setIfInBounds_toArray, List.set_cons_zero, List.set_cons_succ]
                    refine take_yes (i := 1) (d := 26) (v := ?_) rfl rfl (by kernel_rfl) (by kernel_rfl) (by kernel_rfl) (fun _ _ _ h => h) (by kernel_rfl) ?_ hHeld ?_
                    rotate_left
                    · (intro w hSw; (try dsimp only at hSw); go_simp; try (with_reducible rfl))
                    try simp only [Act.put, List.setIfInBounds_toArray, List.set_cons_zero, List.set_cons_succ]
                    refine wpAnyH_ready (rs := [2]) (by kernel_rfl) (by simp) ?_
                    refine AllReadyH.cons rfl (fun K hK => ?_) AllReadyH.nil
                    go_simp
                    (go_at_call 109; refine (l1InB_any q.i 1 99 _).mono ?_; rintro e w2 ⟨rfl, hb⟩; rw [h1]; have HB1 := Lib.hid ((below_drewN (Below.refl W.heap.size W) 1).trans hb); clear hb)
                    (first | refine hK.out _ _ ?_ (fun hHeld1 => ?_) | (go_wp2_with fail; refine hK.out _ _ ?_ (fun hHeld1 => ?_)))
                    · ((try dsimp only); (first | exact ⟨HB4.out, (HB4.out.cell (World.block_lt_of_cell? _ _ x0)).trans x0, (HB4.out.cell (World.block_lt_of_cell? _ _ x1)).trans x1, (HB4.out.cell (World.block_lt_of_cell? _ _ x2)).trans x2, (HB4.out.cell (World.block_lt_of_cell? _ _ x3)).trans x3, (HB4.out.cell (World.block_lt_of_cell? _ _ x4)).trans x4, (HB4.out.cell (World.block_lt_of_cell? _ _ x5)).trans x5⟩ | exact ⟨HB3.out, (HB3.out.cell (World.block_lt_of_cell? _ _ x0)).trans x0, (HB3.out.cell (World.block_lt_of_cell? _ _ x1)).trans x1, (HB3.out.cell (World.block_lt_of_cell? _ _ x2)).trans x2, (HB3.out.cell (World.block_lt_of_cell? _ _ x3)).trans x3, (HB3.out.cell (World.block_lt_of_cell? _ _ x4)).trans x4, (HB3.out.cell (World.block_lt_of_cell? _ _ x5)).trans x5⟩ | exact ⟨HB2.out, (HB2.out.cell (World.block_lt_of_cell? _ _ x0)).trans x0, (HB2.out.cell (World.block_lt_of_cell? _ _ x1)).trans x1, (HB2.out.cell (World.block_lt_of_cell? _ _ x2)).trans x2, (HB2.out.cell (World.block_lt_of_cell? _ _ x3)).trans x3, (HB2.out.cell (World.block_lt_of_cell? _ _ x4)).trans x4, (HB2.out.cell (World.block_lt_of_cell? _ _ x5)).trans x5⟩ | exact ⟨HB1.out, (HB1.out.cell (World.block_lt_of_cell? _ _ x0)).trans x0, (HB1.out.cell (World.block_lt_of_cell? _ _ x1)).trans x1, (HB1.out.cell (World.block_lt_of_cell? _ _ x2)).trans x2, (HB1.out.cell (World.block_lt_of_cell? _ _ x3)).trans x3, (HB1.out.cell (World.block_lt_of_cell? _ _ x4)).trans x4, (HB1.out.cell (World.block_lt_of_cell? _ _ x5)).trans x5⟩ | exact ⟨(Below.refl _ _).drew, x0, x1, x2, x3, x4, x5⟩))
                    clear hK K hHeld
                    have hHeld := hHeld1
                    clear hHeld1
                    try simp only [Act.put, List.setIfInBounds_toArray, List.set_cons_zero, List.set_cons_succ]
                    refine take_yes (i := 3) (d := 28) (v := ?_) rfl rfl (by kernel_rfl) (by kernel_rfl) (by kernel_rfl) (fun _ _ _ h => h) (by kernel_rfl) ?_ hHeld ?_
                    rotate_left
                    · (intro w hSw; (try dsimp only at hSw); go_simp; try (with_reducible rfl))
                    try simp only [Act.put, List.setIfInBounds_toArray, List.set_cons_zero, List.set_cons_succ]
                    refine take_yes (i := 4) (d := 29) (v := ?_) rfl rfl (by kernel_rfl) (by kernel_rfl) (by kernel_rfl) (fun _ _ _ h => h) (by kernel_rfl) ?_ hHeld ?_
                    rotate_left
                    · (intro w hSw; (try dsimp only at hSw); go_simp; try (with_reducible rfl))
                    try simp only [Act.put, List.setIfInBounds_toArray, List.set_cons_zero, List.set_cons_succ]
                    refine take_yes (i := 5) (d := 30) (v := ?_) rfl rfl (by kernel_rfl) (by kernel_rfl) (by kernel_rfl) (fun _ _ _ h => h) (by kernel_rfl) ?_ hHeld ?_
                    rotate_left
                    · (intro w hSw; (try dsimp only at hSw); go_simp; try (with_reducible rfl))
                    try simp only [Act.put, List.setIfInBounds_toArray, List.set_cons_zero, List.set_cons_succ]
                    refine take_yes (i := 6) (d := 31) (v := ?_) rfl rfl (by kernel_rfl) (by kernel_rfl) (by kernel_rfl) (fun _ _ _ h => h) (by kernel_rfl) ?_ hHeld ?_
                    rotate_left
                    · (intro w hSw; (try dsimp only at hSw); go_simp; try (with_reducible rfl))
                    try simp only [Act.put, List.setIfInBounds_toArray, List.set_cons_zero, List.set_cons_succ]
                    refine wpAnyH_ready (rs := [7]) (by kernel_rfl) (by simp) ?_
                    refine AllReadyH.cons rfl (fun K hK => ?_) AllReadyH.nil
                    go_simp
                    (go_at_call 109; refine (l1InB_any q.t 1 100 _).mono ?_; rintro e w3 ⟨rfl, hb⟩; rw [h2]; have HB2 := Lib.hid (HB1.out.trans (hb.mono HB1.out.size)); clear hb)
                    (first | refine hK.out _ _ ?_ (fun hHeld1 => ?_) | (go_wp2_with fail; refine hK.out _ _ ?_ (fun hHeld1 => ?_)))
                    · ((try dsimp only); (first | exact ⟨HB4.out, (HB4.out.cell (World.block_lt_of_cell? _ _ x0)).trans x0, (HB4.out.cell (World.block_lt_of_cell? _ _ x1)).trans x1, (HB4.out.cell (World.block_lt_of_cell? _ _ x2)).trans x2, (HB4.out.cell (World.block_lt_of_cell? _ _ x3)).trans x3, (HB4.out.cell (World.block_lt_of_cell? _ _ x4)).trans x4, (HB4.out.cell (World.block_lt_of_cell? _ _ x5)).trans x5⟩ | exact ⟨HB3.out, (HB3.out.cell (World.block_lt_of_cell? _ _ x0)).trans x0, (HB3.out.cell (World.block_lt_of_cell? _ _ x1)).trans x1, (HB3.out.cell (World.block_lt_of_cell? _ _ x2)).trans x2, (HB3.out.cell (World.block_lt_of_cell? _ _ x3)).trans x3, (HB3.out.cell (World.block_lt_of_cell? _ _ x4)).trans x4, (HB3.out.cell (World.block_lt_of_cell? _ _ x5)).trans x5⟩ | exact ⟨HB2.out, (HB2.out.cell (World.block_lt_of_cell? _ _ x0)).trans x0, (HB2.out.cell (World.block_lt_of_cell? _ _ x1)).trans x1, (HB2.out.cell (World.block_lt_of_cell? _ _ x2)).trans x2, (HB2.out.cell (World.block_lt_of_cell? _ _ x3)).trans x3, (HB2.out.cell (World.block_lt_of_cell? _ _ x4)).trans x4, (HB2.out.cell (World.block_lt_of_cell? _ _ x5)).trans x5⟩ | exact ⟨HB1.out, (HB1.out.cell (World.block_lt_of_cell? _ _ x0)).trans x0, (HB1.out.cell (World.block_lt_of_cell? _ _ x1)).trans x1, (HB1.out.cell (World.block_lt_of_cell? _ _ x2)).trans x2, (HB1.out.cell (World.block_lt_of_cell? _ _ x3)).trans x3, (HB1.out.cell (World.block_lt_of_cell? _ _ x4)).trans x4, (HB1.out.cell (World.block_lt_of_cell? _ _ x5)).trans x5⟩ | exact ⟨(Below.refl _ _).drew, x0, x1, x2, x3, x4, x5⟩))
                    clear hK K hHeld
                    have hHeld := hHeld1
                    clear hHeld1
                    try simp only [Act.put, List.setIfInBounds_toArray, List.set_cons_zero, List.set_cons_succ]
                    refine take_yes (i := 8) (d := 33) (v := ?_) rfl rfl (by kernel_rfl) (by kernel_rfl) (by kernel_rfl) (fun _ _ _ h => h) (by kernel_rfl) ?_ hHeld ?_
                    rotate_left
                    · (intro w hSw; (try dsimp only at hSw); go_simp; try (with_reducible rfl))
                    try simp only [Act.put, List.setIfInBounds_toArray, List.set_cons_zero, List.set_cons_succ]
                    refine take_yes (i := 9) (d := 34) (v := ?_) rfl rfl (by kernel_rfl) (by kernel_rfl) (by kernel_rfl) (fun _ _ _ h => h) (by kernel_rfl) ?_ hHeld ?_
                    rotate_left
                    · (intro w hSw; (try dsimp only at hSw); go_simp; try (with_reducible rfl))
                    try simp only [Act.put, List.setIfInBounds_toArray, List.set_cons_zero, List.set_cons_succ]
                    refine take_yes (i := 10) (d := 35) (v := ?_) rfl rfl (by kernel_rfl) (by kernel_rfl) (by kernel_rfl) (fun _ _ _ h => h) (by kernel_rfl) ?_ hHeld ?_
                    rotate_left
                    · (intro w hSw; (try dsimp only at hSw); go_simp; try (with_reducible rfl))
                    try simp only [Act.put, List.setIfInBounds_toArray, List.set_cons_zero, List.set_cons_succ]
                    refine take_yes (i := 11) (d := 36) (v := ?_) rfl rfl (by kernel_rfl) (by kernel_rfl) (by kernel_rfl) (fun _ _ _ h => h) (by kernel_rfl) ?_ hHeld ?_
                    rotate_left
                    · (intro w hSw; (try dsimp only at hSw); go_simp; try (with_reducible rfl))
                    try simp only [Act.put, List.setIfInBounds_toArray, List.set_cons_zero, List.set_cons_succ]
                    refine take_yes (i := 12) (d := 37) (v := ?_) rfl rfl (by kernel_rfl) (by kernel_rfl) (by kernel_rfl) (fun _ _ _ h => h) (by kernel_rfl) ?_ hHeld ?_
                    rotate_left
                    · (intro w hSw; (try dsimp only at hSw); go_simp; try (with_reducible rfl))
                    try simp only [Act.put, List.setIfInBounds_toArray, List.set_cons_zero, List.set_cons_succ]
                    refine wpAnyH_ready (rs := [13]) (by kernel_rfl) (by simp) ?_
                    refine AllReadyH.cons rfl (fun K hK => ?_) AllReadyH.nil
                    go_simp
                    (go_at_call 79; refine (l9Good_any B d q.a _ (HCV.out.below HB2.out) hfq).mono ?_; rintro e w4 ⟨rfl, hb⟩; rw [h3]; have HB3 := Lib.hid (HB2.out.trans (hb.mono HB2.out.size)); clear hb)
                    (first | refine hK.out _ _ ?_ (fun hHeld1 => ?_) | (go_wp2_with fail; refine hK.out _ _ ?_ (fun hHeld1 => ?_)))
                    · ((try dsimp only); (first | exact ⟨HB4.out, (HB4.out.cell (World.block_lt_of_cell? _ _ x0)).trans x0, (HB4.out.cell (World.block_lt_of_cell? _ _ x1)).trans x1, (HB4.out.cell (World.block_lt_of_cell? _ _ x2)).trans x2, (HB4.out.cell (World.block_lt_of_cell? _ _ x3)).trans x3, (HB4.out.cell (World.block_lt_of_cell? _ _ x4)).trans x4, (HB4.out.cell (World.block_lt_of_cell? _ _ x5)).trans x5⟩ | exact ⟨HB3.out, (HB3.out.cell (World.block_lt_of_cell? _ _ x0)).trans x0, (HB3.out.cell (World.block_lt_of_cell? _ _ x1)).trans x1, (HB3.out.cell (World.block_lt_of_cell? _ _ x2)).trans x2, (HB3.out.cell (World.block_lt_of_cell? _ _ x3)).trans x3, (HB3.out.cell (World.block_lt_of_cell? _ _ x4)).trans x4, (HB3.out.cell (World.block_lt_of_cell? _ _ x5)).trans x5⟩ | exact ⟨HB2.out, (HB2.out.cell (World.block_lt_of_cell? _ _ x0)).trans x0, (HB2.out.cell (World.block_lt_of_cell? _ _ x1)).trans x1, (HB2.out.cell (World.block_lt_of_cell? _ _ x2)).trans x2, (HB2.out.cell (World.block_lt_of_cell? _ _ x3)).trans x3, (HB2.out.cell (World.block_lt_of_cell? _ _ x4)).trans x4, (HB2.out.cell (World.block_lt_of_cell? _ _ x5)).trans x5⟩ | exact ⟨HB1.out, (HB1.out.cell (World.block_lt_of_cell? _ _ x0)).trans x0, (HB1.out.cell (World.block_lt_of_cell? _ _ x1)).trans x1, (HB1.out.cell (World.block_lt_of_cell? _ _ x2)).trans x2, (HB1.out.cell (World.block_lt_of_cell? _ _ x3)).trans x3, (HB1.out.cell (World.block_lt_of_cell? _ _ x4)).trans x4, (HB1.out.cell (World.block_lt_of_cell? _ _ x5)).trans x5⟩ | exact ⟨(Below.refl _ _).drew, x0, x1, x2, x3, x4, x5⟩))
                    clear hK K hHeld
                    have hHeld := hHeld1
                    clear hHeld1
                    try simp only [Act.put, List.setIfInBounds_toArray, List.set_cons_zero, List.set_cons_succ]
                    refine take_yes (i := 14) (d := 39) (v := ?_) rfl rfl (by kernel_rfl) (by kernel_rfl) (by kernel_rfl) (fun _ _ _ h => h) (by kernel_rfl) ?_ hHeld ?_
                    rotate_left
                    · (intro w hSw; (try dsimp only at hSw); go_simp; try (with_reducible rfl))
                    try simp only [Act.put, List.setIfInBounds_toArray, List.set_cons_zero, List.set_cons_succ]
                    refine take_yes (i := 15) (d := 40) (v := ?_) rfl rfl (by kernel_rfl) (by kernel_rfl) (by kernel_rfl) (fun _ _ _ h => h) (by kernel_rfl) ?_ hHeld ?_
                    rotate_left
                    · (intro w hSw; (try dsimp only at hSw); go_simp; try (with_reducible rfl))
                    try simp only [Act.put, List.setIfInBounds_toArray, List.set_cons_zero, List.set_cons_succ]
                    refine take_yes (i := 16) (d := 41) (v := ?_) rfl rfl (by kernel_rfl) (by kernel_rfl) (by kernel_rfl) (fun _ _ _ h => h) (by kernel_rfl) ?_ hHeld ?_
                    rotate_left
                    · (intro w hSw; (try dsimp only at hSw); go_simp; try (with_reducible rfl))
                    try simp only [Act.put, List.setIfInBounds_toArray, List.set_cons_zero, List.set_cons_succ]
                    refine take_yes (i := 17) (d := 42) (v := ?_) rfl rfl (by kernel_rfl) (by kernel_rfl) (by kernel_rfl) (fun _ _ _ h => h) (by kernel_rfl) ?_ hHeld ?_
                    rotate_left
                    · (intro w hSw; (try dsimp only at hSw); go_simp; try (with_reducible rfl))
                    try simp only [Act.put, List.setIfInBounds_toArray, List.set_cons_zero, List.set_cons_succ]
                    refine take_yes (i := 18) (d := 43) (v := ?_) rfl rfl (by kernel_rfl) (by kernel_rfl) (by kernel_rfl) (fun _ _ _ h => h) (by kernel_rfl) ?_ hHeld ?_
                    rotate_left
                    · (intro w hSw; (try dsimp only at hSw); go_simp; try (with_reducible rfl))
                    try simp only [Act.put, List.setIfInBounds_toArray, List.set_cons_zero, List.set_cons_succ]
                    refine take_yes (i := 19) (d := 44) (v := ?_) rfl rfl (by kernel_rfl) (by kernel_rfl) (by kernel_rfl) (fun _ _ _ h => h) (by kernel_rfl) ?_ hHeld ?_
                    rotate_left
                    · (intro w hSw; (try dsimp only at hSw); go_simp; try (with_reducible rfl))
                    try simp only [Act.put, List.setIfInBounds_toArray, List.set_cons_zero, List.set_cons_succ]
                    refine wpAnyH_ready (rs := [20]) (by kernel_rfl) (by simp) ?_
                    refine AllReadyH.cons rfl (fun K hK => ?_) AllReadyH.nil
                    go_simp
                    (go_at_call 67; refine (l9Fits_any T B t d ss q.a _ (HCT.out.below HB3.out) htc hfs (HCV.out.below HB3.out) hfq h3).mono ?_; rintro e w5 ⟨rfl, hb⟩; rw [h4]; have HB4 := Lib.hid (HB3.out.trans (hb.mono HB3.out.size)); clear hb)
                    (first | refine hK.out _ _ ?_ (fun hHeld1 => ?_) | (go_wp2_with fail; refine hK.out _ _ ?_ (fun hHeld1 => ?_)))
                    · ((try dsimp only); (first | exact ⟨HB4.out, (HB4.out.cell (World.block_lt_of_cell? _ _ x0)).trans x0, (HB4.out.cell (World.block_lt_of_cell? _ _ x1)).trans x1, (HB4.out.cell (World.block_lt_of_cell? _ _ x2)).trans x2, (HB4.out.cell (World.block_lt_of_cell? _ _ x3)).trans x3, (HB4.out.cell (World.block_lt_of_cell? _ _ x4)).trans x4, (HB4.out.cell (World.block_lt_of_cell? _ _ x5)).trans x5⟩ | exact ⟨HB3.out, (HB3.out.cell (World.block_lt_of_cell? _ _ x0)).trans x0, (HB3.out.cell (World.block_lt_of_cell? _ _ x1)).trans x1, (HB3.out.cell (World.block_lt_of_cell? _ _ x2)).trans x2, (HB3.out.cell (World.block_lt_of_cell? _ _ x3)).trans x3, (HB3.out.cell (World.block_lt_of_cell? _ _ x4)).trans x4, (HB3.out.cell (World.block_lt_of_cell? _ _ x5)).trans x5⟩ | exact ⟨HB2.out, (HB2.out.cell (World.block_lt_of_cell? _ _ x0)).trans x0, (HB2.out.cell (World.block_lt_of_cell? _ _ x1)).trans x1, (HB2.out.cell (World.block_lt_of_cell? _ _ x2)).trans x2, (HB2.out.cell (World.block_lt_of_cell? _ _ x3)).trans x3, (HB2.out.cell (World.block_lt_of_cell? _ _ x4)).trans x4, (HB2.out.cell (World.block_lt_of_cell? _ _ x5)).trans x5⟩ | exact ⟨HB1.out, (HB1.out.cell (World.block_lt_of_cell? _ _ x0)).trans x0, (HB1.out.cell (World.block_lt_of_cell? _ _ x1)).trans x1, (HB1.out.cell (World.block_lt_of_cell? _ _ x2)).trans x2, (HB1.out.cell (World.block_lt_of_cell? _ _ x3)).trans x3, (HB1.out.cell (World.block_lt_of_cell? _ _ x4)).trans x4, (HB1.out.cell (World.block_lt_of_cell? _ _ x5)).trans x5⟩ | exact ⟨(Below.refl _ _).drew, x0, x1, x2, x3, x4, x5⟩))
                    clear hK K hHeld
                    have hHeld := hHeld1
                    clear hHeld1
                    try simp only [Act.put, List.setIfInBounds_toArray, List.set_cons_zero, List.set_cons_succ]
                    refine take_yes (i := 21) (d := 46) (v := ?_) rfl rfl (by kernel_rfl) (by kernel_rfl) (by kernel_rfl) (fun _ _ _ h => h) (by kernel_rfl) ?_ hHeld ?_
                    rotate_left
                    · (intro w hSw; (try dsimp only at hSw); go_simp; try (with_reducible rfl))
                    try simp only [Act.put, List.setIfInBounds_toArray, List.set_cons_zero, List.set_cons_succ]
                    refine take_yes (i := 22) (d := 47) (v := ?_) rfl rfl (by kernel_rfl) (by kernel_rfl) (by kernel_rfl) (fun _ _ _ h => h) (by kernel_rfl) ?_ hHeld ?_
                    rotate_left
                    · (intro w hSw; (try dsimp only at hSw); go_simp; try (with_reducible rfl))
                    try simp only [Act.put, List.setIfInBounds_toArray, List.set_cons_zero, List.set_cons_succ]
                    refine take_yes (i := 23) (d := 48) (v := ?_) rfl rfl (by kernel_rfl) (by kernel_rfl) (by kernel_rfl) (fun _ _ _ h => h) (by kernel_rfl) ?_ hHeld ?_
                    rotate_left
                    · (intro w hSw; (try dsimp only at hSw); go_simp; try (with_reducible rfl))
                    try simp only [Act.put, List.setIfInBounds_toArray, List.set_cons_zero, List.set_cons_succ]
                    refine take_yes (i := 24) (d := 49) (v := ?_) rfl rfl (by kernel_rfl) (by kernel_rfl) (by kernel_rfl) (fun _ _ _ h => h) (by kernel_rfl) ?_ hHeld ?_
                    rotate_left
                    · (intro w hSw; (try dsimp only at hSw); go_simp; try (with_reducible rfl))
                    try simp only [Act.put, List.setIfInBounds_toArray, List.set_cons_zero, List.set_cons_succ]
                    refine take_yes (i := 25) (d := 50) (v := ?_) rfl rfl (by kernel_rfl) (by kernel_rfl) (by kernel_rfl) (fun _ _ _ h => h) (by kernel_rfl) ?_ hHeld ?_
                    rotate_left
                    · (intro w hSw; (try dsimp only at hSw); go_simp; try (with_reducible rfl))
                    try simp only [Act.put, List.setIfInBounds_toArray, List.set_cons_zero, List.set_cons_succ]
                    refine take_yes (i := 26) (d := 51) (v := ?_) rfl rfl (by kernel_rfl) (by kernel_rfl) (by kernel_rfl) (fun _ _ _ h => h) (by kernel_rfl) ?_ hHeld ?_
                    rotate_left
                    · (intro w hSw; (try dsimp only at hSw); go_simp; try (with_reducible rfl))
                    try simp only [Act.put, List.setIfInBounds_toArray, List.set_cons_zero, List.set_cons_succ]
                    refine take_no (i := 27) (d := 52) rfl rfl (by kernel_rfl) (by kernel_rfl) (by kernel_rfl) (fun _ _ _ h => h) (by kernel_rfl) hHeld ?_
                    try simp only [Act.put, List.setIfInBounds_toArray, List.set_cons_zero, List.set_cons_succ]
                    refine take_no (i := 28) (d := 53) rfl rfl (by kernel_rfl) (by kernel_rfl) (by kernel_rfl) (fun _ _ _ h => h) (by kernel_rfl) hHeld ?_
                    try simp only [Act.put, List.setIfInBounds_toArray, List.set_cons_zero, List.set_cons_succ]
                    refine take_no (i := 29) (d := 54) rfl rfl (by kernel_rfl) (by kernel_rfl) (by kernel_rfl) (fun _ _ _ h => h) (by kernel_rfl) hHeld ?_
                    try simp only [Act.put, List.setIfInBounds_toArray, List.set_cons_zero, List.set_cons_succ]
                    refine take_no (i := 30) (d := 55) rfl rfl (by kernel_rfl) (by kernel_rfl) (by kernel_rfl) (fun _ _ _ h => h) (by kernel_rfl) hHeld ?_
                    try simp only [Act.put, List.setIfInBounds_toArray, List.set_cons_zero, List.set_cons_succ]
                    refine take_no (i := 31) (d := 56) rfl rfl (by kernel_rfl) (by kernel_rfl) (by kernel_rfl) (fun _ _ _ h => h) (by kernel_rfl) hHeld ?_
                    try simp only [Act.put, List.setIfInBounds_toArray, List.set_cons_zero, List.set_cons_succ]
                    refine take_no (i := 32) (d := 57) rfl rfl (by kernel_rfl) (by kernel_rfl) (by kernel_rfl) (fun _ _ _ h => h) (by kernel_rfl) hHeld ?_
                    try simp only [Act.put, List.setIfInBounds_toArray, List.set_cons_zero, List.set_cons_succ]
                    refine take_no (i := 33) (d := 58) rfl rfl (by kernel_rfl) (by kernel_rfl) (by kernel_rfl) (fun _ _ _ h => h) (by kernel_rfl) hHeld ?_
                    try simp only [Act.put, List.setIfInBounds_toArray, List.set_cons_zero, List.set_cons_succ]
                    refine take_no (i := 34) (d := 59) rfl rfl (by kernel_rfl) (by kernel_rfl) (by kernel_rfl) (fun _ _ _ h => h) (by kernel_rfl) hHeld ?_
                    try simp only [Act.put, List.setIfInBounds_toArray, List.set_cons_zero, List.set_cons_succ]
                    refine take_no (i := 35) (d := 60) rfl rfl (by kernel_rfl) (by kernel_rfl) (by kernel_rfl) (fun _ _ _ h => h) (by kernel_rfl) hHeld ?_
                    try simp only [Act.put, List.setIfInBounds_toArray, List.set_cons_zero, List.set_cons_succ]
                    refine take_yes (i := 36) (d := 61) (v := ?_) rfl rfl (by kernel_rfl) (by kernel_rfl) (by kernel_rfl) (fun _ _ _ h => h) (by kernel_rfl) ?_ hHeld ?_
                    rotate_left
                    · (intro w hSw; (try dsimp only at hSw); go_simp; try (with_reducible rfl))
                    try simp only [Act.put, List.setIfInBounds_toArray, List.set_cons_zero, List.set_cons_succ]
                    refine take_yes (i := 37) (d := 62) (v := ?_) rfl rfl (by kernel_rfl) (by kernel_rfl) (by kernel_rfl) (fun _ _ _ h => h) (by kernel_rfl) ?_ hHeld ?_
                    rotate_left
                    · (intro w hSw; (try dsimp only at hSw); go_simp; try (with_reducible rfl))
                    try simp only [Act.put, List.setIfInBounds_toArray, List.set_cons_zero, List.set_cons_succ]
                    refine wpAnyH_done (by kernel_rfl) ?_ _
                    refine NoPanic.normal ?_
                    go_wp2
                    go_roundw
                    case rel => exact ⟨k + 1, by omega, by go_num, HS.out, HB.out.trans ((HWb.out.trans (HB4.out.mono HWb.out.size)).mono HB.out.size)⟩
                    case measure => simp [intOf]; omega
                  · have hk1 : 0 < k := by omega
                    obtain ⟨a', A2, d2, ha', ⟨p0, _, _, _, _, _⟩, _, _⟩ := ((HD.out.below HB.out).below HWb.out).at_ (show k - 1 < ps.length by omega)
                    obtain rfl : a = a' := by simpa using ha'
                    have t1 : IntKind.i64.wrap ((k : Int) - 1) = (k : Int) - 1 := by rw [IntKind.wrap_i64]; omega
                    have t2 : ((k : Int) - 1).toNat = k - 1 := by omega
                    have t3 : (0 : Int) ≤ (k : Int) - 1 := by omega
                    have t4 : (k : Int) - 1 < (ps.length : Int) := by omega
                    have t9 : decide ((0 : Int) < (k : Int)) = true := decide_eq_true (by omega)
                    have t5 : decide (0 < k) = true := decide_eq_true (by omega)
                    have t7 : (1 : Int) ≤ (k : Int) := by omega
                    have t8 : (k : Int) ≤ (ps.length : Int) := by omega
                    rw [show (k == 0) = false by simp; omega] at HK2
                    obtain ⟨p, hp⟩ : ∃ p, Hid (ps[k - 1] = p) := ⟨_, Lib.hid rfl⟩
                    rw [hp.out] at p0 HK2
                    clear ha' hk0 hp
                    by_cases hr2 : q.i ≤ p.i
                    · have HN := Lib.hid (propB_no (ss := ss) hlt (show okP ss ps k = false by rw [HK2]; simp; omega))
                      have hg : decide (q.i ≤ p.i) = true := decide_eq_true hr2
                      clear hq HK HK2 hr2
                      refine wp_region_noPanic ?_
                      refine wp_region_held_drew (S := (fun w' => Below W.heap.size W w' ∧ w'.cell? ⟨wr.heap.size, 0, none⟩ = some (.int .i64 q.i) ∧ w'.cell? ⟨wr.heap.size, 1, none⟩ = some (.int .i64 q.a.k) ∧ w'.cell? ⟨wr.heap.size, 2, none⟩ = some (.int .i64 q.a.p) ∧ w'.cell? ⟨wr.heap.size, 3, none⟩ = some (.int .i64 q.a.n) ∧ w'.cell? ⟨wr.heap.size, 4, none⟩ = some (.slice B q.a.ws.length d) ∧ w'.cell? ⟨wr.heap.size, 5, none⟩ = some (.int .i64 q.t) ∧ w'.cell? (a.add ((k - 1) * 6)) = some (.int .i64 p.i))) (by kernel_rfl) ?_ (fun hHeld => ?_)
                      · ((try dsimp only); (first | exact ⟨HB4.out, (HB4.out.cell (World.block_lt_of_cell? _ _ x0)).trans x0, (HB4.out.cell (World.block_lt_of_cell? _ _ x1)).trans x1, (HB4.out.cell (World.block_lt_of_cell? _ _ x2)).trans x2, (HB4.out.cell (World.block_lt_of_cell? _ _ x3)).trans x3, (HB4.out.cell (World.block_lt_of_cell? _ _ x4)).trans x4, (HB4.out.cell (World.block_lt_of_cell? _ _ x5)).trans x5, (HB4.out.cell (World.block_lt_of_cell? _ _ p0)).trans p0⟩ | exact ⟨HB3.out, (HB3.out.cell (World.block_lt_of_cell? _ _ x0)).trans x0, (HB3.out.cell (World.block_lt_of_cell? _ _ x1)).trans x1, (HB3.out.cell (World.block_lt_of_cell? _ _ x2)).trans x2, (HB3.out.cell (World.block_lt_of_cell? _ _ x3)).trans x3, (HB3.out.cell (World.block_lt_of_cell? _ _ x4)).trans x4, (HB3.out.cell (World.block_lt_of_cell? _ _ x5)).trans x5, (HB3.out.cell (World.block_lt_of_cell? _ _ p0)).trans p0⟩ | exact ⟨HB2.out, (HB2.out.cell (World.block_lt_of_cell? _ _ x0)).trans x0, (HB2.out.cell (World.block_lt_of_cell? _ _ x1)).trans x1, (HB2.out.cell (World.block_lt_of_cell? _ _ x2)).trans x2, (HB2.out.cell (World.block_lt_of_cell? _ _ x3)).trans x3, (HB2.out.cell (World.block_lt_of_cell? _ _ x4)).trans x4, (HB2.out.cell (World.block_lt_of_cell? _ _ x5)).trans x5, (HB2.out.cell (World.block_lt_of_cell? _ _ p0)).trans p0⟩ | exact ⟨HB1.out, (HB1.out.cell (World.block_lt_of_cell? _ _ x0)).trans x0, (HB1.out.cell (World.block_lt_of_cell? _ _ x1)).trans x1, (HB1.out.cell (World.block_lt_of_cell? _ _ x2)).trans x2, (HB1.out.cell (World.block_lt_of_cell? _ _ x3)).trans x3, (HB1.out.cell (World.block_lt_of_cell? _ _ x4)).trans x4, (HB1.out.cell (World.block_lt_of_cell? _ _ x5)).trans x5, (HB1.out.cell (World.block_lt_of_cell? _ _ p0)).trans p0⟩ | exact ⟨(Below.refl _ _).drew, x0, x1, x2, x3, x4, x5, p0⟩))
                      refine take_yes (i := 0) (d := 25) (v := ?_) rfl rfl (by kernel_rfl) (by kernel_rfl) (by kernel_rfl) (fun _ _ _ h => h) (by kernel_rfl) ?_ hHeld ?_
                      rotate_left
                      · (intro w hSw; (try dsimp only at hSw); go_simp; try (with_reducible rfl))
                      try simp only [Act.put, List.setIfInBounds_toArray, List.set_cons_zero, List.set_cons_succ]
                      refine take_yes (i := 1) (d := 26) (v := ?_) rfl rfl (by kernel_rfl) (by kernel_rfl) (by kernel_rfl) (fun _ _ _ h => h) (by kernel_rfl) ?_ hHeld ?_
                      rotate_left
                      · (intro w hSw; (try dsimp only at hSw); go_simp; try (with_reducible rfl))
                      try simp only [Act.put, List.setIfInBounds_toArray, List.set_cons_zero, List.set_cons_succ]
                      refine wpAnyH_ready (rs := [2]) (by kernel_rfl) (by simp) ?_
                      refine AllReadyH.cons rfl (fun K hK => ?_) AllReadyH.nil
                      go_simp
                      (go_at_call 109; refine (l1InB_any q.i 1 99 _).mono ?_; rintro e w2 ⟨rfl, hb⟩; rw [h1]; have HB1 := Lib.hid ((below_drewN (Below.refl W.heap.size W) 1).trans hb); clear hb)
                      (first | refine hK.out _ _ ?_ (fun hHeld1 => ?_) | (go_wp2_with fail; refine hK.out _ _ ?_ (fun hHeld1 => ?_)))
                      · ((try dsimp only); (first | exact ⟨HB4.out, (HB4.out.cell (World.block_lt_of_cell? _ _ x0)).trans x0, (HB4.out.cell (World.block_lt_of_cell? _ _ x1)).trans x1, (HB4.out.cell (World.block_lt_of_cell? _ _ x2)).trans x2, (HB4.out.cell (World.block_lt_of_cell? _ _ x3)).trans x3, (HB4.out.cell (World.block_lt_of_cell? _ _ x4)).trans x4, (HB4.out.cell (World.block_lt_of_cell? _ _ x5)).trans x5, (HB4.out.cell (World.block_lt_of_cell? _ _ p0)).trans p0⟩ | exact ⟨HB3.out, (HB3.out.cell (World.block_lt_of_cell? _ _ x0)).trans x0, (HB3.out.cell (World.block_lt_of_cell? _ _ x1)).trans x1, (HB3.out.cell (World.block_lt_of_cell? _ _ x2)).trans x2, (HB3.out.cell (World.block_lt_of_cell? _ _ x3)).trans x3, (HB3.out.cell (World.block_lt_of_cell? _ _ x4)).trans x4, (HB3.out.cell (World.block_lt_of_cell? _ _ x5)).trans x5, (HB3.out.cell (World.block_lt_of_cell? _ _ p0)).trans p0⟩ | exact ⟨HB2.out, (HB2.out.cell (World.block_lt_of_cell? _ _ x0)).trans x0, (HB2.out.cell (World.block_lt_of_cell? _ _ x1)).trans x1, (HB2.out.cell (World.block_lt_of_cell? _ _ x2)).trans x2, (HB2.out.cell (World.block_lt_of_cell? _ _ x3)).trans x3, (HB2.out.cell (World.block_lt_of_cell? _ _ x4)).trans x4, (HB2.out.cell (World.block_lt_of_cell? _ _ x5)).trans x5, (HB2.out.cell (World.block_lt_of_cell? _ _ p0)).trans p0⟩ | exact ⟨HB1.out, (HB1.out.cell (World.block_lt_of_cell? _ _ x0)).trans x0, (HB1.out.cell (World.block_lt_of_cell? _ _ x1)).trans x1, (HB1.out.cell (World.block_lt_of_cell? _ _ x2)).trans x2, (HB1.out.cell (World.block_lt_of_cell? _ _ x3)).trans x3, (HB1.out.cell (World.block_lt_of_cell? _ _ x4)).trans x4, (HB1.out.cell (World.block_lt_of_cell? _ _ x5)).trans x5, (HB1.out.cell (World.block_lt_of_cell? _ _ p0)).trans p0⟩ | exact ⟨(Below.refl _ _).drew, x0, x1, x2, x3, x4, x5, p0⟩))
                      clear hK K hHeld
                      have hHeld := hHeld1
                      clear hHeld1
                      try simp only [Act.put, List.setIfInBounds_toArray, List.set_cons_zero, List.set_cons_succ]
                      refine take_yes (i := 3) (d := 28) (v := ?_) rfl rfl (by kernel_rfl) (by kernel_rfl) (by kernel_rfl) (fun _ _ _ h => h) (by kernel_rfl) ?_ hHeld ?_
                      rotate_left
                      · (intro w hSw; (try dsimp only at hSw); go_simp; try (with_reducible rfl))
                      try simp only [Act.put, List.setIfInBounds_toArray, List.set_cons_zero, List.set_cons_succ]
                      refine take_yes (i := 4) (d := 29) (v := ?_) rfl rfl (by kernel_rfl) (by kernel_rfl) (by kernel_rfl) (fun _ _ _ h => h) (by kernel_rfl) ?_ hHeld ?_
                      rotate_left
                      · (intro w hSw; (try dsimp only at hSw); go_simp; try (with_reducible rfl))
                      try simp only [Act.put, List.setIfInBounds_toArray, List.set_cons_zero, List.set_cons_succ]
                      refine take_yes (i := 5) (d := 30) (v := ?_) rfl rfl (by kernel_rfl) (by kernel_rfl) (by kernel_rfl) (fun _ _ _ h => h) (by kernel_rfl) ?_ hHeld ?_
                      rotate_left
                      · (intro w hSw; (try dsimp only at hSw); go_simp; try (with_reducible rfl))
                      try simp only [Act.put, List.setIfInBounds_toArray, List.set_cons_zero, List.set_cons_succ]
                      refine take_yes (i := 6) (d := 31) (v := ?_) rfl rfl (by kernel_rfl) (by kernel_rfl) (by kernel_rfl) (fun _ _ _ h => h) (by kernel_rfl) ?_ hHeld ?_
                      rotate_left
                      · (intro w hSw; (try dsimp only at hSw); go_simp; try (with_reducible rfl))
                      try simp only [Act.put, List.setIfInBounds_toArray, List.set_cons_zero, List.set_cons_succ]
                      refine wpAnyH_ready (rs := [7]) (by kernel_rfl) (by simp) ?_
                      refine AllReadyH.cons rfl (fun K hK => ?_) AllReadyH.nil
                      go_simp
                      (go_at_call 109; refine (l1InB_any q.t 1 100 _).mono ?_; rintro e w3 ⟨rfl, hb⟩; rw [h2]; have HB2 := Lib.hid (HB1.out.trans (hb.mono HB1.out.size)); clear hb)
                      (first | refine hK.out _ _ ?_ (fun hHeld1 => ?_) | (go_wp2_with fail; refine hK.out _ _ ?_ (fun hHeld1 => ?_)))
                      · ((try dsimp only); (first | exact ⟨HB4.out, (HB4.out.cell (World.block_lt_of_cell? _ _ x0)).trans x0, (HB4.out.cell (World.block_lt_of_cell? _ _ x1)).trans x1, (HB4.out.cell (World.block_lt_of_cell? _ _ x2)).trans x2, (HB4.out.cell (World.block_lt_of_cell? _ _ x3)).trans x3, (HB4.out.cell (World.block_lt_of_cell? _ _ x4)).trans x4, (HB4.out.cell (World.block_lt_of_cell? _ _ x5)).trans x5, (HB4.out.cell (World.block_lt_of_cell? _ _ p0)).trans p0⟩ | exact ⟨HB3.out, (HB3.out.cell (World.block_lt_of_cell? _ _ x0)).trans x0, (HB3.out.cell (World.block_lt_of_cell? _ _ x1)).trans x1, (HB3.out.cell (World.block_lt_of_cell? _ _ x2)).trans x2, (HB3.out.cell (World.block_lt_of_cell? _ _ x3)).trans x3, (HB3.out.cell (World.block_lt_of_cell? _ _ x4)).trans x4, (HB3.out.cell (World.block_lt_of_cell? _ _ x5)).trans x5, (HB3.out.cell (World.block_lt_of_cell? _ _ p0)).trans p0⟩ | exact ⟨HB2.out, (HB2.out.cell (World.block_lt_of_cell? _ _ x0)).trans x0, (HB2.out.cell (World.block_lt_of_cell? _ _ x1)).trans x1, (HB2.out.cell (World.block_lt_of_cell? _ _ x2)).trans x2, (HB2.out.cell (World.block_lt_of_cell? _ _ x3)).trans x3, (HB2.out.cell (World.block_lt_of_cell? _ _ x4)).trans x4, (HB2.out.cell (World.block_lt_of_cell? _ _ x5)).trans x5, (HB2.out.cell (World.block_lt_of_cell? _ _ p0)).trans p0⟩ | exact ⟨HB1.out, (HB1.out.cell (World.block_lt_of_cell? _ _ x0)).trans x0, (HB1.out.cell (World.block_lt_of_cell? _ _ x1)).trans x1, (HB1.out.cell (World.block_lt_of_cell? _ _ x2)).trans x2, (HB1.out.cell (World.block_lt_of_cell? _ _ x3)).trans x3, (HB1.out.cell (World.block_lt_of_cell? _ _ x4)).trans x4, (HB1.out.cell (World.block_lt_of_cell? _ _ x5)).trans x5, (HB1.out.cell (World.block_lt_of_cell? _ _ p0)).trans p0⟩ | exact ⟨(Below.refl _ _).drew, x0, x1, x2, x3, x4, x5, p0⟩))
                      clear hK K hHeld
                      have hHeld := hHeld1
                      clear hHeld1
                      try simp only [Act.put, List.setIfInBounds_toArray, List.set_cons_zero, List.set_cons_succ]
                      refine take_yes (i := 8) (d := 33) (v := ?_) rfl rfl (by kernel_rfl) (by kernel_rfl) (by kernel_rfl) (fun _ _ _ h => h) (by kernel_rfl) ?_ hHeld ?_
                      rotate_left
                      · (intro w hSw; (try dsimp only at hSw); go_simp; try (with_reducible rfl))
                      try simp only [Act.put, List.setIfInBounds_toArray, List.set_cons_zero, List.set_cons_succ]
                      refine take_yes (i := 9) (d := 34) (v := ?_) rfl rfl (by kernel_rfl) (by kernel_rfl) (by kernel_rfl) (fun _ _ _ h => h) (by kernel_rfl) ?_ hHeld ?_
                      rotate_left
                      · (intro w hSw; (try dsimp only at hSw); go_simp; try (with_reducible rfl))
                      try simp only [Act.put, List.setIfInBounds_toArray, List.set_cons_zero, List.set_cons_succ]
                      refine take_yes (i := 10) (d := 35) (v := ?_) rfl rfl (by kernel_rfl) (by kernel_rfl) (by kernel_rfl) (fun _ _ _ h => h) (by kernel_rfl) ?_ hHeld ?_
                      rotate_left
                      · (intro w hSw; (try dsimp only at hSw); go_simp; try (with_reducible rfl))
                      try simp only [Act.put, List.setIfInBounds_toArray, List.set_cons_zero, List.set_cons_succ]
                      refine take_yes (i := 11) (d := 36) (v := ?_) rfl rfl (by kernel_rfl) (by kernel_rfl) (by kernel_rfl) (fun _ _ _ h => h) (by kernel_rfl) ?_ hHeld ?_
                      rotate_left
                      · (intro w hSw; (try dsimp only at hSw); go_simp; try (with_reducible rfl))
                      try simp only [Act.put, List.setIfInBounds_toArray, List.set_cons_zero, List.set_cons_succ]
                      refine take_yes (i := 12) (d := 37) (v := ?_) rfl rfl (by kernel_rfl) (by kernel_rfl) (by kernel_rfl) (fun _ _ _ h => h) (by kernel_rfl) ?_ hHeld ?_
                      rotate_left
                      · (intro w hSw; (try dsimp only at hSw); go_simp; try (with_reducible rfl))
                      try simp only [Act.put, List.setIfInBounds_toArray, List.set_cons_zero, List.set_cons_succ]
                      refine wpAnyH_ready (rs := [13]) (by kernel_rfl) (by simp) ?_
                      refine AllReadyH.cons rfl (fun K hK => ?_) AllReadyH.nil
                      go_simp
                      (go_at_call 79; refine (l9Good_any B d q.a _ (HCV.out.below HB2.out) hfq).mono ?_; rintro e w4 ⟨rfl, hb⟩; rw [h3]; have HB3 := Lib.hid (HB2.out.trans (hb.mono HB2.out.size)); clear hb)
                      (first | refine hK.out _ _ ?_ (fun hHeld1 => ?_) | (go_wp2_with fail; refine hK.out _ _ ?_ (fun hHeld1 => ?_)))
                      · ((try dsimp only); (first | exact ⟨HB4.out, (HB4.out.cell (World.block_lt_of_cell? _ _ x0)).trans x0, (HB4.out.cell (World.block_lt_of_cell? _ _ x1)).trans x1, (HB4.out.cell (World.block_lt_of_cell? _ _ x2)).trans x2, (HB4.out.cell (World.block_lt_of_cell? _ _ x3)).trans x3, (HB4.out.cell (World.block_lt_of_cell? _ _ x4)).trans x4, (HB4.out.cell (World.block_lt_of_cell? _ _ x5)).trans x5, (HB4.out.cell (World.block_lt_of_cell? _ _ p0)).trans p0⟩ | exact ⟨HB3.out, (HB3.out.cell (World.block_lt_of_cell? _ _ x0)).trans x0, (HB3.out.cell (World.block_lt_of_cell? _ _ x1)).trans x1, (HB3.out.cell (World.block_lt_of_cell? _ _ x2)).trans x2, (HB3.out.cell (World.block_lt_of_cell? _ _ x3)).trans x3, (HB3.out.cell (World.block_lt_of_cell? _ _ x4)).trans x4, (HB3.out.cell (World.block_lt_of_cell? _ _ x5)).trans x5, (HB3.out.cell (World.block_lt_of_cell? _ _ p0)).trans p0⟩ | exact ⟨HB2.out, (HB2.out.cell (World.block_lt_of_cell? _ _ x0)).trans x0, (HB2.out.cell (World.block_lt_of_cell? _ _ x1)).trans x1, (HB2.out.cell (World.block_lt_of_cell? _ _ x2)).trans x2, (HB2.out.cell (World.block_lt_of_cell? _ _ x3)).trans x3, (HB2.out.cell (World.block_lt_of_cell? _ _ x4)).trans x4, (HB2.out.cell (World.block_lt_of_cell? _ _ x5)).trans x5, (HB2.out.cell (World.block_lt_of_cell? _ _ p0)).trans p0⟩ | exact ⟨HB1.out, (HB1.out.cell (World.block_lt_of_cell? _ _ x0)).trans x0, (HB1.out.cell (World.block_lt_of_cell? _ _ x1)).trans x1, (HB1.out.cell (World.block_lt_of_cell? _ _ x2)).trans x2, (HB1.out.cell (World.block_lt_of_cell? _ _ x3)).trans x3, (HB1.out.cell (World.block_lt_of_cell? _ _ x4)).trans x4, (HB1.out.cell (World.block_lt_of_cell? _ _ x5)).trans x5, (HB1.out.cell (World.block_lt_of_cell? _ _ p0)).trans p0⟩ | exact ⟨(Below.refl _ _).drew, x0, x1, x2, x3, x4, x5, p0⟩))
                      clear hK K hHeld
                      have hHeld := hHeld1
                      clear hHeld1
                      try simp only [Act.put, List.setIfInBounds_toArray, List.set_cons_zero, List.set_cons_succ]
                      refine take_yes (i := 14) (d := 39) (v := ?_) rfl rfl (by kernel_rfl) (by kernel_rfl) (by kernel_rfl) (fun _ _ _ h => h) (by kernel_rfl) ?_ hHeld ?_
                      rotate_left
                      · (intro w hSw; (try dsimp only at hSw); go_simp; try (with_reducible rfl))
                      try simp only [Act.put, List.setIfInBounds_toArray, List.set_cons_zero, List.set_cons_succ]
                      refine take_yes (i := 15) (d := 40) (v := ?_) rfl rfl (by kernel_rfl) (by kernel_rfl) (by kernel_rfl) (fun _ _ _ h => h) (by kernel_rfl) ?_ hHeld ?_
                      rotate_left
                      · (intro w hSw; (try dsimp only at hSw); go_simp; try (with_reducible rfl))
                      try simp only [Act.put, List.setIfInBounds_toArray, List.set_cons_zero, List.set_cons_succ]
                      refine take_yes (i := 16) (d := 41) (v := ?_) rfl rfl (by kernel_rfl) (by kernel_rfl) (by kernel_rfl) (fun _ _ _ h => h) (by kernel_rfl) ?_ hHeld ?_
                      rotate_left
                      · (intro w hSw; (try dsimp only at hSw); go_simp; try (with_reducible rfl))
                      try simp only [Act.put, List.setIfInBounds_toArray, List.set_cons_zero, List.set_cons_succ]
                      refine take_yes (i := 17) (d := 42) (v := ?_) rfl rfl (by kernel_rfl) (by kernel_rfl) (by kernel_rfl) (fun _ _ _ h => h) (by kernel_rfl) ?_ hHeld ?_
                      rotate_left
                      · (intro w hSw; (try dsimp only at hSw); go_simp; try (with_reducible rfl))
                      try simp only [Act.put, List.setIfInBounds_toArray, List.set_cons_zero, List.set_cons_succ]
                      refine take_yes (i := 18) (d := 43) (v := ?_) rfl rfl (by kernel_rfl) (by kernel_rfl) (by kernel_rfl) (fun _ _ _ h => h) (by kernel_rfl) ?_ hHeld ?_
                      rotate_left
                      · (intro w hSw; (try dsimp only at hSw); go_simp; try (with_reducible rfl))
                      try simp only [Act.put, List.setIfInBounds_toArray, List.set_cons_zero, List.set_cons_succ]
                      refine take_yes (i := 19) (d := 44) (v := ?_) rfl rfl (by kernel_rfl) (by kernel_rfl) (by kernel_rfl) (fun _ _ _ h => h) (by kernel_rfl) ?_ hHeld ?_
                      rotate_left
                      · (intro w hSw; (try dsimp only at hSw); go_simp; try (with_reducible rfl))
                      try simp only [Act.put, List.setIfInBounds_toArray, List.set_cons_zero, List.set_cons_succ]
                      refine wpAnyH_ready (rs := [20]) (by kernel_rfl) (by simp) ?_
                      refine AllReadyH.cons rfl (fun K hK => ?_) AllReadyH.nil
                      go_simp
                      (go_at_call 67; refine (l9Fits_any T B t d ss q.a _ (HCT.out.below HB3.out) htc hfs (HCV.out.below HB3.out) hfq h3).mono ?_; rintro e w5 ⟨rfl, hb⟩; rw [h4]; have HB4 := Lib.hid (HB3.out.trans (hb.mono HB3.out.size)); clear hb)
                      (first | refine hK.out _ _ ?_ (fun hHeld1 => ?_) | (go_wp2_with fail; refine hK.out _ _ ?_ (fun hHeld1 => ?_)))
                      · ((try dsimp only); (first | exact ⟨HB4.out, (HB4.out.cell (World.block_lt_of_cell? _ _ x0)).trans x0, (HB4.out.cell (World.block_lt_of_cell? _ _ x1)).trans x1, (HB4.out.cell (World.block_lt_of_cell? _ _ x2)).trans x2, (HB4.out.cell (World.block_lt_of_cell? _ _ x3)).trans x3, (HB4.out.cell (World.block_lt_of_cell? _ _ x4)).trans x4, (HB4.out.cell (World.block_lt_of_cell? _ _ x5)).trans x5, (HB4.out.cell (World.block_lt_of_cell? _ _ p0)).trans p0⟩ | exact ⟨HB3.out, (HB3.out.cell (World.block_lt_of_cell? _ _ x0)).trans x0, (HB3.out.cell (World.block_lt_of_cell? _ _ x1)).trans x1, (HB3.out.cell (World.block_lt_of_cell? _ _ x2)).trans x2, (HB3.out.cell (World.block_lt_of_cell? _ _ x3)).trans x3, (HB3.out.cell (World.block_lt_of_cell? _ _ x4)).trans x4, (HB3.out.cell (World.block_lt_of_cell? _ _ x5)).trans x5, (HB3.out.cell (World.block_lt_of_cell? _ _ p0)).trans p0⟩ | exact ⟨HB2.out, (HB2.out.cell (World.block_lt_of_cell? _ _ x0)).trans x0, (HB2.out.cell (World.block_lt_of_cell? _ _ x1)).trans x1, (HB2.out.cell (World.block_lt_of_cell? _ _ x2)).trans x2, (HB2.out.cell (World.block_lt_of_cell? _ _ x3)).trans x3, (HB2.out.cell (World.block_lt_of_cell? _ _ x4)).trans x4, (HB2.out.cell (World.block_lt_of_cell? _ _ x5)).trans x5, (HB2.out.cell (World.block_lt_of_cell? _ _ p0)).trans p0⟩ | exact ⟨HB1.out, (HB1.out.cell (World.block_lt_of_cell? _ _ x0)).trans x0, (HB1.out.cell (World.block_lt_of_cell? _ _ x1)).trans x1, (HB1.out.cell (World.block_lt_of_cell? _ _ x2)).trans x2, (HB1.out.cell (World.block_lt_of_cell? _ _ x3)).trans x3, (HB1.out.cell (World.block_lt_of_cell? _ _ x4)).trans x4, (HB1.out.cell (World.block_lt_of_cell? _ _ x5)).trans x5, (HB1.out.cell (World.block_lt_of_cell? _ _ p0)).trans p0⟩ | exact ⟨(Below.refl _ _).drew, x0, x1, x2, x3, x4, x5, p0⟩))
                      clear hK K hHeld
                      have hHeld := hHeld1
                      clear hHeld1
                      try simp only [Act.put, List.setIfInBounds_toArray, List.set_cons_zero, List.set_cons_succ]
                      refine take_yes (i := 21) (d := 46) (v := ?_) rfl rfl (by kernel_rfl) (by kernel_rfl) (by kernel_rfl) (fun _ _ _ h => h) (by kernel_rfl) ?_ hHeld ?_
                      rotate_left
                      · (intro w hSw; (try dsimp only at hSw); go_simp; try (with_reducible rfl))
                      try simp only [Act.put, List.setIfInBounds_toArray, List.set_cons_zero, List.set_cons_succ]
                      refine take_yes (i := 22) (d := 47) (v := ?_) rfl rfl (by kernel_rfl) (by kernel_rfl) (by kernel_rfl) (fun _ _ _ h => h) (by kernel_rfl) ?_ hHeld ?_
                      rotate_left
                      · (intro w hSw; (try dsimp only at hSw); go_simp; try (with_reducible rfl))
                      try simp only [Act.put, List.setIfInBounds_toArray, List.set_cons_zero, List.set_cons_succ]
                      refine take_yes (i := 23) (d := 48) (v := ?_) rfl rfl (by kernel_rfl) (by kernel_rfl) (by kernel_rfl) (fun _ _ _ h => h) (by kernel_rfl) ?_ hHeld ?_
                      rotate_left
                      · (intro w hSw; (try dsimp only at hSw); go_simp; try (with_reducible rfl))
                      try simp only [Act.put, List.setIfInBounds_toArray, List.set_cons_zero, List.set_cons_succ]
                      refine take_yes (i := 24) (d := 49) (v := ?_) rfl rfl (by kernel_rfl) (by kernel_rfl) (by kernel_rfl) (fun _ _ _ h => h) (by kernel_rfl) ?_ hHeld ?_
                      rotate_left
                      · (intro w hSw; (try dsimp only at hSw); go_simp; try (with_reducible rfl))
                      try simp only [Act.put, List.setIfInBounds_toArray, List.set_cons_zero, List.set_cons_succ]
                      refine take_yes (i := 25) (d := 50) (v := ?_) rfl rfl (by kernel_rfl) (by kernel_rfl) (by kernel_rfl) (fun _ _ _ h => h) (by kernel_rfl) ?_ hHeld ?_
                      rotate_left
                      · (intro w hSw; (try dsimp only at hSw); go_simp; try (with_reducible rfl))
                      try simp only [Act.put, List.setIfInBounds_toArray, List.set_cons_zero, List.set_cons_succ]
                      refine take_yes (i := 26) (d := 51) (v := ?_) rfl rfl (by kernel_rfl) (by kernel_rfl) (by kernel_rfl) (fun _ _ _ h => h) (by kernel_rfl) ?_ hHeld ?_
                      rotate_left
                      · (intro w hSw; (try dsimp only at hSw); go_simp; try (with_reducible rfl))
                      try simp only [Act.put, List.setIfInBounds_toArray, List.set_cons_zero, List.set_cons_succ]
                      refine take_yes (i := 27) (d := 52) (v := ?_) rfl rfl (by kernel_rfl) (by kernel_rfl) (by kernel_rfl) (fun _ _ _ h => h) (by kernel_rfl) ?_ hHeld ?_
                      rotate_left
                      · (intro w hSw; (try dsimp only at hSw); go_simp; try (with_reducible rfl))
                      try simp only [Act.put, List.setIfInBounds_toArray, List.set_cons_zero, List.set_cons_succ]
                      refine take_yes (i := 28) (d := 53) (v := ?_) rfl rfl (by kernel_rfl) (by kernel_rfl) (by kernel_rfl) (fun _ _ _ h => h) (by kernel_rfl) ?_ hHeld ?_
                      rotate_left
                      · (intro w hSw; (try dsimp only at hSw); go_simp; try (with_reducible rfl))
                      try simp only [Act.put, List.setIfInBounds_toArray, List.set_cons_zero, List.set_cons_succ]
                      refine take_yes (i := 29) (d := 54) (v := ?_) rfl rfl (by kernel_rfl) (by kernel_rfl) (by kernel_rfl) (fun _ _ _ h => h) (by kernel_rfl) ?_ hHeld ?_
                      rotate_left
                      · (intro w hSw; (try dsimp only at hSw); go_simp; try (with_reducible rfl))
                      try simp only [Act.put, List.setIfInBounds_toArray, List.set_cons_zero, List.set_cons_succ]
                      refine take_yes (i := 30) (d := 55) (v := ?_) rfl rfl (by kernel_rfl) (by kernel_rfl) (by kernel_rfl) (fun _ _ _ h => h) (by kernel_rfl) ?_ hHeld ?_
                      rotate_left
                      · (intro w hSw; (try dsimp only at hSw); go_simp; try (with_reducible rfl))
                      try simp only [Act.put, List.setIfInBounds_toArray, List.set_cons_zero, List.set_cons_succ]
                      refine take_yes (i := 31) (d := 56) (v := ?_) rfl rfl (by kernel_rfl) (by kernel_rfl) (by kernel_rfl) (fun _ _ _ h => h) (by kernel_rfl) ?_ hHeld ?_
                      rotate_left
                      · (intro w hSw; (try dsimp only at hSw); go_simp; try (with_reducible rfl))
                      try simp only [Act.put, List.setIfInBounds_toArray, List.set_cons_zero, List.set_cons_succ]
                      refine take_yes (i := 32) (d := 57) (v := ?_) rfl rfl (by kernel_rfl) (by kernel_rfl) (by kernel_rfl) (fun _ _ _ h => h) (by kernel_rfl) ?_ hHeld ?_
                      rotate_left
                      · (intro w hSw; (try dsimp only at hSw); go_simp; try (with_reducible rfl))
                      try simp only [Act.put, List.setIfInBounds_toArray, List.set_cons_zero, List.set_cons_succ]
                      refine take_yes (i := 33) (d := 58) (v := ?_) rfl rfl (by kernel_rfl) (by kernel_rfl) (by kernel_rfl) (fun _ _ _ h => h) (by kernel_rfl) ?_ hHeld ?_
                      rotate_left
                      · (intro w hSw; (try dsimp only at hSw); go_simp; try (with_reducible rfl))
                      try simp only [Act.put, List.setIfInBounds_toArray, List.set_cons_zero, List.set_cons_succ]
                      refine take_yes (i := 34) (d := 59) (v := ?_) rfl rfl (by kernel_rfl) (by kernel_rfl) (by kernel_rfl) (fun _ _ _ h => h) (by kernel_rfl) ?_ hHeld ?_
                      rotate_left
                      · (intro w hSw; (try dsimp only at hSw); go_simp; try (with_reducible rfl))
                      try simp only [Act.put, List.setIfInBounds_toArray, List.set_cons_zero, List.set_cons_succ]
                      refine take_yes (i := 35) (d := 60) (v := ?_) rfl rfl (by kernel_rfl) (by kernel_rfl) (by kernel_rfl) (fun _ _ _ h => h) (by kernel_rfl) ?_ hHeld ?_
                      rotate_left
                      · (intro w hSw; (try dsimp only at hSw); go_simp; try (with_reducible rfl))
                      try simp only [Act.put, List.setIfInBounds_toArray, List.set_cons_zero, List.set_cons_succ]
                      refine take_yes (i := 36) (d := 61) (v := ?_) rfl rfl (by kernel_rfl) (by kernel_rfl) (by kernel_rfl) (fun _ _ _ h => h) (by kernel_rfl) ?_ hHeld ?_
                      rotate_left
                      · (intro w hSw; (try dsimp only at hSw); go_simp; try (with_reducible rfl))
                      try simp only [Act.put, List.setIfInBounds_toArray, List.set_cons_zero, List.set_cons_succ]
                      refine take_yes (i := 37) (d := 62) (v := ?_) rfl rfl (by kernel_rfl) (by kernel_rfl) (by kernel_rfl) (fun _ _ _ h => h) (by kernel_rfl) ?_ hHeld ?_
                      rotate_left
                      · (intro w hSw; (try dsimp only at hSw); go_simp; try (with_reducible rfl))
                      try simp only [Act.put, List.setIfInBounds_toArray, List.set_cons_zero, List.set_cons_succ]
                      refine wpAnyH_done (by kernel_rfl) ?_ _
                      refine NoPanic.normal ?_
                      go_wp2
                      go_ret
                      exact ⟨ret_bool HN.out.symm, HB.out.trans ((HWb.out.trans (HB4.out.mono HWb.out.size)).mono HB.out.size)⟩
                    · have HS := Lib.hid (allN_step hq.out (show okP ss ps k = true by rw [HK2]; simp; omega))
                      have hg : decide (q.i ≤ p.i) = false := decide_eq_false hr2
                      clear hq HK HK2 hr2
                      refine wp_region_noPanic ?_
                      refine wp_region_held_drew (S := (fun w' => Below W.heap.size W w' ∧ w'.cell? ⟨wr.heap.size, 0, none⟩ = some (.int .i64 q.i) ∧ w'.cell? ⟨wr.heap.size, 1, none⟩ = some (.int .i64 q.a.k) ∧ w'.cell? ⟨wr.heap.size, 2, none⟩ = some (.int .i64 q.a.p) ∧ w'.cell? ⟨wr.heap.size, 3, none⟩ = some (.int .i64 q.a.n) ∧ w'.cell? ⟨wr.heap.size, 4, none⟩ = some (.slice B q.a.ws.length d) ∧ w'.cell? ⟨wr.heap.size, 5, none⟩ = some (.int .i64 q.t) ∧ w'.cell? (a.add ((k - 1) * 6)) = some (.int .i64 p.i))) (by kernel_rfl) ?_ (fun hHeld => ?_)
                      · ((try dsimp only); (first | exact ⟨HB4.out, (HB4.out.cell (World.block_lt_of_cell? _ _ x0)).trans x0, (HB4.out.cell (World.block_lt_of_cell? _ _ x1)).trans x1, (HB4.out.cell (World.block_lt_of_cell? _ _ x2)).trans x2, (HB4.out.cell (World.block_lt_of_cell? _ _ x3)).trans x3, (HB4.out.cell (World.block_lt_of_cell? _ _ x4)).trans x4, (HB4.out.cell (World.block_lt_of_cell? _ _ x5)).trans x5, (HB4.out.cell (World.block_lt_of_cell? _ _ p0)).trans p0⟩ | exact ⟨HB3.out, (HB3.out.cell (World.block_lt_of_cell? _ _ x0)).trans x0, (HB3.out.cell (World.block_lt_of_cell? _ _ x1)).trans x1, (HB3.out.cell (World.block_lt_of_cell? _ _ x2)).trans x2, (HB3.out.cell (World.block_lt_of_cell? _ _ x3)).trans x3, (HB3.out.cell (World.block_lt_of_cell? _ _ x4)).trans x4, (HB3.out.cell (World.block_lt_of_cell? _ _ x5)).trans x5, (HB3.out.cell (World.block_lt_of_cell? _ _ p0)).trans p0⟩ | exact ⟨HB2.out, (HB2.out.cell (World.block_lt_of_cell? _ _ x0)).trans x0, (HB2.out.cell (World.block_lt_of_cell? _ _ x1)).trans x1, (HB2.out.cell (World.block_lt_of_cell? _ _ x2)).trans x2, (HB2.out.cell (World.block_lt_of_cell? _ _ x3)).trans x3, (HB2.out.cell (World.block_lt_of_cell? _ _ x4)).trans x4, (HB2.out.cell (World.block_lt_of_cell? _ _ x5)).trans x5, (HB2.out.cell (World.block_lt_of_cell? _ _ p0)).trans p0⟩ | exact ⟨HB1.out, (HB1.out.cell (World.block_lt_of_cell? _ _ x0)).trans x0, (HB1.out.cell (World.block_lt_of_cell? _ _ x1)).trans x1, (HB1.out.cell (World.block_lt_of_cell? _ _ x2)).trans x2, (HB1.out.cell (World.block_lt_of_cell? _ _ x3)).trans x3, (HB1.out.cell (World.block_lt_of_cell? _ _ x4)).trans x4, (HB1.out.cell (World.block_lt_of_cell? _ _ x5)).trans x5, (HB1.out.cell (World.block_lt_of_cell? _ _ p0)).trans p0⟩ | exact ⟨(Below.refl _ _).drew, x0, x1, x2, x3, x4, x5, p0⟩))
                      refine take_yes (i := 0) (d := 25) (v := ?_) rfl rfl (by kernel_rfl) (by kernel_rfl) (by kernel_rfl) (fun _ _ _ h => h) (by kernel_rfl) ?_ hHeld ?_
                      rotate_left
                      · (intro w hSw; (try dsimp only at hSw); go_simp; try (with_reducible rfl))
                      try simp only [Act.put, List.setIfInBounds_toArray, List.set_cons_zero, List.set_cons_succ]
                      refine take_yes (i := 1) (d := 26) (v := ?_) rfl rfl (by kernel_rfl) (by kernel_rfl) (by kernel_rfl) (fun _ _ _ h => h) (by kernel_rfl) ?_ hHeld ?_
                      rotate_left
                      · (intro w hSw; (try dsimp only at hSw); go_simp; try (with_reducible rfl))
                      try simp only [Act.put, List.setIfInBounds_toArray, List.set_cons_zero, List.set_cons_succ]
                      refine wpAnyH_ready (rs := [2]) (by kernel_rfl) (by simp) ?_
                      refine AllReadyH.cons rfl (fun K hK => ?_) AllReadyH.nil
                      go_simp
                      (go_at_call 109; refine (l1InB_any q.i 1 99 _).mono ?_; rintro e w2 ⟨rfl, hb⟩; rw [h1]; have HB1 := Lib.hid ((below_drewN (Below.refl W.heap.size W) 1).trans hb); clear hb)
                      (first | refine hK.out _ _ ?_ (fun hHeld1 => ?_) | (go_wp2_with fail; refine hK.out _ _ ?_ (fun hHeld1 => ?_)))
                      · ((try dsimp only); (first | exact ⟨HB4.out, (HB4.out.cell (World.block_lt_of_cell? _ _ x0)).trans x0, (HB4.out.cell (World.block_lt_of_cell? _ _ x1)).trans x1, (HB4.out.cell (World.block_lt_of_cell? _ _ x2)).trans x2, (HB4.out.cell (World.block_lt_of_cell? _ _ x3)).trans x3, (HB4.out.cell (World.block_lt_of_cell? _ _ x4)).trans x4, (HB4.out.cell (World.block_lt_of_cell? _ _ x5)).trans x5, (HB4.out.cell (World.block_lt_of_cell? _ _ p0)).trans p0⟩ | exact ⟨HB3.out, (HB3.out.cell (World.block_lt_of_cell? _ _ x0)).trans x0, (HB3.out.cell (World.block_lt_of_cell? _ _ x1)).trans x1, (HB3.out.cell (World.block_lt_of_cell? _ _ x2)).trans x2, (HB3.out.cell (World.block_lt_of_cell? _ _ x3)).trans x3, (HB3.out.cell (World.block_lt_of_cell? _ _ x4)).trans x4, (HB3.out.cell (World.block_lt_of_cell? _ _ x5)).trans x5, (HB3.out.cell (World.block_lt_of_cell? _ _ p0)).trans p0⟩ | exact ⟨HB2.out, (HB2.out.cell (World.block_lt_of_cell? _ _ x0)).trans x0, (HB2.out.cell (World.block_lt_of_cell? _ _ x1)).trans x1, (HB2.out.cell (World.block_lt_of_cell? _ _ x2)).trans x2, (HB2.out.cell (World.block_lt_of_cell? _ _ x3)).trans x3, (HB2.out.cell (World.block_lt_of_cell? _ _ x4)).trans x4, (HB2.out.cell (World.block_lt_of_cell? _ _ x5)).trans x5, (HB2.out.cell (World.block_lt_of_cell? _ _ p0)).trans p0⟩ | exact ⟨HB1.out, (HB1.out.cell (World.block_lt_of_cell? _ _ x0)).trans x0, (HB1.out.cell (World.block_lt_of_cell? _ _ x1)).trans x1, (HB1.out.cell (World.block_lt_of_cell? _ _ x2)).trans x2, (HB1.out.cell (World.block_lt_of_cell? _ _ x3)).trans x3, (HB1.out.cell (World.block_lt_of_cell? _ _ x4)).trans x4, (HB1.out.cell (World.block_lt_of_cell? _ _ x5)).trans x5, (HB1.out.cell (World.block_lt_of_cell? _ _ p0)).trans p0⟩ | exact ⟨(Below.refl _ _).drew, x0, x1, x2, x3, x4, x5, p0⟩))
                      clear hK K hHeld
                      have hHeld := hHeld1
                      clear hHeld1
                      try simp only [Act.put, List.setIfInBounds_toArray, List.set_cons_zero, List.set_cons_succ]
                      refine take_yes (i := 3) (d := 28) (v := ?_) rfl rfl (by kernel_rfl) (by kernel_rfl) (by kernel_rfl) (fun _ _ _ h => h) (by kernel_rfl) ?_ hHeld ?_
                      rotate_left
                      · (intro w hSw; (try dsimp only at hSw); go_simp; try (with_reducible rfl))
                      try simp only [Act.put, List.setIfInBounds_toArray, List.set_cons_zero, List.set_cons_succ]
                      refine take_yes (i := 4) (d := 29) (v := ?_) rfl rfl (by kernel_rfl) (by kernel_rfl) (by kernel_rfl) (fun _ _ _ h => h) (by kernel_rfl) ?_ hHeld ?_
                      rotate_left
                      · (intro w hSw; (try dsimp only at hSw); go_simp; try (with_reducible rfl))
                      try simp only [Act.put, List.setIfInBounds_toArray, List.set_cons_zero, List.set_cons_succ]
                      refine take_yes (i := 5) (d := 30) (v := ?_) rfl rfl (by kernel_rfl) (by kernel_rfl) (by kernel_rfl) (fun _ _ _ h => h) (by kernel_rfl) ?_ hHeld ?_
                      rotate_left
                      · (intro w hSw; (try dsimp only at hSw); go_simp; try (with_reducible rfl))
                      try simp only [Act.put, List.setIfInBounds_toArray, List.set_cons_zero, List.set_cons_succ]
                      refine take_yes (i := 6) (d := 31) (v := ?_) rfl rfl (by kernel_rfl) (by kernel_rfl) (by kernel_rfl) (fun _ _ _ h => h) (by kernel_rfl) ?_ hHeld ?_
                      rotate_left
                      · (intro w hSw; (try dsimp only at hSw); go_simp; try (with_reducible rfl))
                      try simp only [Act.put, List.setIfInBounds_toArray, List.set_cons_zero, List.set_cons_succ]
                      refine wpAnyH_ready (rs := [7]) (by kernel_rfl) (by simp) ?_
                      refine AllReadyH.cons rfl (fun K hK => ?_) AllReadyH.nil
                      go_simp
                      (go_at_call 109; refine (l1InB_any q.t 1 100 _).mono ?_; rintro e w3 ⟨rfl, hb⟩; rw [h2]; have HB2 := Lib.hid (HB1.out.trans (hb.mono HB1.out.size)); clear hb)
                      (first | refine hK.out _ _ ?_ (fun hHeld1 => ?_) | (go_wp2_with fail; refine hK.out _ _ ?_ (fun hHeld1 => ?_)))
                      · ((try dsimp only); (first | exact ⟨HB4.out, (HB4.out.cell (World.block_lt_of_cell? _ _ x0)).trans x0, (HB4.out.cell (World.block_lt_of_cell? _ _ x1)).trans x1, (HB4.out.cell (World.block_lt_of_cell? _ _ x2)).trans x2, (HB4.out.cell (World.block_lt_of_cell? _ _ x3)).trans x3, (HB4.out.cell (World.block_lt_of_cell? _ _ x4)).trans x4, (HB4.out.cell (World.block_lt_of_cell? _ _ x5)).trans x5, (HB4.out.cell (World.block_lt_of_cell? _ _ p0)).trans p0⟩ | exact ⟨HB3.out, (HB3.out.cell (World.block_lt_of_cell? _ _ x0)).trans x0, (HB3.out.cell (World.block_lt_of_cell? _ _ x1)).trans x1, (HB3.out.cell (World.block_lt_of_cell? _ _ x2)).trans x2, (HB3.out.cell (World.block_lt_of_cell? _ _ x3)).trans x3, (HB3.out.cell (World.block_lt_of_cell? _ _ x4)).trans x4, (HB3.out.cell (World.block_lt_of_cell? _ _ x5)).trans x5, (HB3.out.cell (World.block_lt_of_cell? _ _ p0)).trans p0⟩ | exact ⟨HB2.out, (HB2.out.cell (World.block_lt_of_cell? _ _ x0)).trans x0, (HB2.out.cell (World.block_lt_of_cell? _ _ x1)).trans x1, (HB2.out.cell (World.block_lt_of_cell? _ _ x2)).trans x2, (HB2.out.cell (World.block_lt_of_cell? _ _ x3)).trans x3, (HB2.out.cell (World.block_lt_of_cell? _ _ x4)).trans x4, (HB2.out.cell (World.block_lt_of_cell? _ _ x5)).trans x5, (HB2.out.cell (World.block_lt_of_cell? _ _ p0)).trans p0⟩ | exact ⟨HB1.out, (HB1.out.cell (World.block_lt_of_cell? _ _ x0)).trans x0, (HB1.out.cell (World.block_lt_of_cell? _ _ x1)).trans x1, (HB1.out.cell (World.block_lt_of_cell? _ _ x2)).trans x2, (HB1.out.cell (World.block_lt_of_cell? _ _ x3)).trans x3, (HB1.out.cell (World.block_lt_of_cell? _ _ x4)).trans x4, (HB1.out.cell (World.block_lt_of_cell? _ _ x5)).trans x5, (HB1.out.cell (World.block_lt_of_cell? _ _ p0)).trans p0⟩ | exact ⟨(Below.refl _ _).drew, x0, x1, x2, x3, x4, x5, p0⟩))
                      clear hK K hHeld
                      have hHeld := hHeld1
                      clear hHeld1
                      try simp only [Act.put, List.setIfInBounds_toArray, List.set_cons_zero, List.set_cons_succ]
                      refine take_yes (i := 8) (d := 33) (v := ?_) rfl rfl (by kernel_rfl) (by kernel_rfl) (by kernel_rfl) (fun _ _ _ h => h) (by kernel_rfl) ?_ hHeld ?_
                      rotate_left
                      · (intro w hSw; (try dsimp only at hSw); go_simp; try (with_reducible rfl))
                      try simp only [Act.put, List.setIfInBounds_toArray, List.set_cons_zero, List.set_cons_succ]
                      refine take_yes (i := 9) (d := 34) (v := ?_) rfl rfl (by kernel_rfl) (by kernel_rfl) (by kernel_rfl) (fun _ _ _ h => h) (by kernel_rfl) ?_ hHeld ?_
                      rotate_left
                      · (intro w hSw; (try dsimp only at hSw); go_simp; try (with_reducible rfl))
                      try simp only [Act.put, List.setIfInBounds_toArray, List.set_cons_zero, List.set_cons_succ]
                      refine take_yes (i := 10) (d := 35) (v := ?_) rfl rfl (by kernel_rfl) (by kernel_rfl) (by kernel_rfl) (fun _ _ _ h => h) (by kernel_rfl) ?_ hHeld ?_
                      rotate_left
                      · (intro w hSw; (try dsimp only at hSw); go_simp; try (with_reducible rfl))
                      try simp only [Act.put, List.setIfInBounds_toArray, List.set_cons_zero, List.set_cons_succ]
                      refine take_yes (i := 11) (d := 36) (v := ?_) rfl rfl (by kernel_rfl) (by kernel_rfl) (by kernel_rfl) (fun _ _ _ h => h) (by kernel_rfl) ?_ hHeld ?_
                      rotate_left
                      · (intro w hSw; (try dsimp only at hSw); go_simp; try (with_reducible rfl))
                      try simp only [Act.put, List.setIfInBounds_toArray, List.set_cons_zero, List.set_cons_succ]
                      refine take_yes (i := 12) (d := 37) (v := ?_) rfl rfl (by kernel_rfl) (by kernel_rfl) (by kernel_rfl) (fun _ _ _ h => h) (by kernel_rfl) ?_ hHeld ?_
                      rotate_left
                      · (intro w hSw; (try dsimp only at hSw); go_simp; try (with_reducible rfl))
                      try simp only [Act.put, List.setIfInBounds_toArray, List.set_cons_zero, List.set_cons_succ]
                      refine wpAnyH_ready (rs := [13]) (by kernel_rfl) (by simp) ?_
                      refine AllReadyH.cons rfl (fun K hK => ?_) AllReadyH.nil
                      go_simp
                      (go_at_call 79; refine (l9Good_any B d q.a _ (HCV.out.below HB2.out) hfq).mono ?_; rintro e w4 ⟨rfl, hb⟩; rw [h3]; have HB3 := Lib.hid (HB2.out.trans (hb.mono HB2.out.size)); clear hb)
                      (first | refine hK.out _ _ ?_ (fun hHeld1 => ?_) | (go_wp2_with fail; refine hK.out _ _ ?_ (fun hHeld1 => ?_)))
                      · ((try dsimp only); (first | exact ⟨HB4.out, (HB4.out.cell (World.block_lt_of_cell? _ _ x0)).trans x0, (HB4.out.cell (World.block_lt_of_cell? _ _ x1)).trans x1, (HB4.out.cell (World.block_lt_of_cell? _ _ x2)).trans x2, (HB4.out.cell (World.block_lt_of_cell? _ _ x3)).trans x3, (HB4.out.cell (World.block_lt_of_cell? _ _ x4)).trans x4, (HB4.out.cell (World.block_lt_of_cell? _ _ x5)).trans x5, (HB4.out.cell (World.block_lt_of_cell? _ _ p0)).trans p0⟩ | exact ⟨HB3.out, (HB3.out.cell (World.block_lt_of_cell? _ _ x0)).trans x0, (HB3.out.cell (World.block_lt_of_cell? _ _ x1)).trans x1, (HB3.out.cell (World.block_lt_of_cell? _ _ x2)).trans x2, (HB3.out.cell (World.block_lt_of_cell? _ _ x3)).trans x3, (HB3.out.cell (World.block_lt_of_cell? _ _ x4)).trans x4, (HB3.out.cell (World.block_lt_of_cell? _ _ x5)).trans x5, (HB3.out.cell (World.block_lt_of_cell? _ _ p0)).trans p0⟩ | exact ⟨HB2.out, (HB2.out.cell (World.block_lt_of_cell? _ _ x0)).trans x0, (HB2.out.cell (World.block_lt_of_cell? _ _ x1)).trans x1, (HB2.out.cell (World.block_lt_of_cell? _ _ x2)).trans x2, (HB2.out.cell (World.block_lt_of_cell? _ _ x3)).trans x3, (HB2.out.cell (World.block_lt_of_cell? _ _ x4)).trans x4, (HB2.out.cell (World.block_lt_of_cell? _ _ x5)).trans x5, (HB2.out.cell (World.block_lt_of_cell? _ _ p0)).trans p0⟩ | exact ⟨HB1.out, (HB1.out.cell (World.block_lt_of_cell? _ _ x0)).trans x0, (HB1.out.cell (World.block_lt_of_cell? _ _ x1)).trans x1, (HB1.out.cell (World.block_lt_of_cell? _ _ x2)).trans x2, (HB1.out.cell (World.block_lt_of_cell? _ _ x3)).trans x3, (HB1.out.cell (World.block_lt_of_cell? _ _ x4)).trans x4, (HB1.out.cell (World.block_lt_of_cell? _ _ x5)).trans x5, (HB1.out.cell (World.block_lt_of_cell? _ _ p0)).trans p0⟩ | exact ⟨(Below.refl _ _).drew, x0, x1, x2, x3, x4, x5, p0⟩))
                      clear hK K hHeld
                      have hHeld := hHeld1
                      clear hHeld1
                      try simp only [Act.put, List.setIfInBounds_toArray, List.set_cons_zero, List.set_cons_succ]
                      refine take_yes (i := 14) (d := 39) (v := ?_) rfl rfl (by kernel_rfl) (by kernel_rfl) (by kernel_rfl) (fun _ _ _ h => h) (by kernel_rfl) ?_ hHeld ?_
                      rotate_left
                      · (intro w hSw; (try dsimp only at hSw); go_simp; try (with_reducible rfl))
                      try simp only [Act.put, List.setIfInBounds_toArray, List.set_cons_zero, List.set_cons_succ]
                      refine take_yes (i := 15) (d := 40) (v := ?_) rfl rfl (by kernel_rfl) (by kernel_rfl) (by kernel_rfl) (fun _ _ _ h => h) (by kernel_rfl) ?_ hHeld ?_
                      rotate_left
                      · (intro w hSw; (try dsimp only at hSw); go_simp; try (with_reducible rfl))
                      try simp only [Act.put, List.setIfInBounds_toArray, List.set_cons_zero, List.set_cons_succ]
                      refine take_yes (i := 16) (d := 41) (v := ?_) rfl rfl (by kernel_rfl) (by kernel_rfl) (by kernel_rfl) (fun _ _ _ h => h) (by kernel_rfl) ?_ hHeld ?_
                      rotate_left
                      · (intro w hSw; (try dsimp only at hSw); go_simp; try (with_reducible rfl))
                      try simp only [Act.put, List.setIfInBounds_toArray, List.set_cons_zero, List.set_cons_succ]
                      refine take_yes (i := 17) (d := 42) (v := ?_) rfl rfl (by kernel_rfl) (by kernel_rfl) (by kernel_rfl) (fun _ _ _ h => h) (by kernel_rfl) ?_ hHeld ?_
                      rotate_left
                      · (intro w hSw; (try dsimp only at hSw); go_simp; try (with_reducible rfl))
                      try simp only [Act.put, List.setIfInBounds_toArray, List.set_cons_zero, List.set_cons_succ]
                      refine take_yes (i := 18) (d := 43) (v := ?_) rfl rfl (by kernel_rfl) (by kernel_rfl) (by kernel_rfl) (fun _ _ _ h => h) (by kernel_rfl) ?_ hHeld ?_
                      rotate_left
                      · (intro w hSw; (try dsimp only at hSw); go_simp; try (with_reducible rfl))
                      try simp only [Act.put, List.setIfInBounds_toArray, List.set_cons_zero, List.set_cons_succ]
                      refine take_yes (i := 19) (d := 44) (v := ?_) rfl rfl (by kernel_rfl) (by kernel_rfl) (by kernel_rfl) (fun _ _ _ h => h) (by kernel_rfl) ?_ hHeld ?_
                      rotate_left
                      · (intro w hSw; (try dsimp only at hSw); go_simp; try (with_reducible rfl))
                      try simp only [Act.put, List.setIfInBounds_toArray, List.set_cons_zero, List.set_cons_succ]
                      refine wpAnyH_ready (rs := [20]) (by kernel_rfl) (by simp) ?_
                      refine AllReadyH.cons rfl (fun K hK => ?_) AllReadyH.nil
                      go_simp
                      (go_at_call 67; refine (l9Fits_any T B t d ss q.a _ (HCT.out.below HB3.out) htc hfs (HCV.out.below HB3.out) hfq h3).mono ?_; rintro e w5 ⟨rfl, hb⟩; rw [h4]; have HB4 := Lib.hid (HB3.out.trans (hb.mono HB3.out.size)); clear hb)
                      (first | refine hK.out _ _ ?_ (fun hHeld1 => ?_) | (go_wp2_with fail; refine hK.out _ _ ?_ (fun hHeld1 => ?_)))
                      · ((try dsimp only); (first | exact ⟨HB4.out, (HB4.out.cell (World.block_lt_of_cell? _ _ x0)).trans x0, (HB4.out.cell (World.block_lt_of_cell? _ _ x1)).trans x1, (HB4.out.cell (World.block_lt_of_cell? _ _ x2)).trans x2, (HB4.out.cell (World.block_lt_of_cell? _ _ x3)).trans x3, (HB4.out.cell (World.block_lt_of_cell? _ _ x4)).trans x4, (HB4.out.cell (World.block_lt_of_cell? _ _ x5)).trans x5, (HB4.out.cell (World.block_lt_of_cell? _ _ p0)).trans p0⟩ | exact ⟨HB3.out, (HB3.out.cell (World.block_lt_of_cell? _ _ x0)).trans x0, (HB3.out.cell (World.block_lt_of_cell? _ _ x1)).trans x1, (HB3.out.cell (World.block_lt_of_cell? _ _ x2)).trans x2, (HB3.out.cell (World.block_lt_of_cell? _ _ x3)).trans x3, (HB3.out.cell (World.block_lt_of_cell? _ _ x4)).trans x4, (HB3.out.cell (World.block_lt_of_cell? _ _ x5)).trans x5, (HB3.out.cell (World.block_lt_of_cell? _ _ p0)).trans p0⟩ | exact ⟨HB2.out, (HB2.out.cell (World.block_lt_of_cell? _ _ x0)).trans x0, (HB2.out.cell (World.block_lt_of_cell? _ _ x1)).trans x1, (HB2.out.cell (World.block_lt_of_cell? _ _ x2)).trans x2, (HB2.out.cell (World.block_lt_of_cell? _ _ x3)).trans x3, (HB2.out.cell (World.block_lt_of_cell? _ _ x4)).trans x4, (HB2.out.cell (World.block_lt_of_cell? _ _ x5)).trans x5, (HB2.out.cell (World.block_lt_of_cell? _ _ p0)).trans p0⟩ | exact ⟨HB1.out, (HB1.out.cell (World.block_lt_of_cell? _ _ x0)).trans x0, (HB1.out.cell (World.block_lt_of_cell? _ _ x1)).trans x1, (HB1.out.cell (World.block_lt_of_cell? _ _ x2)).trans x2, (HB1.out.cell (World.block_lt_of_cell? _ _ x3)).trans x3, (HB1.out.cell (World.block_lt_of_cell? _ _ x4)).trans x4, (HB1.out.cell (World.block_lt_of_cell? _ _ x5)).trans x5, (HB1.out.cell (World.block_lt_of_cell? _ _ p0)).trans p0⟩ | exact ⟨(Below.refl _ _).drew, x0, x1, x2, x3, x4, x5, p0⟩))
                      clear hK K hHeld
                      have hHeld := hHeld1
                      clear hHeld1
                      try simp only [Act.put, List.setIfInBounds_toArray, List.set_cons_zero, List.set_cons_succ]
                      refine take_yes (i := 21) (d := 46) (v := ?_) rfl rfl (by kernel_rfl) (by kernel_rfl) (by kernel_rfl) (fun _ _ _ h => h) (by kernel_rfl) ?_ hHeld ?_
                      rotate_left
                      · (intro w hSw; (try dsimp only at hSw); go_simp; try (with_reducible rfl))
                      try simp only [Act.put, List.setIfInBounds_toArray, List.set_cons_zero, List.set_cons_succ]
                      refine take_yes (i := 22) (d := 47) (v := ?_) rfl rfl (by kernel_rfl) (by kernel_rfl) (by kernel_rfl) (fun _ _ _ h => h) (by kernel_rfl) ?_ hHeld ?_
                      rotate_left
                      · (intro w hSw; (try dsimp only at hSw); go_simp; try (with_reducible rfl))
                      try simp only [Act.put, List.setIfInBounds_toArray, List.set_cons_zero, List.set_cons_succ]
                      refine take_yes (i := 23) (d := 48) (v := ?_) rfl rfl (by kernel_rfl) (by kernel_rfl) (by kernel_rfl) (fun _ _ _ h => h) (by kernel_rfl) ?_ hHeld ?_
                      rotate_left
                      · (intro w hSw; (try dsimp only at hSw); go_simp; try (with_reducible rfl))
                      try simp only [Act.put, List.setIfInBounds_toArray, List.set_cons_zero, List.set_cons_succ]
                      refine take_yes (i := 24) (d := 49) (v := ?_) rfl rfl (by kernel_rfl) (by kernel_rfl) (by kernel_rfl) (fun _ _ _ h => h) (by kernel_rfl) ?_ hHeld ?_
                      rotate_left
                      · (intro w hSw; (try dsimp only at hSw); go_simp; try (with_reducible rfl))
                      try simp only [Act.put, List.setIfInBounds_toArray, List.set_cons_zero, List.set_cons_succ]
                      refine take_yes (i := 25) (d := 50) (v := ?_) rfl rfl (by kernel_rfl) (by kernel_rfl) (by kernel_rfl) (fun _ _ _ h => h) (by kernel_rfl) ?_ hHeld ?_
                      rotate_left
                      · (intro w hSw; (try dsimp only at hSw); go_simp; try (with_reducible rfl))
                      try simp only [Act.put, List.setIfInBounds_toArray, List.set_cons_zero, List.set_cons_succ]
                      refine take_yes (i := 26) (d := 51) (v := ?_) rfl rfl (by kernel_rfl) (by kernel_rfl) (by kernel_rfl) (fun _ _ _ h => h) (by kernel_rfl) ?_ hHeld ?_
                      rotate_left
                      · (intro w hSw; (try dsimp only at hSw); go_simp; try (with_reducible rfl))
                      try simp only [Act.put, List.setIfInBounds_toArray, List.set_cons_zero, List.set_cons_succ]
                      refine take_yes (i := 27) (d := 52) (v := ?_) rfl rfl (by kernel_rfl) (by kernel_rfl) (by kernel_rfl) (fun _ _ _ h => h) (by kernel_rfl) ?_ hHeld ?_
                      rotate_left
                      · (intro w hSw; (try dsimp only at hSw); go_simp; try (with_reducible rfl))
                      try simp only [Act.put, List.setIfInBounds_toArray, List.set_cons_zero, List.set_cons_succ]
                      refine take_yes (i := 28) (d := 53) (v := ?_) rfl rfl (by kernel_rfl) (by kernel_rfl) (by kernel_rfl) (fun _ _ _ h => h) (by kernel_rfl) ?_ hHeld ?_
                      rotate_left
                      · (intro w hSw; (try dsimp only at hSw); go_simp; try (with_reducible rfl))
                      try simp only [Act.put, List.setIfInBounds_toArray, List.set_cons_zero, List.set_cons_succ]
                      refine take_yes (i := 29) (d := 54) (v := ?_) rfl rfl (by kernel_rfl) (by kernel_rfl) (by kernel_rfl) (fun _ _ _ h => h) (by kernel_rfl) ?_ hHeld ?_
                      rotate_left
                      · (intro w hSw; (try dsimp only at hSw); go_simp; try (with_reducible rfl))
                      try simp only [Act.put, List.setIfInBounds_toArray, List.set_cons_zero, List.set_cons_succ]
                      refine take_yes (i := 30) (d := 55) (v := ?_) rfl rfl (by kernel_rfl) (by kernel_rfl) (by kernel_rfl) (fun _ _ _ h => h) (by kernel_rfl) ?_ hHeld ?_
                      rotate_left
                      · (intro w hSw; (try dsimp only at hSw); go_simp; try (with_reducible rfl))
                      try simp only [Act.put, List.setIfInBounds_toArray, List.set_cons_zero, List.set_cons_succ]
                      refine take_yes (i := 31) (d := 56) (v := ?_) rfl rfl (by kernel_rfl) (by kernel_rfl) (by kernel_rfl) (fun _ _ _ h => h) (by kernel_rfl) ?_ hHeld ?_
                      rotate_left
                      · (intro w hSw; (try dsimp only at hSw); go_simp; try (with_reducible rfl))
                      try simp only [Act.put, List.setIfInBounds_toArray, List.set_cons_zero, List.set_cons_succ]
                      refine take_yes (i := 32) (d := 57) (v := ?_) rfl rfl (by kernel_rfl) (by kernel_rfl) (by kernel_rfl) (fun _ _ _ h => h) (by kernel_rfl) ?_ hHeld ?_
                      rotate_left
                      · (intro w hSw; (try dsimp only at hSw); go_simp; try (with_reducible rfl))
                      try simp only [Act.put, List.setIfInBounds_toArray, List.set_cons_zero, List.set_cons_succ]
                      refine take_yes (i := 33) (d := 58) (v := ?_) rfl rfl (by kernel_rfl) (by kernel_rfl) (by kernel_rfl) (fun _ _ _ h => h) (by kernel_rfl) ?_ hHeld ?_
                      rotate_left
                      · (intro w hSw; (try dsimp only at hSw); go_simp; try (with_reducible rfl))
                      try simp only [Act.put, List.setIfInBounds_toArray, List.set_cons_zero, List.set_cons_succ]
                      refine take_yes (i := 34) (d := 59) (v := ?_) rfl rfl (by kernel_rfl) (by kernel_rfl) (by kernel_rfl) (fun _ _ _ h => h) (by kernel_rfl) ?_ hHeld ?_
                      rotate_left
                      · (intro w hSw; (try dsimp only at hSw); go_simp; try (with_reducible rfl))
                      try simp only [Act.put, List.setIfInBounds_toArray, List.set_cons_zero, List.set_cons_succ]
                      refine take_yes (i := 35) (d := 60) (v := ?_) rfl rfl (by kernel_rfl) (by kernel_rfl) (by kernel_rfl) (fun _ _ _ h => h) (by kernel_rfl) ?_ hHeld ?_
                      rotate_left
                      · (intro w hSw; (try dsimp only at hSw); go_simp; try (with_reducible rfl))
                      try simp only [Act.put, List.setIfInBounds_toArray, List.set_cons_zero, List.set_cons_succ]
                      refine take_yes (i := 36) (d := 61) (v := ?_) rfl rfl (by kernel_rfl) (by kernel_rfl) (by kernel_rfl) (fun _ _ _ h => h) (by kernel_rfl) ?_ hHeld ?_
                      rotate_left
                      · (intro w hSw; (try dsimp only at hSw); go_simp; try (with_reducible rfl))
                      try simp only [Act.put, List.setIfInBounds_toArray, List.set_cons_zero, List.set_cons_succ]
                      refine take_yes (i := 37) (d := 62) (v := ?_) rfl rfl (by kernel_rfl) (by kernel_rfl) (by kernel_rfl) (fun _ _ _ h => h) (by kernel_rfl) ?_ hHeld ?_
                      rotate_left
                      · (intro w hSw; (try dsimp only at hSw); go_simp; try (with_reducible rfl))
                      try simp only [Act.put, List.setIfInBounds_toArray, List.set_cons_zero, List.set_cons_succ]
                      refine wpAnyH_done (by kernel_rfl) ?_ _
                      refine NoPanic.normal ?_
                      go_wp2
                      go_roundw
                      case rel => exact ⟨k + 1, by omega, by go_num, HS.out, HB.out.trans ((HWb.out.trans (HB4.out.mono HWb.out.size)).mono HB.out.size)⟩
                      case measure => simp [intOf]; omega
                · have HN := Lib.hid (propB_no (ss := ss) hlt (show okP ss ps k = false by rw [HK.out, h4]; simp))
                  clear hq HK
                  refine wp_region_noPanic ?_
                  refine wp_region_held_drew (S := (fun w' => Below W.heap.size W w' ∧ w'.cell? ⟨wr.heap.size, 0, none⟩ = some (.int .i64 q.i) ∧ w'.cell? ⟨wr.heap.size, 1, none⟩ = some (.int .i64 q.a.k) ∧ w'.cell? ⟨wr.heap.size, 2, none⟩ = some (.int .i64 q.a.p) ∧ w'.cell? ⟨wr.heap.size, 3, none⟩ = some (.int .i64 q.a.n) ∧ w'.cell? ⟨wr.heap.size, 4, none⟩ = some (.slice B q.a.ws.length d) ∧ w'.cell? ⟨wr.heap.size, 5, none⟩ = some (.int .i64 q.t))) (by kernel_rfl) ?_ (fun hHeld => ?_)
                  · ((try dsimp only); (first | exact ⟨HB4.out, (HB4.out.cell (World.block_lt_of_cell? _ _ x0)).trans x0, (HB4.out.cell (World.block_lt_of_cell? _ _ x1)).trans x1, (HB4.out.cell (World.block_lt_of_cell? _ _ x2)).trans x2, (HB4.out.cell (World.block_lt_of_cell? _ _ x3)).trans x3, (HB4.out.cell (World.block_lt_of_cell? _ _ x4)).trans x4, (HB4.out.cell (World.block_lt_of_cell? _ _ x5)).trans x5⟩ | exact ⟨HB3.out, (HB3.out.cell (World.block_lt_of_cell? _ _ x0)).trans x0, (HB3.out.cell (World.block_lt_of_cell? _ _ x1)).trans x1, (HB3.out.cell (World.block_lt_of_cell? _ _ x2)).trans x2, (HB3.out.cell (World.block_lt_of_cell? _ _ x3)).trans x3, (HB3.out.cell (World.block_lt_of_cell? _ _ x4)).trans x4, (HB3.out.cell (World.block_lt_of_cell? _ _ x5)).trans x5⟩ | exact ⟨HB2.out, (HB2.out.cell (World.block_lt_of_cell? _ _ x0)).trans x0, (HB2.out.cell (World.block_lt_of_cell? _ _ x1)).trans x1, (HB2.out.cell (World.block_lt_of_cell? _ _ x2)).trans x2, (HB2.out.cell (World.block_lt_of_cell? _ _ x3)).trans x3, (HB2.out.cell (World.block_lt_of_cell? _ _ x4)).trans x4, (HB2.out.cell (World.block_lt_of_cell? _ _ x5)).trans x5⟩ | exact ⟨HB1.out, (HB1.out.cell (World.block_lt_of_cell? _ _ x0)).trans x0, (HB1.out.cell (World.block_lt_of_cell? _ _ x1)).trans x1, (HB1.out.cell (World.block_lt_of_cell? _ _ x2)).trans x2, (HB1.out.cell (World.block_lt_of_cell? _ _ x3)).trans x3, (HB1.out.cell (World.block_lt_of_cell? _ _ x4)).trans x4, (HB1.out.cell (World.block_lt_of_cell? _ _ x5)).trans x5⟩ | exact ⟨(Below.refl _ _).drew, x0, x1, x2, x3, x4, x5⟩))
                  refine take_yes (i := 0) (d := 25) (v := ?_) rfl rfl (by kernel_rfl) (by kernel_rfl) (by kernel_rfl) (fun _ _ _ h => h) (by kernel_rfl) ?_ hHeld ?_
                  rotate_left
                  · (intro w hSw; (try dsimp only at hSw); go_simp; try (with_reducible rfl))
                  try simp only [Act.put, List.setIfInBounds_toArray, List.set_cons_zero, List.set_cons_succ]
                  refine take_yes (i := 1) (d := 26) (v := ?_) rfl rfl (by kernel_rfl) (by kernel_rfl) (by kernel_rfl) (fun _ _ _ h => h) (by kernel_rfl) ?_ hHeld ?_
                  rotate_left
                  · (intro w hSw; (try dsimp only at hSw); go_simp; try (with_reducible rfl))
                  try simp only [Act.put, List.setIfInBounds_toArray, List.set_cons_zero, List.set_cons_succ]
                  refine wpAnyH_ready (rs := [2]) (by kernel_rfl) (by simp) ?_
                  refine AllReadyH.cons rfl (fun K hK => ?_) AllReadyH.nil
                  go_simp
                  (go_at_call 109; refine (l1InB_any q.i 1 99 _).mono ?_; rintro e w2 ⟨rfl, hb⟩; rw [h1]; have HB1 := Lib.hid ((below_drewN (Below.refl W.heap.size W) 1).trans hb); clear hb)
                  (first | refine hK.out _ _ ?_ (fun hHeld1 => ?_) | (go_wp2_with fail; refine hK.out _ _ ?_ (fun hHeld1 => ?_)))
                  · ((try dsimp only); (first | exact ⟨HB4.out, (HB4.out.cell (World.block_lt_of_cell? _ _ x0)).trans x0, (HB4.out.cell (World.block_lt_of_cell? _ _ x1)).trans x1, (HB4.out.cell (World.block_lt_of_cell? _ _ x2)).trans x2, (HB4.out.cell (World.block_lt_of_cell? _ _ x3)).trans x3, (HB4.out.cell (World.block_lt_of_cell? _ _ x4)).trans x4, (HB4.out.cell (World.block_lt_of_cell? _ _ x5)).trans x5⟩ | exact ⟨HB3.out, (HB3.out.cell (World.block_lt_of_cell? _ _ x0)).trans x0, (HB3.out.cell (World.block_lt_of_cell? _ _ x1)).trans x1, (HB3.out.cell (World.block_lt_of_cell? _ _ x2)).trans x2, (HB3.out.cell (World.block_lt_of_cell? _ _ x3)).trans x3, (HB3.out.cell (World.block_lt_of_cell? _ _ x4)).trans x4, (HB3.out.cell (World.block_lt_of_cell? _ _ x5)).trans x5⟩ | exact ⟨HB2.out, (HB2.out.cell (World.block_lt_of_cell? _ _ x0)).trans x0, (HB2.out.cell (World.block_lt_of_cell? _ _ x1)).trans x1, (HB2.out.cell (World.block_lt_of_cell? _ _ x2)).trans x2, (HB2.out.cell (World.block_lt_of_cell? _ _ x3)).trans x3, (HB2.out.cell (World.block_lt_of_cell? _ _ x4)).trans x4, (HB2.out.cell (World.block_lt_of_cell? _ _ x5)).trans x5⟩ | exact ⟨HB1.out, (HB1.out.cell (World.block_lt_of_cell? _ _ x0)).trans x0, (HB1.out.cell (World.block_lt_of_cell? _ _ x1)).trans x1, (HB1.out.cell (World.block_lt_of_cell? _ _ x2)).trans x2, (HB1.out.cell (World.block_lt_of_cell? _ _ x3)).trans x3, (HB1.out.cell (World.block_lt_of_cell? _ _ x4)).trans x4, (HB1.out.cell (World.block_lt_of_cell? _ _ x5)).trans x5⟩ | exact ⟨(Below.refl _ _).drew, x0, x1, x2, x3, x4, x5⟩))
                  clear hK K hHeld
                  have hHeld := hHeld1
                  clear hHeld1
                  try simp only [Act.put, List.setIfInBounds_toArray, List.set_cons_zero, List.set_cons_succ]
                  refine take_yes (i := 3) (d := 28) (v := ?_) rfl rfl (by kernel_rfl) (by kernel_rfl) (by kernel_rfl) (fun _ _ _ h => h) (by kernel_rfl) ?_ hHeld ?_
                  rotate_left
                  · (intro w hSw; (try dsimp only at hSw); go_simp; try (with_reducible rfl))
                  try simp only [Act.put, List.setIfInBounds_toArray, List.set_cons_zero, List.set_cons_succ]
                  refine take_yes (i := 4) (d := 29) (v := ?_) rfl rfl (by kernel_rfl) (by kernel_rfl) (by kernel_rfl) (fun _ _ _ h => h) (by kernel_rfl) ?_ hHeld ?_
                  rotate_left
                  · (intro w hSw; (try dsimp only at hSw); go_simp; try (with_reducible rfl))
                  try simp only [Act.put, List.setIfInBounds_toArray, List.set_cons_zero, List.set_cons_succ]
                  refine take_yes (i := 5) (d := 30) (v := ?_) rfl rfl (by kernel_rfl) (by kernel_rfl) (by kernel_rfl) (fun _ _ _ h => h) (by kernel_rfl) ?_ hHeld ?_
                  rotate_left
                  · (intro w hSw; (try dsimp only at hSw); go_simp; try (with_reducible rfl))
                  try simp only [Act.put, List.setIfInBounds_toArray, List.set_cons_zero, List.set_cons_succ]
                  refine take_yes (i := 6) (d := 31) (v := ?_) rfl rfl (by kernel_rfl) (by kernel_rfl) (by kernel_rfl) (fun _ _ _ h => h) (by kernel_rfl) ?_ hHeld ?_
                  rotate_left
                  · (intro w hSw; (try dsimp only at hSw); go_simp; try (with_reducible rfl))
                  try simp only [Act.put, List.setIfInBounds_toArray, List.set_cons_zero, List.set_cons_succ]
                  refine wpAnyH_ready (rs := [7]) (by kernel_rfl) (by simp) ?_
                  refine AllReadyH.cons rfl (fun K hK => ?_) AllReadyH.nil
                  go_simp
                  (go_at_call 109; refine (l1InB_any q.t 1 100 _).mono ?_; rintro e w3 ⟨rfl, hb⟩; rw [h2]; have HB2 := Lib.hid (HB1.out.trans (hb.mono HB1.out.size)); clear hb)
                  (first | refine hK.out _ _ ?_ (fun hHeld1 => ?_) | (go_wp2_with fail; refine hK.out _ _ ?_ (fun hHeld1 => ?_)))
                  · ((try dsimp only); (first | exact ⟨HB4.out, (HB4.out.cell (World.block_lt_of_cell? _ _ x0)).trans x0, (HB4.out.cell (World.block_lt_of_cell? _ _ x1)).trans x1, (HB4.out.cell (World.block_lt_of_cell? _ _ x2)).trans x2, (HB4.out.cell (World.block_lt_of_cell? _ _ x3)).trans x3, (HB4.out.cell (World.block_lt_of_cell? _ _ x4)).trans x4, (HB4.out.cell (World.block_lt_of_cell? _ _ x5)).trans x5⟩ | exact ⟨HB3.out, (HB3.out.cell (World.block_lt_of_cell? _ _ x0)).trans x0, (HB3.out.cell (World.block_lt_of_cell? _ _ x1)).trans x1, (HB3.out.cell (World.block_lt_of_cell? _ _ x2)).trans x2, (HB3.out.cell (World.block_lt_of_cell? _ _ x3)).trans x3, (HB3.out.cell (World.block_lt_of_cell? _ _ x4)).trans x4, (HB3.out.cell (World.block_lt_of_cell? _ _ x5)).trans x5⟩ | exact ⟨HB2.out, (HB2.out.cell (World.block_lt_of_cell? _ _ x0)).trans x0, (HB2.out.cell (World.block_lt_of_cell? _ _ x1)).trans x1, (HB2.out.cell (World.block_lt_of_cell? _ _ x2)).trans x2, (HB2.out.cell (World.block_lt_of_cell? _ _ x3)).trans x3, (HB2.out.cell (World.block_lt_of_cell? _ _ x4)).trans x4, (HB2.out.cell (World.block_lt_of_cell? _ _ x5)).trans x5⟩ | exact ⟨HB1.out, (HB1.out.cell (World.block_lt_of_cell? _ _ x0)).trans x0, (HB1.out.cell (World.block_lt_of_cell? _ _ x1)).trans x1, (HB1.out.cell (World.block_lt_of_cell? _ _ x2)).trans x2, (HB1.out.cell (World.block_lt_of_cell? _ _ x3)).trans x3, (HB1.out.cell (World.block_lt_of_cell? _ _ x4)).trans x4, (HB1.out.cell (World.block_lt_of_cell? _ _ x5)).trans x5⟩ | exact ⟨(Below.refl _ _).drew, x0, x1, x2, x3, x4, x5⟩))
                  clear hK K hHeld
                  have hHeld := hHeld1
                  clear hHeld1
                  try simp only [Act.put, List.setIfInBounds_toArray, List.set_cons_zero, List.set_cons_succ]
                  refine take_yes (i := 8) (d := 33) (v := ?_) rfl rfl (by kernel_rfl) (by kernel_rfl) (by kernel_rfl) (fun _ _ _ h => h) (by kernel_rfl) ?_ hHeld ?_
                  rotate_left
                  · (intro w hSw; (try dsimp only at hSw); go_simp; try (with_reducible rfl))
                  try simp only [Act.put, List.setIfInBounds_toArray, List.set_cons_zero, List.set_cons_succ]
                  refine take_yes (i := 9) (d := 34) (v := ?_) rfl rfl (by kernel_rfl) (by kernel_rfl) (by kernel_rfl) (fun _ _ _ h => h) (by kernel_rfl) ?_ hHeld ?_
                  rotate_left
                  · (intro w hSw; (try dsimp only at hSw); go_simp; try (with_reducible rfl))
                  try simp only [Act.put, List.setIfInBounds_toArray, List.set_cons_zero, List.set_cons_succ]
                  refine take_yes (i := 10) (d := 35) (v := ?_) rfl rfl (by kernel_rfl) (by kernel_rfl) (by kernel_rfl) (fun _ _ _ h => h) (by kernel_rfl) ?_ hHeld ?_
                  rotate_left
                  · (intro w hSw; (try dsimp only at hSw); go_simp; try (with_reducible rfl))
                  try simp only [Act.put, List.setIfInBounds_toArray, List.set_cons_zero, List.set_cons_succ]
                  refine take_yes (i := 11) (d := 36) (v := ?_) rfl rfl (by kernel_rfl) (by kernel_rfl) (by kernel_rfl) (fun _ _ _ h => h) (by kernel_rfl) ?_ hHeld ?_
                  rotate_left
                  · (intro w hSw; (try dsimp only at hSw); go_simp; try (with_reducible rfl))
                  try simp only [Act.put, List.setIfInBounds_toArray, List.set_cons_zero, List.set_cons_succ]
                  refine take_yes (i := 12) (d := 37) (v := ?_) rfl rfl (by kernel_rfl) (by kernel_rfl) (by kernel_rfl) (fun _ _ _ h => h) (by kernel_rfl) ?_ hHeld ?_
                  rotate_left
                  · (intro w hSw; (try dsimp only at hSw); go_simp; try (with_reducible rfl))
                  try simp only [Act.put, List.setIfInBounds_toArray, List.set_cons_zero, List.set_cons_succ]
                  refine wpAnyH_ready (rs := [13]) (by kernel_rfl) (by simp) ?_
                  refine AllReadyH.cons rfl (fun K hK => ?_) AllReadyH.nil
                  go_simp
                  (go_at_call 79; refine (l9Good_any B d q.a _ (HCV.out.below HB2.out) hfq).mono ?_; rintro e w4 ⟨rfl, hb⟩; rw [h3]; have HB3 := Lib.hid (HB2.out.trans (hb.mono HB2.out.size)); clear hb)
                  (first | refine hK.out _ _ ?_ (fun hHeld1 => ?_) | (go_wp2_with fail; refine hK.out _ _ ?_ (fun hHeld1 => ?_)))
                  · ((try dsimp only); (first | exact ⟨HB4.out, (HB4.out.cell (World.block_lt_of_cell? _ _ x0)).trans x0, (HB4.out.cell (World.block_lt_of_cell? _ _ x1)).trans x1, (HB4.out.cell (World.block_lt_of_cell? _ _ x2)).trans x2, (HB4.out.cell (World.block_lt_of_cell? _ _ x3)).trans x3, (HB4.out.cell (World.block_lt_of_cell? _ _ x4)).trans x4, (HB4.out.cell (World.block_lt_of_cell? _ _ x5)).trans x5⟩ | exact ⟨HB3.out, (HB3.out.cell (World.block_lt_of_cell? _ _ x0)).trans x0, (HB3.out.cell (World.block_lt_of_cell? _ _ x1)).trans x1, (HB3.out.cell (World.block_lt_of_cell? _ _ x2)).trans x2, (HB3.out.cell (World.block_lt_of_cell? _ _ x3)).trans x3, (HB3.out.cell (World.block_lt_of_cell? _ _ x4)).trans x4, (HB3.out.cell (World.block_lt_of_cell? _ _ x5)).trans x5⟩ | exact ⟨HB2.out, (HB2.out.cell (World.block_lt_of_cell? _ _ x0)).trans x0, (HB2.out.cell (World.block_lt_of_cell? _ _ x1)).trans x1, (HB2.out.cell (World.block_lt_of_cell? _ _ x2)).trans x2, (HB2.out.cell (World.block_lt_of_cell? _ _ x3)).trans x3, (HB2.out.cell (World.block_lt_of_cell? _ _ x4)).trans x4, (HB2.out.cell (World.block_lt_of_cell? _ _ x5)).trans x5⟩ | exact ⟨HB1.out, (HB1.out.cell (World.block_lt_of_cell? _ _ x0)).trans x0, (HB1.out.cell (World.block_lt_of_cell? _ _ x1)).trans x1, (HB1.out.cell (World.block_lt_of_cell? _ _ x2)).trans x2, (HB1.out.cell (World.block_lt_of_cell? _ _ x3)).trans x3, (HB1.out.cell (World.block_lt_of_cell? _ _ x4)).trans x4, (HB1.out.cell (World.block_lt_of_cell? _ _ x5)).trans x5⟩ | exact ⟨(Below.refl _ _).drew, x0, x1, x2, x3, x4, x5⟩))
                  clear hK K hHeld
                  have hHeld := hHeld1
                  clear hHeld1
                  try simp only [Act.put, List.setIfInBounds_toArray, List.set_cons_zero, List.set_cons_succ]
                  refine take_yes (i := 14) (d := 39) (v := ?_) rfl rfl (by kernel_rfl) (by kernel_rfl) (by kernel_rfl) (fun _ _ _ h => h) (by kernel_rfl) ?_ hHeld ?_
                  rotate_left
                  · (intro w hSw; (try dsimp only at hSw); go_simp; try (with_reducible rfl))
                  try simp only [Act.put, List.setIfInBounds_toArray, List.set_cons_zero, List.set_cons_succ]
                  refine take_yes (i := 15) (d := 40) (v := ?_) rfl rfl (by kernel_rfl) (by kernel_rfl) (by kernel_rfl) (fun _ _ _ h => h) (by kernel_rfl) ?_ hHeld ?_
                  rotate_left
                  · (intro w hSw; (try dsimp only at hSw); go_simp; try (with_reducible rfl))
                  try simp only [Act.put, List.setIfInBounds_toArray, List.set_cons_zero, List.set_cons_succ]
                  refine take_yes (i := 16) (d := 41) (v := ?_) rfl rfl (by kernel_rfl) (by kernel_rfl) (by kernel_rfl) (fun _ _ _ h => h) (by kernel_rfl) ?_ hHeld ?_
                  rotate_left
                  · (intro w hSw; (try dsimp only at hSw); go_simp; try (with_reducible rfl))
                  try simp only [Act.put, List.setIfInBounds_toArray, List.set_cons_zero, List.set_cons_succ]
                  refine take_yes (i := 17) (d := 42) (v := ?_) rfl rfl (by kernel_rfl) (by kernel_rfl) (by kernel_rfl) (fun _ _ _ h => h) (by kernel_rfl) ?_ hHeld ?_
                  rotate_left
                  · (intro w hSw; (try dsimp only at hSw); go_simp; try (with_reducible rfl))
                  try simp only [Act.put, List.setIfInBounds_toArray, List.set_cons_zero, List.set_cons_succ]
                  refine take_yes (i := 18) (d := 43) (v := ?_) rfl rfl (by kernel_rfl) (by kernel_rfl) (by kernel_rfl) (fun _ _ _ h => h) (by kernel_rfl) ?_ hHeld ?_
                  rotate_left
                  · (intro w hSw; (try dsimp only at hSw); go_simp; try (with_reducible rfl))
                  try simp only [Act.put, List.setIfInBounds_toArray, List.set_cons_zero, List.set_cons_succ]
                  refine take_yes (i := 19) (d := 44) (v := ?_) rfl rfl (by kernel_rfl) (by kernel_rfl) (by kernel_rfl) (fun _ _ _ h => h) (by kernel_rfl) ?_ hHeld ?_
                  rotate_left
                  · (intro w hSw; (try dsimp only at hSw); go_simp; try (with_reducible rfl))
                  try simp only [Act.put, List.setIfInBounds_toArray, List.set_cons_zero, List.set_cons_succ]
                  refine wpAnyH_ready (rs := [20]) (by kernel_rfl) (by simp) ?_
                  refine AllReadyH.cons rfl (fun K hK => ?_) AllReadyH.nil
                  go_simp
                  (go_at_call 67; refine (l9Fits_any T B t d ss q.a _ (HCT.out.below HB3.out) htc hfs (HCV.out.below HB3.out) hfq h3).mono ?_; rintro e w5 ⟨rfl, hb⟩; rw [h4]; have HB4 := Lib.hid (HB3.out.trans (hb.mono HB3.out.size)); clear hb)
                  (first | refine hK.out _ _ ?_ (fun hHeld1 => ?_) | (go_wp2_with fail; refine hK.out _ _ ?_ (fun hHeld1 => ?_)))
                  · ((try dsimp only); (first | exact ⟨HB4.out, (HB4.out.cell (World.block_lt_of_cell? _ _ x0)).trans x0, (HB4.out.cell (World.block_lt_of_cell? _ _ x1)).trans x1, (HB4.out.cell (World.block_lt_of_cell? _ _ x2)).trans x2, (HB4.out.cell (World.block_lt_of_cell? _ _ x3)).trans x3, (HB4.out.cell (World.block_lt_of_cell? _ _ x4)).trans x4, (HB4.out.cell (World.block_lt_of_cell? _ _ x5)).trans x5⟩ | exact ⟨HB3.out, (HB3.out.cell (World.block_lt_of_cell? _ _ x0)).trans x0, (HB3.out.cell (World.block_lt_of_cell? _ _ x1)).trans x1, (HB3.out.cell (World.block_lt_of_cell? _ _ x2)).trans x2, (HB3.out.cell (World.block_lt_of_cell? _ _ x3)).trans x3, (HB3.out.cell (World.block_lt_of_cell? _ _ x4)).trans x4, (HB3.out.cell (World.block_lt_of_cell? _ _ x5)).trans x5⟩ | exact ⟨HB2.out, (HB2.out.cell (World.block_lt_of_cell? _ _ x0)).trans x0, (HB2.out.cell (World.block_lt_of_cell? _ _ x1)).trans x1, (HB2.out.cell (World.block_lt_of_cell? _ _ x2)).trans x2, (HB2.out.cell (World.block_lt_of_cell? _ _ x3)).trans x3, (HB2.out.cell (World.block_lt_of_cell? _ _ x4)).trans x4, (HB2.out.cell (World.block_lt_of_cell? _ _ x5)).trans x5⟩ | exact ⟨HB1.out, (HB1.out.cell (World.block_lt_of_cell? _ _ x0)).trans x0, (HB1.out.cell (World.block_lt_of_cell? _ _ x1)).trans x1, (HB1.out.cell (World.block_lt_of_cell? _ _ x2)).trans x2, (HB1.out.cell (World.block_lt_of_cell? _ _ x3)).trans x3, (HB1.out.cell (World.block_lt_of_cell? _ _ x4)).trans x4, (HB1.out.cell (World.block_lt_of_cell? _ _ x5)).trans x5⟩ | exact ⟨(Below.refl _ _).drew, x0, x1, x2, x3, x4, x5⟩))
                  clear hK K hHeld
                  have hHeld := hHeld1
                  clear hHeld1
                  try simp only [Act.put, List.setIfInBounds_toArray, List.set_cons_zero, List.set_cons_succ]
                  refine take_yes (i := 21) (d := 46) (v := ?_) rfl rfl (by kernel_rfl) (by kernel_rfl) (by kernel_rfl) (fun _ _ _ h => h) (by kernel_rfl) ?_ hHeld ?_
                  rotate_left
                  · (intro w hSw; (try dsimp only at hSw); go_simp; try (with_reducible rfl))
                  try simp only [Act.put, List.setIfInBounds_toArray, List.set_cons_zero, List.set_cons_succ]
                  refine take_yes (i := 22) (d := 47) (v := ?_) rfl rfl (by kernel_rfl) (by kernel_rfl) (by kernel_rfl) (fun _ _ _ h => h) (by kernel_rfl) ?_ hHeld ?_
                  rotate_left
                  · (intro w hSw; (try dsimp only at hSw); go_simp; try (with_reducible rfl))
                  try simp only [Act.put, List.setIfInBounds_toArray, List.set_cons_zero, List.set_cons_succ]
                  refine take_yes (i := 23) (d := 48) (v := ?_) rfl rfl (by kernel_rfl) (by kernel_rfl) (by kernel_rfl) (fun _ _ _ h => h) (by kernel_rfl) ?_ hHeld ?_
                  rotate_left
                  · (intro w hSw; (try dsimp only at hSw); go_simp; try (with_reducible rfl))
                  try simp only [Act.put, List.setIfInBounds_toArray, List.set_cons_zero, List.set_cons_succ]
                  refine take_no (i := 24) (d := 49) rfl rfl (by kernel_rfl) (by kernel_rfl) (by kernel_rfl) (fun _ _ _ h => h) (by kernel_rfl) hHeld ?_
                  try simp only [Act.put, List.setIfInBounds_toArray, List.set_cons_zero, List.set_cons_succ]
                  refine take_no (i := 25) (d := 50) rfl rfl (by kernel_rfl) (by kernel_rfl) (by kernel_rfl) (fun _ _ _ h => h) (by kernel_rfl) hHeld ?_
                  try simp only [Act.put, List.setIfInBounds_toArray, List.set_cons_zero, List.set_cons_succ]
                  refine take_no (i := 26) (d := 51) rfl rfl (by kernel_rfl) (by kernel_rfl) (by kernel_rfl) (fun _ _ _ h => h) (by kernel_rfl) hHeld ?_
                  try simp only [Act.put, List.setIfInBounds_toArray, List.set_cons_zero, List.set_cons_succ]
                  refine take_no (i := 27) (d := 52) rfl rfl (by kernel_rfl) (by kernel_rfl) (by kernel_rfl) (fun _ _ _ h => h) (by kernel_rfl) hHeld ?_
                  try simp only [Act.put, List.setIfInBounds_toArray, List.set_cons_zero, List.set_cons_succ]
                  refine take_no (i := 28) (d := 53) rfl rfl (by kernel_rfl) (by kernel_rfl) (by kernel_rfl) (fun _ _ _ h => h) (by kernel_rfl) hHeld ?_
                  try simp only [Act.put, List.setIfInBounds_toArray, List.set_cons_zero, List.set_cons_succ]
                  refine take_no (i := 29) (d := 54) rfl rfl (by kernel_rfl) (by kernel_rfl) (by kernel_rfl) (fun _ _ _ h => h) (by kernel_rfl) hHeld ?_
                  try simp only [Act.put, List.setIfInBounds_toArray, List.set_cons_zero, List.set_cons_succ]
                  refine take_no (i := 30) (d := 55) rfl rfl (by kernel_rfl) (by kernel_rfl) (by kernel_rfl) (fun _ _ _ h => h) (by kernel_rfl) hHeld ?_
                  try simp only [Act.put, List.setIfInBounds_toArray, List.set_cons_zero, List.set_cons_succ]
                  refine take_no (i := 31) (d := 56) rfl rfl (by kernel_rfl) (by kernel_rfl) (by kernel_rfl) (fun _ _ _ h => h) (by kernel_rfl) hHeld ?_
                  try simp only [Act.put, List.setIfInBounds_toArray, List.set_cons_zero, List.set_cons_succ]
                  refine take_no (i := 32) (d := 57) rfl rfl (by kernel_rfl) (by kernel_rfl) (by kernel_rfl) (fun _ _ _ h => h) (by kernel_rfl) hHeld ?_
                  try simp only [Act.put, List.setIfInBounds_toArray, List.set_cons_zero, List.set_cons_succ]
                  refine take_no (i := 33) (d := 58) rfl rfl (by kernel_rfl) (by kernel_rfl) (by kernel_rfl) (fun _ _ _ h => h) (by kernel_rfl) hHeld ?_
                  try simp only [Act.put, List.setIfInBounds_toArray, List.set_cons_zero, List.set_cons_succ]
                  refine take_no (i := 34) (d := 59) rfl rfl (by kernel_rfl) (by kernel_rfl) (by kernel_rfl) (fun _ _ _ h => h) (by kernel_rfl) hHeld ?_
                  try simp only [Act.put, List.setIfInBounds_toArray, List.set_cons_zero, List.set_cons_succ]
                  refine take_no (i := 35) (d := 60) rfl rfl (by kernel_rfl) (by kernel_rfl) (by kernel_rfl) (fun _ _ _ h => h) (by kernel_rfl) hHeld ?_
                  try simp only [Act.put, List.setIfInBounds_toArray, List.set_cons_zero, List.set_cons_succ]
                  refine take_no (i := 36) (d := 61) rfl rfl (by kernel_rfl) (by kernel_rfl) (by kernel_rfl) (fun _ _ _ h => h) (by kernel_rfl) hHeld ?_
                  try simp only [Act.put, List.setIfInBounds_toArray, List.set_cons_zero, List.set_cons_succ]
                  refine take_yes (i := 37) (d := 62) (v := ?_) rfl rfl (by kernel_rfl) (by kernel_rfl) (by kernel_rfl) (fun _ _ _ h => h) (by kernel_rfl) ?_ hHeld ?_
                  rotate_left
                  · (intro w hSw; (try dsimp only at hSw); go_simp; try (with_reducible rfl))
                  try simp only [Act.put, List.setIfInBounds_toArray, List.set_cons_zero, List.set_cons_succ]
                  refine wpAnyH_done (by kernel_rfl) ?_ _
                  refine NoPanic.normal ?_
                  go_wp2
                  go_ret
                  exact ⟨ret_bool HN.out.symm, HB.out.trans ((HWb.out.trans (HB4.out.mono HWb.out.size)).mono HB.out.size)⟩
              · have HN := Lib.hid (propB_no (ss := ss) hlt (show okP ss ps k = false by rw [HK.out, h3]; simp))
                clear hq HK
                refine wp_region_noPanic ?_
                refine wp_region_held_drew (S := (fun w' => Below W.heap.size W w' ∧ w'.cell? ⟨wr.heap.size, 0, none⟩ = some (.int .i64 q.i) ∧ w'.cell? ⟨wr.heap.size, 1, none⟩ = some (.int .i64 q.a.k) ∧ w'.cell? ⟨wr.heap.size, 2, none⟩ = some (.int .i64 q.a.p) ∧ w'.cell? ⟨wr.heap.size, 3, none⟩ = some (.int .i64 q.a.n) ∧ w'.cell? ⟨wr.heap.size, 4, none⟩ = some (.slice B q.a.ws.length d) ∧ w'.cell? ⟨wr.heap.size, 5, none⟩ = some (.int .i64 q.t))) (by kernel_rfl) ?_ (fun hHeld => ?_)
                · ((try dsimp only); (first | exact ⟨HB4.out, (HB4.out.cell (World.block_lt_of_cell? _ _ x0)).trans x0, (HB4.out.cell (World.block_lt_of_cell? _ _ x1)).trans x1, (HB4.out.cell (World.block_lt_of_cell? _ _ x2)).trans x2, (HB4.out.cell (World.block_lt_of_cell? _ _ x3)).trans x3, (HB4.out.cell (World.block_lt_of_cell? _ _ x4)).trans x4, (HB4.out.cell (World.block_lt_of_cell? _ _ x5)).trans x5⟩ | exact ⟨HB3.out, (HB3.out.cell (World.block_lt_of_cell? _ _ x0)).trans x0, (HB3.out.cell (World.block_lt_of_cell? _ _ x1)).trans x1, (HB3.out.cell (World.block_lt_of_cell? _ _ x2)).trans x2, (HB3.out.cell (World.block_lt_of_cell? _ _ x3)).trans x3, (HB3.out.cell (World.block_lt_of_cell? _ _ x4)).trans x4, (HB3.out.cell (World.block_lt_of_cell? _ _ x5)).trans x5⟩ | exact ⟨HB2.out, (HB2.out.cell (World.block_lt_of_cell? _ _ x0)).trans x0, (HB2.out.cell (World.block_lt_of_cell? _ _ x1)).trans x1, (HB2.out.cell (World.block_lt_of_cell? _ _ x2)).trans x2, (HB2.out.cell (World.block_lt_of_cell? _ _ x3)).trans x3, (HB2.out.cell (World.block_lt_of_cell? _ _ x4)).trans x4, (HB2.out.cell (World.block_lt_of_cell? _ _ x5)).trans x5⟩ | exact ⟨HB1.out, (HB1.out.cell (World.block_lt_of_cell? _ _ x0)).trans x0, (HB1.out.cell (World.block_lt_of_cell? _ _ x1)).trans x1, (HB1.out.cell (World.block_lt_of_cell? _ _ x2)).trans x2, (HB1.out.cell (World.block_lt_of_cell? _ _ x3)).trans x3, (HB1.out.cell (World.block_lt_of_cell? _ _ x4)).trans x4, (HB1.out.cell (World.block_lt_of_cell? _ _ x5)).trans x5⟩ | exact ⟨(Below.refl _ _).drew, x0, x1, x2, x3, x4, x5⟩))
                refine take_yes (i := 0) (d := 25) (v := ?_) rfl rfl (by kernel_rfl) (by kernel_rfl) (by kernel_rfl) (fun _ _ _ h => h) (by kernel_rfl) ?_ hHeld ?_
                rotate_left
                · (intro w hSw; (try dsimp only at hSw); go_simp; try (with_reducible rfl))
                try simp only [Act.put, List.setIfInBounds_toArray, List.set_cons_zero, List.set_cons_succ]
                refine take_yes (i := 1) (d := 26) (v := ?_) rfl rfl (by kernel_rfl) (by kernel_rfl) (by kernel_rfl) (fun _ _ _ h => h) (by kernel_rfl) ?_ hHeld ?_
                rotate_left
                · (intro w hSw; (try dsimp only at hSw); go_simp; try (with_reducible rfl))
                try simp only [Act.put, List.setIfInBounds_toArray, List.set_cons_zero, List.set_cons_succ]
                refine wpAnyH_ready (rs := [2]) (by kernel_rfl) (by simp) ?_
                refine AllReadyH.cons rfl (fun K hK => ?_) AllReadyH.nil
                go_simp
                (go_at_call 109; refine (l1InB_any q.i 1 99 _).mono ?_; rintro e w2 ⟨rfl, hb⟩; rw [h1]; have HB1 := Lib.hid ((below_drewN (Below.refl W.heap.size W) 1).trans hb); clear hb)
                (first | refine hK.out _ _ ?_ (fun hHeld1 => ?_) | (go_wp2_with fail; refine hK.out _ _ ?_ (fun hHeld1 => ?_)))
                · ((try dsimp only); (first | exact ⟨HB4.out, (HB4.out.cell (World.block_lt_of_cell? _ _ x0)).trans x0, (HB4.out.cell (World.block_lt_of_cell? _ _ x1)).trans x1, (HB4.out.cell (World.block_lt_of_cell? _ _ x2)).trans x2, (HB4.out.cell (World.block_lt_of_cell? _ _ x3)).trans x3, (HB4.out.cell (World.block_lt_of_cell? _ _ x4)).trans x4, (HB4.out.cell (World.block_lt_of_cell? _ _ x5)).trans x5⟩ | exact ⟨HB3.out, (HB3.out.cell (World.block_lt_of_cell? _ _ x0)).trans x0, (HB3.out.cell (World.block_lt_of_cell? _ _ x1)).trans x1, (HB3.out.cell (World.block_lt_of_cell? _ _ x2)).trans x2, (HB3.out.cell (World.block_lt_of_cell? _ _ x3)).trans x3, (HB3.out.cell (World.block_lt_of_cell? _ _ x4)).trans x4, (HB3.out.cell (World.block_lt_of_cell? _ _ x5)).trans x5⟩ | exact ⟨HB2.out, (HB2.out.cell (World.block_lt_of_cell? _ _ x0)).trans x0, (HB2.out.cell (World.block_lt_of_cell? _ _ x1)).trans x1, (HB2.out.cell (World.block_lt_of_cell? _ _ x2)).trans x2, (HB2.out.cell (World.block_lt_of_cell? _ _ x3)).trans x3, (HB2.out.cell (World.block_lt_of_cell? _ _ x4)).trans x4, (HB2.out.cell (World.block_lt_of_cell? _ _ x5)).trans x5⟩ | exact ⟨HB1.out, (HB1.out.cell (World.block_lt_of_cell? _ _ x0)).trans x0, (HB1.out.cell (World.block_lt_of_cell? _ _ x1)).trans x1, (HB1.out.cell (World.block_lt_of_cell? _ _ x2)).trans x2, (HB1.out.cell (World.block_lt_of_cell? _ _ x3)).trans x3, (HB1.out.cell (World.block_lt_of_cell? _ _ x4)).trans x4, (HB1.out.cell (World.block_lt_of_cell? _ _ x5)).trans x5⟩ | exact ⟨(Below.refl _ _).drew, x0, x1, x2, x3, x4, x5⟩))
                clear hK K hHeld
                have hHeld := hHeld1
                clear hHeld1
                try simp only [Act.put, List.setIfInBounds_toArray, List.set_cons_zero, List.set_cons_succ]
                refine take_yes (i := 3) (d := 28) (v := ?_) rfl rfl (by kernel_rfl) (by kernel_rfl) (by kernel_rfl) (fun _ _ _ h => h) (by kernel_rfl) ?_ hHeld ?_
                rotate_left
                · (intro w hSw; (try dsimp only at hSw); go_simp; try (with_reducible rfl))
                try simp only [Act.put, List.setIfInBounds_toArray, List.set_cons_zero, List.set_cons_succ]
                refine take_yes (i := 4) (d := 29) (v := ?_) rfl rfl (by kernel_rfl) (by kernel_rfl) (by kernel_rfl) (fun _ _ _ h => h) (by kernel_rfl) ?_ hHeld ?_
                rotate_left
                · (intro w hSw; (try dsimp only at hSw); go_simp; try (with_reducible rfl))
                try simp only [Act.put, List.setIfInBounds_toArray, List.set_cons_zero, List.set_cons_succ]
                refine take_yes (i := 5) (d := 30) (v := ?_) rfl rfl (by kernel_rfl) (by kernel_rfl) (by kernel_rfl) (fun _ _ _ h => h) (by kernel_rfl) ?_ hHeld ?_
                rotate_left
                · (intro w hSw; (try dsimp only at hSw); go_simp; try (with_reducible rfl))
                try simp only [Act.put, List.setIfInBounds_toArray, List.set_cons_zero, List.set_cons_succ]
                refine take_yes (i := 6) (d := 31) (v := ?_) rfl rfl (by kernel_rfl) (by kernel_rfl) (by kernel_rfl) (fun _ _ _ h => h) (by kernel_rfl) ?_ hHeld ?_
                rotate_left
                · (intro w hSw; (try dsimp only at hSw); go_simp; try (with_reducible rfl))
                try simp only [Act.put, List.setIfInBounds_toArray, List.set_cons_zero, List.set_cons_succ]
                refine wpAnyH_ready (rs := [7]) (by kernel_rfl) (by simp) ?_
                refine AllReadyH.cons rfl (fun K hK => ?_) AllReadyH.nil
                go_simp
                (go_at_call 109; refine (l1InB_any q.t 1 100 _).mono ?_; rintro e w3 ⟨rfl, hb⟩; rw [h2]; have HB2 := Lib.hid (HB1.out.trans (hb.mono HB1.out.size)); clear hb)
                (first | refine hK.out _ _ ?_ (fun hHeld1 => ?_) | (go_wp2_with fail; refine hK.out _ _ ?_ (fun hHeld1 => ?_)))
                · ((try dsimp only); (first | exact ⟨HB4.out, (HB4.out.cell (World.block_lt_of_cell? _ _ x0)).trans x0, (HB4.out.cell (World.block_lt_of_cell? _ _ x1)).trans x1, (HB4.out.cell (World.block_lt_of_cell? _ _ x2)).trans x2, (HB4.out.cell (World.block_lt_of_cell? _ _ x3)).trans x3, (HB4.out.cell (World.block_lt_of_cell? _ _ x4)).trans x4, (HB4.out.cell (World.block_lt_of_cell? _ _ x5)).trans x5⟩ | exact ⟨HB3.out, (HB3.out.cell (World.block_lt_of_cell? _ _ x0)).trans x0, (HB3.out.cell (World.block_lt_of_cell? _ _ x1)).trans x1, (HB3.out.cell (World.block_lt_of_cell? _ _ x2)).trans x2, (HB3.out.cell (World.block_lt_of_cell? _ _ x3)).trans x3, (HB3.out.cell (World.block_lt_of_cell? _ _ x4)).trans x4, (HB3.out.cell (World.block_lt_of_cell? _ _ x5)).trans x5⟩ | exact ⟨HB2.out, (HB2.out.cell (World.block_lt_of_cell? _ _ x0)).trans x0, (HB2.out.cell (World.block_lt_of_cell? _ _ x1)).trans x1, (HB2.out.cell (World.block_lt_of_cell? _ _ x2)).trans x2, (HB2.out.cell (World.block_lt_of_cell? _ _ x3)).trans x3, (HB2.out.cell (World.block_lt_of_cell? _ _ x4)).trans x4, (HB2.out.cell (World.block_lt_of_cell? _ _ x5)).trans x5⟩ | exact ⟨HB1.out, (HB1.out.cell (World.block_lt_of_cell? _ _ x0)).trans x0, (HB1.out.cell (World.block_lt_of_cell? _ _ x1)).trans x1, (HB1.out.cell (World.block_lt_of_cell? _ _ x2)).trans x2, (HB1.out.cell (World.block_lt_of_cell? _ _ x3)).trans x3, (HB1.out.cell (World.block_lt_of_cell? _ _ x4)).trans x4, (HB1.out.cell (World.block_lt_of_cell? _ _ x5)).trans x5⟩ | exact ⟨(Below.refl _ _).drew, x0, x1, x2, x3, x4, x5⟩))
                clear hK K hHeld
                have hHeld := hHeld1
                clear hHeld1
                try simp only [Act.put, List.setIfInBounds_toArray, List.set_cons_zero, List.set_cons_succ]
                refine take_yes (i := 8) (d := 33) (v := ?_) rfl rfl (by kernel_rfl) (by kernel_rfl) (by kernel_rfl) (fun _ _ _ h => h) (by kernel_rfl) ?_ hHeld ?_
                rotate_left
                · (intro w hSw; (try dsimp only at hSw); go_simp; try (with_reducible rfl))
                try simp only [Act.put, List.setIfInBounds_toArray, List.set_cons_zero, List.set_cons_succ]
                refine take_yes (i := 9) (d := 34) (v := ?_) rfl rfl (by kernel_rfl) (by kernel_rfl) (by kernel_rfl) (fun _ _ _ h => h) (by kernel_rfl) ?_ hHeld ?_
                rotate_left
                · (intro w hSw; (try dsimp only at hSw); go_simp; try (with_reducible rfl))
                try simp only [Act.put, List.setIfInBounds_toArray, List.set_cons_zero, List.set_cons_succ]
                refine take_yes (i := 10) (d := 35) (v := ?_) rfl rfl (by kernel_rfl) (by kernel_rfl) (by kernel_rfl) (fun _ _ _ h => h) (by kernel_rfl) ?_ hHeld ?_
                rotate_left
                · (intro w hSw; (try dsimp only at hSw); go_simp; try (with_reducible rfl))
                try simp only [Act.put, List.setIfInBounds_toArray, List.set_cons_zero, List.set_cons_succ]
                refine take_yes (i := 11) (d := 36) (v := ?_) rfl rfl (by kernel_rfl) (by kernel_rfl) (by kernel_rfl) (fun _ _ _ h => h) (by kernel_rfl) ?_ hHeld ?_
                rotate_left
                · (intro w hSw; (try dsimp only at hSw); go_simp; try (with_reducible rfl))
                try simp only [Act.put, List.setIfInBounds_toArray, List.set_cons_zero, List.set_cons_succ]
                refine take_yes (i := 12) (d := 37) (v := ?_) rfl rfl (by kernel_rfl) (by kernel_rfl) (by kernel_rfl) (fun _ _ _ h => h) (by kernel_rfl) ?_ hHeld ?_
                rotate_left
                · (intro w hSw; (try dsimp only at hSw); go_simp; try (with_reducible rfl))
                try simp only [Act.put, List.setIfInBounds_toArray, List.set_cons_zero, List.set_cons_succ]
                refine wpAnyH_ready (rs := [13]) (by kernel_rfl) (by simp) ?_
                refine AllReadyH.cons rfl (fun K hK => ?_) AllReadyH.nil
                go_simp
                (go_at_call 79; refine (l9Good_any B d q.a _ (HCV.out.below HB2.out) hfq).mono ?_; rintro e w4 ⟨rfl, hb⟩; rw [h3]; have HB3 := Lib.hid (HB2.out.trans (hb.mono HB2.out.size)); clear hb)
                (first | refine hK.out _ _ ?_ (fun hHeld1 => ?_) | (go_wp2_with fail; refine hK.out _ _ ?_ (fun hHeld1 => ?_)))
                · ((try dsimp only); (first | exact ⟨HB4.out, (HB4.out.cell (World.block_lt_of_cell? _ _ x0)).trans x0, (HB4.out.cell (World.block_lt_of_cell? _ _ x1)).trans x1, (HB4.out.cell (World.block_lt_of_cell? _ _ x2)).trans x2, (HB4.out.cell (World.block_lt_of_cell? _ _ x3)).trans x3, (HB4.out.cell (World.block_lt_of_cell? _ _ x4)).trans x4, (HB4.out.cell (World.block_lt_of_cell? _ _ x5)).trans x5⟩ | exact ⟨HB3.out, (HB3.out.cell (World.block_lt_of_cell? _ _ x0)).trans x0, (HB3.out.cell (World.block_lt_of_cell? _ _ x1)).trans x1, (HB3.out.cell (World.block_lt_of_cell? _ _ x2)).trans x2, (HB3.out.cell (World.block_lt_of_cell? _ _ x3)).trans x3, (HB3.out.cell (World.block_lt_of_cell? _ _ x4)).trans x4, (HB3.out.cell (World.block_lt_of_cell? _ _ x5)).trans x5⟩ | exact ⟨HB2.out, (HB2.out.cell (World.block_lt_of_cell? _ _ x0)).trans x0, (HB2.out.cell (World.block_lt_of_cell? _ _ x1)).trans x1, (HB2.out.cell (World.block_lt_of_cell? _ _ x2)).trans x2, (HB2.out.cell (World.block_lt_of_cell? _ _ x3)).trans x3, (HB2.out.cell (World.block_lt_of_cell? _ _ x4)).trans x4, (HB2.out.cell (World.block_lt_of_cell? _ _ x5)).trans x5⟩ | exact ⟨HB1.out, (HB1.out.cell (World.block_lt_of_cell? _ _ x0)).trans x0, (HB1.out.cell (World.block_lt_of_cell? _ _ x1)).trans x1, (HB1.out.cell (World.block_lt_of_cell? _ _ x2)).trans x2, (HB1.out.cell (World.block_lt_of_cell? _ _ x3)).trans x3, (HB1.out.cell (World.block_lt_of_cell? _ _ x4)).trans x4, (HB1.out.cell (World.block_lt_of_cell? _ _ x5)).trans x5⟩ | exact ⟨(Below.refl _ _).drew, x0, x1, x2, x3, x4, x5⟩))
                clear hK K hHeld
                have hHeld := hHeld1
                clear hHeld1
                try simp only [Act.put, List.setIfInBounds_toArray, List.set_cons_zero, List.set_cons_succ]
                refine take_yes (i := 14) (d := 39) (v := ?_) rfl rfl (by kernel_rfl) (by kernel_rfl) (by kernel_rfl) (fun _ _ _ h => h) (by kernel_rfl) ?_ hHeld ?_
                rotate_left
                · (intro w hSw; (try dsimp only at hSw); go_simp; try (with_reducible rfl))
                try simp only [Act.put, List.setIfInBounds_toArray, List.set_cons_zero, List.set_cons_succ]
                refine take_yes (i := 15) (d := 40) (v := ?_) rfl rfl (by kernel_rfl) (by kernel_rfl) (by kernel_rfl) (fun _ _ _ h => h) (by kernel_rfl) ?_ hHeld ?_
                rotate_left
                · (intro w hSw; (try dsimp only at hSw); go_simp; try (with_reducible rfl))
                try simp only [Act.put, List.setIfInBounds_toArray, List.set_cons_zero, List.set_cons_succ]
                refine take_yes (i := 16) (d := 41) (v := ?_) rfl rfl (by kernel_rfl) (by kernel_rfl) (by kernel_rfl) (fun _ _ _ h => h) (by kernel_rfl) ?_ hHeld ?_
                rotate_left
                · (intro w hSw; (try dsimp only at hSw); go_simp; try (with_reducible rfl))
                try simp only [Act.put, List.setIfInBounds_toArray, List.set_cons_zero, List.set_cons_succ]
                refine take_no (i := 17) (d := 42) rfl rfl (by kernel_rfl) (by kernel_rfl) (by kernel_rfl) (fun _ _ _ h => h) (by kernel_rfl) hHeld ?_
                try simp only [Act.put, List.setIfInBounds_toArray, List.set_cons_zero, List.set_cons_succ]
                refine take_no (i := 18) (d := 43) rfl rfl (by kernel_rfl) (by kernel_rfl) (by kernel_rfl) (fun _ _ _ h => h) (by kernel_rfl) hHeld ?_
                try simp only [Act.put, List.setIfInBounds_toArray, List.set_cons_zero, List.set_cons_succ]
                refine take_no (i := 19) (d := 44) rfl rfl (by kernel_rfl) (by kernel_rfl) (by kernel_rfl) (fun _ _ _ h => h) (by kernel_rfl) hHeld ?_
                try simp only [Act.put, List.setIfInBounds_toArray, List.set_cons_zero, List.set_cons_succ]
                refine take_no (i := 20) (d := 45) rfl rfl (by kernel_rfl) (by kernel_rfl) (by kernel_rfl) (fun _ _ _ h => h) (by kernel_rfl) hHeld ?_
                try simp only [Act.put, List.setIfInBounds_toArray, List.set_cons_zero, List.set_cons_succ]
                refine take_no (i := 21) (d := 46) rfl rfl (by kernel_rfl) (by kernel_rfl) (by kernel_rfl) (fun _ _ _ h => h) (by kernel_rfl) hHeld ?_
                try simp only [Act.put, List.setIfInBounds_toArray, List.set_cons_zero, List.set_cons_succ]
                refine take_yes (i := 22) (d := 47) (v := ?_) rfl rfl (by kernel_rfl) (by kernel_rfl) (by kernel_rfl) (fun _ _ _ h => h) (by kernel_rfl) ?_ hHeld ?_
                rotate_left
                · (intro w hSw; (try dsimp only at hSw); go_simp; try (with_reducible rfl))
                try simp only [Act.put, List.setIfInBounds_toArray, List.set_cons_zero, List.set_cons_succ]
                refine take_yes (i := 23) (d := 48) (v := ?_) rfl rfl (by kernel_rfl) (by kernel_rfl) (by kernel_rfl) (fun _ _ _ h => h) (by kernel_rfl) ?_ hHeld ?_
                rotate_left
                · (intro w hSw; (try dsimp only at hSw); go_simp; try (with_reducible rfl))
                try simp only [Act.put, List.setIfInBounds_toArray, List.set_cons_zero, List.set_cons_succ]
                refine take_no (i := 24) (d := 49) rfl rfl (by kernel_rfl) (by kernel_rfl) (by kernel_rfl) (fun _ _ _ h => h) (by kernel_rfl) hHeld ?_
                try simp only [Act.put, List.setIfInBounds_toArray, List.set_cons_zero, List.set_cons_succ]
                refine take_no (i := 25) (d := 50) rfl rfl (by kernel_rfl) (by kernel_rfl) (by kernel_rfl) (fun _ _ _ h => h) (by kernel_rfl) hHeld ?_
                try simp only [Act.put, List.setIfInBounds_toArray, List.set_cons_zero, List.set_cons_succ]
                refine take_no (i := 26) (d := 51) rfl rfl (by kernel_rfl) (by kernel_rfl) (by kernel_rfl) (fun _ _ _ h => h) (by kernel_rfl) hHeld ?_
                try simp only [Act.put, List.setIfInBounds_toArray, List.set_cons_zero, List.set_cons_succ]
                refine take_no (i := 27) (d := 52) rfl rfl (by kernel_rfl) (by kernel_rfl) (by kernel_rfl) (fun _ _ _ h => h) (by kernel_rfl) hHeld ?_
                try simp only [Act.put, List.setIfInBounds_toArray, List.set_cons_zero, List.set_cons_succ]
                refine take_no (i := 28) (d := 53) rfl rfl (by kernel_rfl) (by kernel_rfl) (by kernel_rfl) (fun _ _ _ h => h) (by kernel_rfl) hHeld ?_
                try simp only [Act.put, List.setIfInBounds_toArray, List.set_cons_zero, List.set_cons_succ]
                refine take_no (i := 29) (d := 54) rfl rfl (by kernel_rfl) (by kernel_rfl) (by kernel_rfl) (fun _ _ _ h => h) (by kernel_rfl) hHeld ?_
                try simp only [Act.put, List.setIfInBounds_toArray, List.set_cons_zero, List.set_cons_succ]
                refine take_no (i := 30) (d := 55) rfl rfl (by kernel_rfl) (by kernel_rfl) (by kernel_rfl) (fun _ _ _ h => h) (by kernel_rfl) hHeld ?_
                try simp only [Act.put, List.setIfInBounds_toArray, List.set_cons_zero, List.set_cons_succ]
                refine take_no (i := 31) (d := 56) rfl rfl (by kernel_rfl) (by kernel_rfl) (by kernel_rfl) (fun _ _ _ h => h) (by kernel_rfl) hHeld ?_
                try simp only [Act.put, List.setIfInBounds_toArray, List.set_cons_zero, List.set_cons_succ]
                refine take_no (i := 32) (d := 57) rfl rfl (by kernel_rfl) (by kernel_rfl) (by kernel_rfl) (fun _ _ _ h => h) (by kernel_rfl) hHeld ?_
                try simp only [Act.put, List.setIfInBounds_toArray, List.set_cons_zero, List.set_cons_succ]
                refine take_no (i := 33) (d := 58) rfl rfl (by kernel_rfl) (by kernel_rfl) (by kernel_rfl) (fun _ _ _ h => h) (by kernel_rfl) hHeld ?_
                try simp only [Act.put, List.setIfInBounds_toArray, List.set_cons_zero, List.set_cons_succ]
                refine take_no (i := 34) (d := 59) rfl rfl (by kernel_rfl) (by kernel_rfl) (by kernel_rfl) (fun _ _ _ h => h) (by kernel_rfl) hHeld ?_
                try simp only [Act.put, List.setIfInBounds_toArray, List.set_cons_zero, List.set_cons_succ]
                refine take_no (i := 35) (d := 60) rfl rfl (by kernel_rfl) (by kernel_rfl) (by kernel_rfl) (fun _ _ _ h => h) (by kernel_rfl) hHeld ?_
                try simp only [Act.put, List.setIfInBounds_toArray, List.set_cons_zero, List.set_cons_succ]
                refine take_no (i := 36) (d := 61) rfl rfl (by kernel_rfl) (by kernel_rfl) (by kernel_rfl) (fun _ _ _ h => h) (by kernel_rfl) hHeld ?_
                try simp only [Act.put, List.setIfInBounds_toArray, List.set_cons_zero, List.set_cons_succ]
                refine take_yes (i := 37) (d := 62) (v := ?_) rfl rfl (by kernel_rfl) (by kernel_rfl) (by kernel_rfl) (fun _ _ _ h => h) (by kernel_rfl) ?_ hHeld ?_
                rotate_left
                · (intro w hSw; (try dsimp only at hSw); go_simp; try (with_reducible rfl))
                try simp only [Act.put, List.setIfInBounds_toArray, List.set_cons_zero, List.set_cons_succ]
                refine wpAnyH_done (by kernel_rfl) ?_ _
                refine NoPanic.normal ?_
                go_wp2
                go_ret
                exact ⟨ret_bool HN.out.symm, HB.out.trans ((HWb.out.trans (HB3.out.mono HWb.out.size)).mono HB.out.size)⟩
            · have HN := Lib.hid (propB_no (ss := ss) hlt (show okP ss ps k = false by rw [HK.out, h2]; simp))
              clear hq HK
              refine wp_region_noPanic ?_
              refine wp_region_held_drew (S := (fun w' => Below W.heap.size W w' ∧ w'.cell? ⟨wr.heap.size, 0, none⟩ = some (.int .i64 q.i) ∧ w'.cell? ⟨wr.heap.size, 1, none⟩ = some (.int .i64 q.a.k) ∧ w'.cell? ⟨wr.heap.size, 2, none⟩ = some (.int .i64 q.a.p) ∧ w'.cell? ⟨wr.heap.size, 3, none⟩ = some (.int .i64 q.a.n) ∧ w'.cell? ⟨wr.heap.size, 4, none⟩ = some (.slice B q.a.ws.length d) ∧ w'.cell? ⟨wr.heap.size, 5, none⟩ = some (.int .i64 q.t))) (by kernel_rfl) ?_ (fun hHeld => ?_)
              · ((try dsimp only); (first | exact ⟨HB4.out, (HB4.out.cell (World.block_lt_of_cell? _ _ x0)).trans x0, (HB4.out.cell (World.block_lt_of_cell? _ _ x1)).trans x1, (HB4.out.cell (World.block_lt_of_cell? _ _ x2)).trans x2, (HB4.out.cell (World.block_lt_of_cell? _ _ x3)).trans x3, (HB4.out.cell (World.block_lt_of_cell? _ _ x4)).trans x4, (HB4.out.cell (World.block_lt_of_cell? _ _ x5)).trans x5⟩ | exact ⟨HB3.out, (HB3.out.cell (World.block_lt_of_cell? _ _ x0)).trans x0, (HB3.out.cell (World.block_lt_of_cell? _ _ x1)).trans x1, (HB3.out.cell (World.block_lt_of_cell? _ _ x2)).trans x2, (HB3.out.cell (World.block_lt_of_cell? _ _ x3)).trans x3, (HB3.out.cell (World.block_lt_of_cell? _ _ x4)).trans x4, (HB3.out.cell (World.block_lt_of_cell? _ _ x5)).trans x5⟩ | exact ⟨HB2.out, (HB2.out.cell (World.block_lt_of_cell? _ _ x0)).trans x0, (HB2.out.cell (World.block_lt_of_cell? _ _ x1)).trans x1, (HB2.out.cell (World.block_lt_of_cell? _ _ x2)).trans x2, (HB2.out.cell (World.block_lt_of_cell? _ _ x3)).trans x3, (HB2.out.cell (World.block_lt_of_cell? _ _ x4)).trans x4, (HB2.out.cell (World.block_lt_of_cell? _ _ x5)).trans x5⟩ | exact ⟨HB1.out, (HB1.out.cell (World.block_lt_of_cell? _ _ x0)).trans x0, (HB1.out.cell (World.block_lt_of_cell? _ _ x1)).trans x1, (HB1.out.cell (World.block_lt_of_cell? _ _ x2)).trans x2, (HB1.out.cell (World.block_lt_of_cell? _ _ x3)).trans x3, (HB1.out.cell (World.block_lt_of_cell? _ _ x4)).trans x4, (HB1.out.cell (World.block_lt_of_cell? _ _ x5)).trans x5⟩ | exact ⟨(Below.refl _ _).drew, x0, x1, x2, x3, x4, x5⟩))
              refine take_yes (i := 0) (d := 25) (v := ?_) rfl rfl (by kernel_rfl) (by kernel_rfl) (by kernel_rfl) (fun _ _ _ h => h) (by kernel_rfl) ?_ hHeld ?_
              rotate_left
              · (intro w hSw; (try dsimp only at hSw); go_simp; try (with_reducible rfl))
              try simp only [Act.put, List.setIfInBounds_toArray, List.set_cons_zero, List.set_cons_succ]
              refine take_yes (i := 1) (d := 26) (v := ?_) rfl rfl (by kernel_rfl) (by kernel_rfl) (by kernel_rfl) (fun _ _ _ h => h) (by kernel_rfl) ?_ hHeld ?_
              rotate_left
              · (intro w hSw; (try dsimp only at hSw); go_simp; try (with_reducible rfl))
              try simp only [Act.put, List.setIfInBounds_toArray, List.set_cons_zero, List.set_cons_succ]
              refine wpAnyH_ready (rs := [2]) (by kernel_rfl) (by simp) ?_
              refine AllReadyH.cons rfl (fun K hK => ?_) AllReadyH.nil
              go_simp
              (go_at_call 109; refine (l1InB_any q.i 1 99 _).mono ?_; rintro e w2 ⟨rfl, hb⟩; rw [h1]; have HB1 := Lib.hid ((below_drewN (Below.refl W.heap.size W) 1).trans hb); clear hb)
              (first | refine hK.out _ _ ?_ (fun hHeld1 => ?_) | (go_wp2_with fail; refine hK.out _ _ ?_ (fun hHeld1 => ?_)))
              · ((try dsimp only); (first | exact ⟨HB4.out, (HB4.out.cell (World.block_lt_of_cell? _ _ x0)).trans x0, (HB4.out.cell (World.block_lt_of_cell? _ _ x1)).trans x1, (HB4.out.cell (World.block_lt_of_cell? _ _ x2)).trans x2, (HB4.out.cell (World.block_lt_of_cell? _ _ x3)).trans x3, (HB4.out.cell (World.block_lt_of_cell? _ _ x4)).trans x4, (HB4.out.cell (World.block_lt_of_cell? _ _ x5)).trans x5⟩ | exact ⟨HB3.out, (HB3.out.cell (World.block_lt_of_cell? _ _ x0)).trans x0, (HB3.out.cell (World.block_lt_of_cell? _ _ x1)).trans x1, (HB3.out.cell (World.block_lt_of_cell? _ _ x2)).trans x2, (HB3.out.cell (World.block_lt_of_cell? _ _ x3)).trans x3, (HB3.out.cell (World.block_lt_of_cell? _ _ x4)).trans x4, (HB3.out.cell (World.block_lt_of_cell? _ _ x5)).trans x5⟩ | exact ⟨HB2.out, (HB2.out.cell (World.block_lt_of_cell? _ _ x0)).trans x0, (HB2.out.cell (World.block_lt_of_cell? _ _ x1)).trans x1, (HB2.out.cell (World.block_lt_of_cell? _ _ x2)).trans x2, (HB2.out.cell (World.block_lt_of_cell? _ _ x3)).trans x3, (HB2.out.cell (World.block_lt_of_cell? _ _ x4)).trans x4, (HB2.out.cell (World.block_lt_of_cell? _ _ x5)).trans x5⟩ | exact ⟨HB1.out, (HB1.out.cell (World.block_lt_of_cell? _ _ x0)).trans x0, (HB1.out.cell (World.block_lt_of_cell? _ _ x1)).trans x1, (HB1.out.cell (World.block_lt_of_cell? _ _ x2)).trans x2, (HB1.out.cell (World.block_lt_of_cell? _ _ x3)).trans x3, (HB1.out.cell (World.block_lt_of_cell? _ _ x4)).trans x4, (HB1.out.cell (World.block_lt_of_cell? _ _ x5)).trans x5⟩ | exact ⟨(Below.refl _ _).drew, x0, x1, x2, x3, x4, x5⟩))
              clear hK K hHeld
              have hHeld := hHeld1
              clear hHeld1
              try simp only [Act.put, List.setIfInBounds_toArray, List.set_cons_zero, List.set_cons_succ]
              refine take_yes (i := 3) (d := 28) (v := ?_) rfl rfl (by kernel_rfl) (by kernel_rfl) (by kernel_rfl) (fun _ _ _ h => h) (by kernel_rfl) ?_ hHeld ?_
              rotate_left
              · (intro w hSw; (try dsimp only at hSw); go_simp; try (with_reducible rfl))
              try simp only [Act.put, List.setIfInBounds_toArray, List.set_cons_zero, List.set_cons_succ]
              refine take_yes (i := 4) (d := 29) (v := ?_) rfl rfl (by kernel_rfl) (by kernel_rfl) (by kernel_rfl) (fun _ _ _ h => h) (by kernel_rfl) ?_ hHeld ?_
              rotate_left
              · (intro w hSw; (try dsimp only at hSw); go_simp; try (with_reducible rfl))
              try simp only [Act.put, List.setIfInBounds_toArray, List.set_cons_zero, List.set_cons_succ]
              refine take_yes (i := 5) (d := 30) (v := ?_) rfl rfl (by kernel_rfl) (by kernel_rfl) (by kernel_rfl) (fun _ _ _ h => h) (by kernel_rfl) ?_ hHeld ?_
              rotate_left
              · (intro w hSw; (try dsimp only at hSw); go_simp; try (with_reducible rfl))
              try simp only [Act.put, List.setIfInBounds_toArray, List.set_cons_zero, List.set_cons_succ]
              refine take_yes (i := 6) (d := 31) (v := ?_) rfl rfl (by kernel_rfl) (by kernel_rfl) (by kernel_rfl) (fun _ _ _ h => h) (by kernel_rfl) ?_ hHeld ?_
              rotate_left
              · (intro w hSw; (try dsimp only at hSw); go_simp; try (with_reducible rfl))
              try simp only [Act.put, List.setIfInBounds_toArray, List.set_cons_zero, List.set_cons_succ]
              refine wpAnyH_ready (rs := [7]) (by kernel_rfl) (by simp) ?_
              refine AllReadyH.cons rfl (fun K hK => ?_) AllReadyH.nil
              go_simp
              (go_at_call 109; refine (l1InB_any q.t 1 100 _).mono ?_; rintro e w3 ⟨rfl, hb⟩; rw [h2]; have HB2 := Lib.hid (HB1.out.trans (hb.mono HB1.out.size)); clear hb)
              (first | refine hK.out _ _ ?_ (fun hHeld1 => ?_) | (go_wp2_with fail; refine hK.out _ _ ?_ (fun hHeld1 => ?_)))
              · ((try dsimp only); (first | exact ⟨HB4.out, (HB4.out.cell (World.block_lt_of_cell? _ _ x0)).trans x0, (HB4.out.cell (World.block_lt_of_cell? _ _ x1)).trans x1, (HB4.out.cell (World.block_lt_of_cell? _ _ x2)).trans x2, (HB4.out.cell (World.block_lt_of_cell? _ _ x3)).trans x3, (HB4.out.cell (World.block_lt_of_cell? _ _ x4)).trans x4, (HB4.out.cell (World.block_lt_of_cell? _ _ x5)).trans x5⟩ | exact ⟨HB3.out, (HB3.out.cell (World.block_lt_of_cell? _ _ x0)).trans x0, (HB3.out.cell (World.block_lt_of_cell? _ _ x1)).trans x1, (HB3.out.cell (World.block_lt_of_cell? _ _ x2)).trans x2, (HB3.out.cell (World.block_lt_of_cell? _ _ x3)).trans x3, (HB3.out.cell (World.block_lt_of_cell? _ _ x4)).trans x4, (HB3.out.cell (World.block_lt_of_cell? _ _ x5)).trans x5⟩ | exact ⟨HB2.out, (HB2.out.cell (World.block_lt_of_cell? _ _ x0)).trans x0, (HB2.out.cell (World.block_lt_of_cell? _ _ x1)).trans x1, (HB2.out.cell (World.block_lt_of_cell? _ _ x2)).trans x2, (HB2.out.cell (World.block_lt_of_cell? _ _ x3)).trans x3, (HB2.out.cell (World.block_lt_of_cell? _ _ x4)).trans x4, (HB2.out.cell (World.block_lt_of_cell? _ _ x5)).trans x5⟩ | exact ⟨HB1.out, (HB1.out.cell (World.block_lt_of_cell? _ _ x0)).trans x0, (HB1.out.cell (World.block_lt_of_cell? _ _ x1)).trans x1, (HB1.out.cell (World.block_lt_of_cell? _ _ x2)).trans x2, (HB1.out.cell (World.block_lt_of_cell? _ _ x3)).trans x3, (HB1.out.cell (World.block_lt_of_cell? _ _ x4)).trans x4, (HB1.out.cell (World.block_lt_of_cell? _ _ x5)).trans x5⟩ | exact ⟨(Below.refl _ _).drew, x0, x1, x2, x3, x4, x5⟩))
              clear hK K hHeld
              have hHeld := hHeld1
              clear hHeld1
              try simp only [Act.put, List.setIfInBounds_toArray, List.set_cons_zero, List.set_cons_succ]
              refine take_yes (i := 8) (d := 33) (v := ?_) rfl rfl (by kernel_rfl) (by kernel_rfl) (by kernel_rfl) (fun _ _ _ h => h) (by kernel_rfl) ?_ hHeld ?_
              rotate_left
              · (intro w hSw; (try dsimp only at hSw); go_simp; try (with_reducible rfl))
              try simp only [Act.put, List.setIfInBounds_toArray, List.set_cons_zero, List.set_cons_succ]
              refine take_yes (i := 9) (d := 34) (v := ?_) rfl rfl (by kernel_rfl) (by kernel_rfl) (by kernel_rfl) (fun _ _ _ h => h) (by kernel_rfl) ?_ hHeld ?_
              rotate_left
              · (intro w hSw; (try dsimp only at hSw); go_simp; try (with_reducible rfl))
              try simp only [Act.put, List.setIfInBounds_toArray, List.set_cons_zero, List.set_cons_succ]
              refine take_yes (i := 10) (d := 35) (v := ?_) rfl rfl (by kernel_rfl) (by kernel_rfl) (by kernel_rfl) (fun _ _ _ h => h) (by kernel_rfl) ?_ hHeld ?_
              rotate_left
              · (intro w hSw; (try dsimp only at hSw); go_simp; try (with_reducible rfl))
              try simp only [Act.put, List.setIfInBounds_toArray, List.set_cons_zero, List.set_cons_succ]
              refine take_no (i := 11) (d := 36) rfl rfl (by kernel_rfl) (by kernel_rfl) (by kernel_rfl) (fun _ _ _ h => h) (by kernel_rfl) hHeld ?_
              try simp only [Act.put, List.setIfInBounds_toArray, List.set_cons_zero, List.set_cons_succ]
              refine take_no (i := 12) (d := 37) rfl rfl (by kernel_rfl) (by kernel_rfl) (by kernel_rfl) (fun _ _ _ h => h) (by kernel_rfl) hHeld ?_
              try simp only [Act.put, List.setIfInBounds_toArray, List.set_cons_zero, List.set_cons_succ]
              refine take_no (i := 13) (d := 38) rfl rfl (by kernel_rfl) (by kernel_rfl) (by kernel_rfl) (fun _ _ _ h => h) (by kernel_rfl) hHeld ?_
              try simp only [Act.put, List.setIfInBounds_toArray, List.set_cons_zero, List.set_cons_succ]
              refine take_no (i := 14) (d := 39) rfl rfl (by kernel_rfl) (by kernel_rfl) (by kernel_rfl) (fun _ _ _ h => h) (by kernel_rfl) hHeld ?_
              try simp only [Act.put, List.setIfInBounds_toArray, List.set_cons_zero, List.set_cons_succ]
              refine take_yes (i := 15) (d := 40) (v := ?_) rfl rfl (by kernel_rfl) (by kernel_rfl) (by kernel_rfl) (fun _ _ _ h => h) (by kernel_rfl) ?_ hHeld ?_
              rotate_left
              · (intro w hSw; (try dsimp only at hSw); go_simp; try (with_reducible rfl))
              try simp only [Act.put, List.setIfInBounds_toArray, List.set_cons_zero, List.set_cons_succ]
              refine take_yes (i := 16) (d := 41) (v := ?_) rfl rfl (by kernel_rfl) (by kernel_rfl) (by kernel_rfl) (fun _ _ _ h => h) (by kernel_rfl) ?_ hHeld ?_
              rotate_left
              · (intro w hSw; (try dsimp only at hSw); go_simp; try (with_reducible rfl))
              try simp only [Act.put, List.setIfInBounds_toArray, List.set_cons_zero, List.set_cons_succ]
              refine take_no (i := 17) (d := 42) rfl rfl (by kernel_rfl) (by kernel_rfl) (by kernel_rfl) (fun _ _ _ h => h) (by kernel_rfl) hHeld ?_
              try simp only [Act.put, List.setIfInBounds_toArray, List.set_cons_zero, List.set_cons_succ]
              refine take_no (i := 18) (d := 43) rfl rfl (by kernel_rfl) (by kernel_rfl) (by kernel_rfl) (fun _ _ _ h => h) (by kernel_rfl) hHeld ?_
              try simp only [Act.put, List.setIfInBounds_toArray, List.set_cons_zero, List.set_cons_succ]
              refine take_no (i := 19) (d := 44) rfl rfl (by kernel_rfl) (by kernel_rfl) (by kernel_rfl) (fun _ _ _ h => h) (by kernel_rfl) hHeld ?_
              try simp only [Act.put, List.setIfInBounds_toArray, List.set_cons_zero, List.set_cons_succ]
              refine take_no (i := 20) (d := 45) rfl rfl (by kernel_rfl) (by kernel_rfl) (by kernel_rfl) (fun _ _ _ h => h) (by kernel_rfl) hHeld ?_
              try simp only [Act.put, List.setIfInBounds_toArray, List.set_cons_zero, List.set_cons_succ]
              refine take_no (i := 21) (d := 46) rfl rfl (by kernel_rfl) (by kernel_rfl) (by kernel_rfl) (fun _ _ _ h => h) (by kernel_rfl) hHeld ?_
              try simp only [Act.put, List.setIfInBounds_toArray, List.set_cons_zero, List.set_cons_succ]
              refine take_yes (i := 22) (d := 47) (v := ?_) rfl rfl (by kernel_rfl) (by kernel_rfl) (by kernel_rfl) (fun _ _ _ h => h) (by kernel_rfl) ?_ hHeld ?_
              rotate_left
              · (intro w hSw; (try dsimp only at hSw); go_simp; try (with_reducible rfl))
              try simp only [Act.put, List.setIfInBounds_toArray, List.set_cons_zero, List.set_cons_succ]
              refine take_yes (i := 23) (d := 48) (v := ?_) rfl rfl (by kernel_rfl) (by kernel_rfl) (by kernel_rfl) (fun _ _ _ h => h) (by kernel_rfl) ?_ hHeld ?_
              rotate_left
              · (intro w hSw; (try dsimp only at hSw); go_simp; try (with_reducible rfl))
              try simp only [Act.put, List.setIfInBounds_toArray, List.set_cons_zero, List.set_cons_succ]
              refine take_no (i := 24) (d := 49) rfl rfl (by kernel_rfl) (by kernel_rfl) (by kernel_rfl) (fun _ _ _ h => h) (by kernel_rfl) hHeld ?_
              try simp only [Act.put, List.setIfInBounds_toArray, List.set_cons_zero, List.set_cons_succ]
              refine take_no (i := 25) (d := 50) rfl rfl (by kernel_rfl) (by kernel_rfl) (by kernel_rfl) (fun _ _ _ h => h) (by kernel_rfl) hHeld ?_
              try simp only [Act.put, List.setIfInBounds_toArray, List.set_cons_zero, List.set_cons_succ]
              refine take_no (i := 26) (d := 51) rfl rfl (by kernel_rfl) (by kernel_rfl) (by kernel_rfl) (fun _ _ _ h => h) (by kernel_rfl) hHeld ?_
              try simp only [Act.put, List.setIfInBounds_toArray, List.set_cons_zero, List.set_cons_succ]
              refine take_no (i := 27) (d := 52) rfl rfl (by kernel_rfl) (by kernel_rfl) (by kernel_rfl) (fun _ _ _ h => h) (by kernel_rfl) hHeld ?_
              try simp only [Act.put, List.setIfInBounds_toArray, List.set_cons_zero, List.set_cons_succ]
              refine take_no (i := 28) (d := 53) rfl rfl (by kernel_rfl) (by kernel_rfl) (by kernel_rfl) (fun _ _ _ h => h) (by kernel_rfl) hHeld ?_
              try simp only [Act.put, List.setIfInBounds_toArray, List.set_cons_zero, List.set_cons_succ]
              refine take_no (i := 29) (d := 54) rfl rfl (by kernel_rfl) (by kernel_rfl) (by kernel_rfl) (fun _ _ _ h => h) (by kernel_rfl) hHeld ?_
              try simp only [Act.put, List.setIfInBounds_toArray, List.set_cons_zero, List.set_cons_succ]
              refine take_no (i := 30) (d := 55) rfl rfl (by kernel_rfl) (by kernel_rfl) (by kernel_rfl) (fun _ _ _ h => h) (by kernel_rfl) hHeld ?_
              try simp only [Act.put, List.setIfInBounds_toArray, List.set_cons_zero, List.set_cons_succ]
              refine take_no (i := 31) (d := 56) rfl rfl (by kernel_rfl) (by kernel_rfl) (by kernel_rfl) (fun _ _ _ h => h) (by kernel_rfl) hHeld ?_
              try simp only [Act.put, List.setIfInBounds_toArray, List.set_cons_zero, List.set_cons_succ]
              refine take_no (i := 32) (d := 57) rfl rfl (by kernel_rfl) (by kernel_rfl) (by kernel_rfl) (fun _ _ _ h => h) (by kernel_rfl) hHeld ?_
              try simp only [Act.put, List.setIfInBounds_toArray, List.set_cons_zero, List.set_cons_succ]
              refine take_no (i := 33) (d := 58) rfl rfl (by kernel_rfl) (by kernel_rfl) (by kernel_rfl) (fun _ _ _ h => h) (by kernel_rfl) hHeld ?_
              try simp only [Act.put, List.setIfInBounds_toArray, List.set_cons_zero, List.set_cons_succ]
              refine take_no (i := 34) (d := 59) rfl rfl (by kernel_rfl) (by kernel_rfl) (by kernel_rfl) (fun _ _ _ h => h) (by kernel_rfl) hHeld ?_
              try simp only [Act.put, List.setIfInBounds_toArray, List.set_cons_zero, List.set_cons_succ]
              refine take_no (i := 35) (d := 60) rfl rfl (by kernel_rfl) (by kernel_rfl) (by kernel_rfl) (fun _ _ _ h => h) (by kernel_rfl) hHeld ?_
              try simp only [Act.put, List.setIfInBounds_toArray, List.set_cons_zero, List.set_cons_succ]
              refine take_no (i := 36) (d := 61) rfl rfl (by kernel_rfl) (by kernel_rfl) (by kernel_rfl) (fun _ _ _ h => h) (by kernel_rfl) hHeld ?_
              try simp only [Act.put, List.setIfInBounds_toArray, List.set_cons_zero, List.set_cons_succ]
              refine take_yes (i := 37) (d := 62) (v := ?_) rfl rfl (by kernel_rfl) (by kernel_rfl) (by kernel_rfl) (fun _ _ _ h => h) (by kernel_rfl) ?_ hHeld ?_
              rotate_left
              · (intro w hSw; (try dsimp only at hSw); go_simp; try (with_reducible rfl))
              try simp only [Act.put, List.setIfInBounds_toArray, List.set_cons_zero, List.set_cons_succ]
              refine wpAnyH_done (by kernel_rfl) ?_ _
              refine NoPanic.normal ?_
              go_wp2
              go_ret
              exact ⟨ret_bool HN.out.symm, HB.out.trans ((HWb.out.trans (HB2.out.mono HWb.out.size)).mono HB.out.size)⟩
          · have HN := Lib.hid (propB_no (ss := ss) hlt (show okP ss ps k = false by rw [HK.out, h1]; simp))
            clear hq HK
            refine wp_region_noPanic ?_
            refine wp_region_held_drew (S := (fun w' => Below W.heap.size W w' ∧ w'.cell? ⟨wr.heap.size, 0, none⟩ = some (.int .i64 q.i) ∧ w'.cell? ⟨wr.heap.size, 1, none⟩ = some (.int .i64 q.a.k) ∧ w'.cell? ⟨wr.heap.size, 2, none⟩ = some (.int .i64 q.a.p) ∧ w'.cell? ⟨wr.heap.size, 3, none⟩ = some (.int .i64 q.a.n) ∧ w'.cell? ⟨wr.heap.size, 4, none⟩ = some (.slice B q.a.ws.length d) ∧ w'.cell? ⟨wr.heap.size, 5, none⟩ = some (.int .i64 q.t))) (by kernel_rfl) ?_ (fun hHeld => ?_)
            · ((try dsimp only); (first | exact ⟨HB4.out, (HB4.out.cell (World.block_lt_of_cell? _ _ x0)).trans x0, (HB4.out.cell (World.block_lt_of_cell? _ _ x1)).trans x1, (HB4.out.cell (World.block_lt_of_cell? _ _ x2)).trans x2, (HB4.out.cell (World.block_lt_of_cell? _ _ x3)).trans x3, (HB4.out.cell (World.block_lt_of_cell? _ _ x4)).trans x4, (HB4.out.cell (World.block_lt_of_cell? _ _ x5)).trans x5⟩ | exact ⟨HB3.out, (HB3.out.cell (World.block_lt_of_cell? _ _ x0)).trans x0, (HB3.out.cell (World.block_lt_of_cell? _ _ x1)).trans x1, (HB3.out.cell (World.block_lt_of_cell? _ _ x2)).trans x2, (HB3.out.cell (World.block_lt_of_cell? _ _ x3)).trans x3, (HB3.out.cell (World.block_lt_of_cell? _ _ x4)).trans x4, (HB3.out.cell (World.block_lt_of_cell? _ _ x5)).trans x5⟩ | exact ⟨HB2.out, (HB2.out.cell (World.block_lt_of_cell? _ _ x0)).trans x0, (HB2.out.cell (World.block_lt_of_cell? _ _ x1)).trans x1, (HB2.out.cell (World.block_lt_of_cell? _ _ x2)).trans x2, (HB2.out.cell (World.block_lt_of_cell? _ _ x3)).trans x3, (HB2.out.cell (World.block_lt_of_cell? _ _ x4)).trans x4, (HB2.out.cell (World.block_lt_of_cell? _ _ x5)).trans x5⟩ | exact ⟨HB1.out, (HB1.out.cell (World.block_lt_of_cell? _ _ x0)).trans x0, (HB1.out.cell (World.block_lt_of_cell? _ _ x1)).trans x1, (HB1.out.cell (World.block_lt_of_cell? _ _ x2)).trans x2, (HB1.out.cell (World.block_lt_of_cell? _ _ x3)).trans x3, (HB1.out.cell (World.block_lt_of_cell? _ _ x4)).trans x4, (HB1.out.cell (World.block_lt_of_cell? _ _ x5)).trans x5⟩ | exact ⟨(Below.refl _ _).drew, x0, x1, x2, x3, x4, x5⟩))
            refine take_yes (i := 0) (d := 25) (v := ?_) rfl rfl (by kernel_rfl) (by kernel_rfl) (by kernel_rfl) (fun _ _ _ h => h) (by kernel_rfl) ?_ hHeld ?_
            rotate_left
            · (intro w hSw; (try dsimp only at hSw); go_simp; try (with_reducible rfl))
            try simp only [Act.put, List.setIfInBounds_toArray, List.set_cons_zero, List.set_cons_succ]
            refine take_yes (i := 1) (d := 26) (v := ?_) rfl rfl (by kernel_rfl) (by kernel_rfl) (by kernel_rfl) (fun _ _ _ h => h) (by kernel_rfl) ?_ hHeld ?_
            rotate_left
            · (intro w hSw; (try dsimp only at hSw); go_simp; try (with_reducible rfl))
            try simp only [Act.put, List.setIfInBounds_toArray, List.set_cons_zero, List.set_cons_succ]
            refine wpAnyH_ready (rs := [2]) (by kernel_rfl) (by simp) ?_
            refine AllReadyH.cons rfl (fun K hK => ?_) AllReadyH.nil
            go_simp
            (go_at_call 109; refine (l1InB_any q.i 1 99 _).mono ?_; rintro e w2 ⟨rfl, hb⟩; rw [h1]; have HB1 := Lib.hid ((below_drewN (Below.refl W.heap.size W) 1).trans hb); clear hb)
            (first | refine hK.out _ _ ?_ (fun hHeld1 => ?_) | (go_wp2_with fail; refine hK.out _ _ ?_ (fun hHeld1 => ?_)))
            · ((try dsimp only); (first | exact ⟨HB4.out, (HB4.out.cell (World.block_lt_of_cell? _ _ x0)).trans x0, (HB4.out.cell (World.block_lt_of_cell? _ _ x1)).trans x1, (HB4.out.cell (World.block_lt_of_cell? _ _ x2)).trans x2, (HB4.out.cell (World.block_lt_of_cell? _ _ x3)).trans x3, (HB4.out.cell (World.block_lt_of_cell? _ _ x4)).trans x4, (HB4.out.cell (World.block_lt_of_cell? _ _ x5)).trans x5⟩ | exact ⟨HB3.out, (HB3.out.cell (World.block_lt_of_cell? _ _ x0)).trans x0, (HB3.out.cell (World.block_lt_of_cell? _ _ x1)).trans x1, (HB3.out.cell (World.block_lt_of_cell? _ _ x2)).trans x2, (HB3.out.cell (World.block_lt_of_cell? _ _ x3)).trans x3, (HB3.out.cell (World.block_lt_of_cell? _ _ x4)).trans x4, (HB3.out.cell (World.block_lt_of_cell? _ _ x5)).trans x5⟩ | exact ⟨HB2.out, (HB2.out.cell (World.block_lt_of_cell? _ _ x0)).trans x0, (HB2.out.cell (World.block_lt_of_cell? _ _ x1)).trans x1, (HB2.out.cell (World.block_lt_of_cell? _ _ x2)).trans x2, (HB2.out.cell (World.block_lt_of_cell? _ _ x3)).trans x3, (HB2.out.cell (World.block_lt_of_cell? _ _ x4)).trans x4, (HB2.out.cell (World.block_lt_of_cell? _ _ x5)).trans x5⟩ | exact ⟨HB1.out, (HB1.out.cell (World.block_lt_of_cell? _ _ x0)).trans x0, (HB1.out.cell (World.block_lt_of_cell? _ _ x1)).trans x1, (HB1.out.cell (World.block_lt_of_cell? _ _ x2)).trans x2, (HB1.out.cell (World.block_lt_of_cell? _ _ x3)).trans x3, (HB1.out.cell (World.block_lt_of_cell? _ _ x4)).trans x4, (HB1.out.cell (World.block_lt_of_cell? _ _ x5)).trans x5⟩ | exact ⟨(Below.refl _ _).drew, x0, x1, x2, x3, x4, x5⟩))
            clear hK K hHeld
            have hHeld := hHeld1
            clear hHeld1
            try simp only [Act.put, List.setIfInBounds_toArray, List.set_cons_zero, List.set_cons_succ]
            refine take_yes (i := 3) (d := 28) (v := ?_) rfl rfl (by kernel_rfl) (by kernel_rfl) (by kernel_rfl) (fun _ _ _ h => h) (by kernel_rfl) ?_ hHeld ?_
            rotate_left
            · (intro w hSw; (try dsimp only at hSw); go_simp; try (with_reducible rfl))
            try simp only [Act.put, List.setIfInBounds_toArray, List.set_cons_zero, List.set_cons_succ]
            refine take_yes (i := 4) (d := 29) (v := ?_) rfl rfl (by kernel_rfl) (by kernel_rfl) (by kernel_rfl) (fun _ _ _ h => h) (by kernel_rfl) ?_ hHeld ?_
            rotate_left
            · (intro w hSw; (try dsimp only at hSw); go_simp; try (with_reducible rfl))
            try simp only [Act.put, List.setIfInBounds_toArray, List.set_cons_zero, List.set_cons_succ]
            refine take_no (i := 5) (d := 30) rfl rfl (by kernel_rfl) (by kernel_rfl) (by kernel_rfl) (fun _ _ _ h => h) (by kernel_rfl) hHeld ?_
            try simp only [Act.put, List.setIfInBounds_toArray, List.set_cons_zero, List.set_cons_succ]
            refine take_no (i := 6) (d := 31) rfl rfl (by kernel_rfl) (by kernel_rfl) (by kernel_rfl) (fun _ _ _ h => h) (by kernel_rfl) hHeld ?_
            try simp only [Act.put, List.setIfInBounds_toArray, List.set_cons_zero, List.set_cons_succ]
            refine take_no (i := 7) (d := 32) rfl rfl (by kernel_rfl) (by kernel_rfl) (by kernel_rfl) (fun _ _ _ h => h) (by kernel_rfl) hHeld ?_
            try simp only [Act.put, List.setIfInBounds_toArray, List.set_cons_zero, List.set_cons_succ]
            refine take_no (i := 8) (d := 33) rfl rfl (by kernel_rfl) (by kernel_rfl) (by kernel_rfl) (fun _ _ _ h => h) (by kernel_rfl) hHeld ?_
            try simp only [Act.put, List.setIfInBounds_toArray, List.set_cons_zero, List.set_cons_succ]
            refine take_yes (i := 9) (d := 34) (v := ?_) rfl rfl (by kernel_rfl) (by kernel_rfl) (by kernel_rfl) (fun _ _ _ h => h) (by kernel_rfl) ?_ hHeld ?_
            rotate_left
            · (intro w hSw; (try dsimp only at hSw); go_simp; try (with_reducible rfl))
            try simp only [Act.put, List.setIfInBounds_toArray, List.set_cons_zero, List.set_cons_succ]
            refine take_yes (i := 10) (d := 35) (v := ?_) rfl rfl (by kernel_rfl) (by kernel_rfl) (by kernel_rfl) (fun _ _ _ h => h) (by kernel_rfl) ?_ hHeld ?_
            rotate_left
            · (intro w hSw; (try dsimp only at hSw); go_simp; try (with_reducible rfl))
            try simp only [Act.put, List.setIfInBounds_toArray, List.set_cons_zero, List.set_cons_succ]
            refine take_no (i := 11) (d := 36) rfl rfl (by kernel_rfl) (by kernel_rfl) (by kernel_rfl) (fun _ _ _ h => h) (by kernel_rfl) hHeld ?_
            try simp only [Act.put, List.setIfInBounds_toArray, List.set_cons_zero, List.set_cons_succ]
            refine take_no (i := 12) (d := 37) rfl rfl (by kernel_rfl) (by kernel_rfl) (by kernel_rfl) (fun _ _ _ h => h) (by kernel_rfl) hHeld ?_
            try simp only [Act.put, List.setIfInBounds_toArray, List.set_cons_zero, List.set_cons_succ]
            refine take_no (i := 13) (d := 38) rfl rfl (by kernel_rfl) (by kernel_rfl) (by kernel_rfl) (fun _ _ _ h => h) (by kernel_rfl) hHeld ?_
            try simp only [Act.put, List.setIfInBounds_toArray, List.set_cons_zero, List.set_cons_succ]
            refine take_no (i := 14) (d := 39) rfl rfl (by kernel_rfl) (by kernel_rfl) (by kernel_rfl) (fun _ _ _ h => h) (by kernel_rfl) hHeld ?_
            try simp only [Act.put, List.setIfInBounds_toArray, List.set_cons_zero, List.set_cons_succ]
            refine take_yes (i := 15) (d := 40) (v := ?_) rfl rfl (by kernel_rfl) (by kernel_rfl) (by kernel_rfl) (fun _ _ _ h => h) (by kernel_rfl) ?_ hHeld ?_
            rotate_left
            · (intro w hSw; (try dsimp only at hSw); go_simp; try (with_reducible rfl))
            try simp only [Act.put, List.setIfInBounds_toArray, List.set_cons_zero, List.set_cons_succ]
            refine take_yes (i := 16) (d := 41) (v := ?_) rfl rfl (by kernel_rfl) (by kernel_rfl) (by kernel_rfl) (fun _ _ _ h => h) (by kernel_rfl) ?_ hHeld ?_
            rotate_left
            · (intro w hSw; (try dsimp only at hSw); go_simp; try (with_reducible rfl))
            try simp only [Act.put, List.setIfInBounds_toArray, List.set_cons_zero, List.set_cons_succ]
            refine take_no (i := 17) (d := 42) rfl rfl (by kernel_rfl) (by kernel_rfl) (by kernel_rfl) (fun _ _ _ h => h) (by kernel_rfl) hHeld ?_
            try simp only [Act.put, List.setIfInBounds_toArray, List.set_cons_zero, List.set_cons_succ]
            refine take_no (i := 18) (d := 43) rfl rfl (by kernel_rfl) (by kernel_rfl) (by kernel_rfl) (fun _ _ _ h => h) (by kernel_rfl) hHeld ?_
            try simp only [Act.put, List.setIfInBounds_toArray, List.set_cons_zero, List.set_cons_succ]
            refine take_no (i := 19) (d := 44) rfl rfl (by kernel_rfl) (by kernel_rfl) (by kernel_rfl) (fun _ _ _ h => h) (by kernel_rfl) hHeld ?_
            try simp only [Act.put, List.setIfInBounds_toArray, List.set_cons_zero, List.set_cons_succ]
            refine take_no (i := 20) (d := 45) rfl rfl (by kernel_rfl) (by kernel_rfl) (by kernel_rfl) (fun _ _ _ h => h) (by kernel_rfl) hHeld ?_
            try simp only [Act.put, List.setIfInBounds_toArray, List.set_cons_zero, List.set_cons_succ]
            refine take_no (i := 21) (d := 46) rfl rfl (by kernel_rfl) (by kernel_rfl) (by kernel_rfl) (fun _ _ _ h => h) (by kernel_rfl) hHeld ?_
            try simp only [Act.put, List.setIfInBounds_toArray, List.set_cons_zero, List.set_cons_succ]
            refine take_yes (i := 22) (d := 47) (v := ?_) rfl rfl (by kernel_rfl) (by kernel_rfl) (by kernel_rfl) (fun _ _ _ h => h) (by kernel_rfl) ?_ hHeld ?_
            rotate_left
            · (intro w hSw; (try dsimp only at hSw); go_simp; try (with_reducible rfl))
            try simp only [Act.put, List.setIfInBounds_toArray, List.set_cons_zero, List.set_cons_succ]
            refine take_yes (i := 23) (d := 48) (v := ?_) rfl rfl (by kernel_rfl) (by kernel_rfl) (by kernel_rfl) (fun _ _ _ h => h) (by kernel_rfl) ?_ hHeld ?_
            rotate_left
            · (intro w hSw; (try dsimp only at hSw); go_simp; try (with_reducible rfl))
            try simp only [Act.put, List.setIfInBounds_toArray, List.set_cons_zero, List.set_cons_succ]
            refine take_no (i := 24) (d := 49) rfl rfl (by kernel_rfl) (by kernel_rfl) (by kernel_rfl) (fun _ _ _ h => h) (by kernel_rfl) hHeld ?_
            try simp only [Act.put, List.setIfInBounds_toArray, List.set_cons_zero, List.set_cons_succ]
            refine take_no (i := 25) (d := 50) rfl rfl (by kernel_rfl) (by kernel_rfl) (by kernel_rfl) (fun _ _ _ h => h) (by kernel_rfl) hHeld ?_
            try simp only [Act.put, List.setIfInBounds_toArray, List.set_cons_zero, List.set_cons_succ]
            refine take_no (i := 26) (d := 51) rfl rfl (by kernel_rfl) (by kernel_rfl) (by kernel_rfl) (fun _ _ _ h => h) (by kernel_rfl) hHeld ?_
            try simp only [Act.put, List.setIfInBounds_toArray, List.set_cons_zero, List.set_cons_succ]
            refine take_no (i := 27) (d := 52) rfl rfl (by kernel_rfl) (by kernel_rfl) (by kernel_rfl) (fun _ _ _ h => h) (by kernel_rfl) hHeld ?_
            try simp only [Act.put, List.setIfInBounds_toArray, List.set_cons_zero, List.set_cons_succ]
            refine take_no (i := 28) (d := 53) rfl rfl (by kernel_rfl) (by kernel_rfl) (by kernel_rfl) (fun _ _ _ h => h) (by kernel_rfl) hHeld ?_
            try simp only [Act.put, List.setIfInBounds_toArray, List.set_cons_zero, List.set_cons_succ]
            refine take_no (i := 29) (d := 54) rfl rfl (by kernel_rfl) (by kernel_rfl) (by kernel_rfl) (fun _ _ _ h => h) (by kernel_rfl) hHeld ?_
            try simp only [Act.put, List.setIfInBounds_toArray, List.set_cons_zero, List.set_cons_succ]
            refine take_no (i := 30) (d := 55) rfl rfl (by kernel_rfl) (by kernel_rfl) (by kernel_rfl) (fun _ _ _ h => h) (by kernel_rfl) hHeld ?_
            try simp only [Act.put, List.setIfInBounds_toArray, List.set_cons_zero, List.set_cons_succ]
            refine take_no (i := 31) (d := 56) rfl rfl (by kernel_rfl) (by kernel_rfl) (by kernel_rfl) (fun _ _ _ h => h) (by kernel_rfl) hHeld ?_
            try simp only [Act.put, List.setIfInBounds_toArray, List.set_cons_zero, List.set_cons_succ]
            refine take_no (i := 32) (d := 57) rfl rfl (by kernel_rfl) (by kernel_rfl) (by kernel_rfl) (fun _ _ _ h => h) (by kernel_rfl) hHeld ?_
            try simp only [Act.put, List.setIfInBounds_toArray, List.set_cons_zero, List.set_cons_succ]
            refine take_no (i := 33) (d := 58) rfl rfl (by kernel_rfl) (by kernel_rfl) (by kernel_rfl) (fun _ _ _ h => h) (by kernel_rfl) hHeld ?_
            try simp only [Act.put, List.setIfInBounds_toArray, List.set_cons_zero, List.set_cons_succ]
            refine take_no (i := 34) (d := 59) rfl rfl (by kernel_rfl) (by kernel_rfl) (by kernel_rfl) (fun _ _ _ h => h) (by kernel_rfl) hHeld ?_
            try simp only [Act.put, List.setIfInBounds_toArray, List.set_cons_zero, List.set_cons_succ]
            refine take_no (i := 35) (d := 60) rfl rfl (by kernel_rfl) (by kernel_rfl) (by kernel_rfl) (fun _ _ _ h => h) (by kernel_rfl) hHeld ?_
            try simp only [Act.put, List.setIfInBounds_toArray, List.set_cons_zero, List.set_cons_succ]
            refine take_no (i := 36) (d := 61) rfl rfl (by kernel_rfl) (by kernel_rfl) (by kernel_rfl) (fun _ _ _ h => h) (by kernel_rfl) hHeld ?_
            try simp only [Act.put, List.setIfInBounds_toArray, List.set_cons_zero, List.set_cons_succ]
            refine take_yes (i := 37) (d := 62) (v := ?_) rfl rfl (by kernel_rfl) (by kernel_rfl) (by kernel_rfl) (fun _ _ _ h => h) (by kernel_rfl) ?_ hHeld ?_
            rotate_left
            · (intro w hSw; (try dsimp only at hSw); go_simp; try (with_reducible rfl))
            try simp only [Act.put, List.setIfInBounds_toArray, List.set_cons_zero, List.set_cons_succ]
            refine wpAnyH_done (by kernel_rfl) ?_ _
            refine NoPanic.normal ?_
            go_wp2
            go_ret
            exact ⟨ret_bool HN.out.symm, HB.out.trans ((HWb.out.trans (HB1.out.mono HWb.out.size)).mono HB.out.size)⟩
        · obtain rfl : k = ps.length := by omega
          have HA := Lib.hid (HR.out.trans hq.out)
          go_wp2
          go_ret
          exact ⟨ret_bool HA.out.symm, HB.out⟩
    · have HR := Lib.hid (show propB ss ps = false by unfold propB; rw [decide_eq_false h6]; simp)
      go_enter Try.func94, Try.ntmps94
      go_wp2_with (go_at_call 65; refine (HV.out _ HT.out).mono ?_; rintro e w1 ⟨rfl, rfl⟩; rw [hr])
      go_ret
      exact ⟨ret_bool HR.out.symm, by first | exact Below.refl _ _ | exact (Below.refl _ _).drew⟩
  · have HR := Lib.hid (show propB ss ps = false by unfold propB; rw [hr]; simp)
    go_enter Try.func94, Try.ntmps94
    go_wp2_with (go_at_call 65; refine (HV.out _ HT.out).mono ?_; rintro e w1 ⟨rfl, rfl⟩; rw [hr])
    go_ret
    exact ⟨ret_bool HR.out.symm, by first | exact Below.refl _ _ | exact (Below.refl _ _).drew⟩
end Go.Proofs.Ytgchbimjgdoifaa
