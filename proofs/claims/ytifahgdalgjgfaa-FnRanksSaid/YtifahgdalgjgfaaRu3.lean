/- Valid rules, in the reference. Conditions: the ranges named. -/
import Derived.Test.YtifahgdalgjgfaaRu
import Derived.Deep.DrawnRows
namespace Go.Proofs.Ytifahgdalgjgfaa
open Go.RowKit
set_option linter.unusedVariables false
set_option linter.unusedSimpArgs false
attribute [local go_sem ↓] Go.wp_at_zero Go.wp_at_succ
theorem take_yes {P : Program} {md : Region.Mode} {ops : Array Oper} {Q : Exit → Act → World → Prop} {S : World → Prop} {i d : Nat} {oi : Oper} {v : Value} {fuel : Nat} {listed : Array Bool} {a : Act} {w : World} (hi : ops[i]? = some oi) (hd : oi.dst = some d)
    (hs : Region.noSelect ops = true) (hf : Region.free md ops listed i = true) (hr : (Region.ready md ops listed).contains i = true) (hQ : ∀ c a w, Q (.panic c) (a.put (some d) v) w → Q (.panic c) a w) (hw : Region.wanted oi (yielded ops a.tmps) = true)
    (hy : ∀ w, S w → (execOp a.eval oi).run P w = .ok (.value v) w) (hS : S w) (h : wpAnyH P md ops Q S fuel (listed.setIfInBounds i true) (a.put (some d) v) w) : wpAnyH P md ops Q S (fuel + 1) listed a w :=
  wpAnyH_take hi hs hf hr (by rw [hd]; exact hQ) (Or.inl ⟨hw, hy⟩) hS (by rw [hd]; exact h)
theorem take_no {P : Program} {md : Region.Mode} {ops : Array Oper} {Q : Exit → Act → World → Prop} {S : World → Prop} {i d : Nat} {oi : Oper} {fuel : Nat} {listed : Array Bool} {a : Act} {w : World} (hi : ops[i]? = some oi) (hd : oi.dst = some d)
    (hs : Region.noSelect ops = true) (hf : Region.free md ops listed i = true) (hr : (Region.ready md ops listed).contains i = true) (hQ : ∀ c a w, Q (.panic c) (a.put (some d) undef) w → Q (.panic c) a w) (hw : Region.wanted oi (yielded ops a.tmps) = false)
    (hS : S w) (h : wpAnyH P md ops Q S fuel (listed.setIfInBounds i true) (a.put (some d) undef) w) : wpAnyH P md ops Q S (fuel + 1) listed a w :=
  wpAnyH_take hi hs hf hr (by rw [hd]; exact hQ) (Or.inr ⟨hw, rfl⟩) hS (by rw [hd]; exact h)
theorem nameIn_step {xs : List Rul} {s : ByteArray} {j : Nat} (hj : j < xs.length) : nameIn s (xs.take (j + 1)) = (nameIn s (xs.take j) || nmB xs[j].nm s) := by
  unfold nameIn
  rw [List.take_succ_eq_append_getElem hj, List.any_append]
  simp
theorem nameIn_more {xs : List Rul} {s : ByteArray} {j k : Nat} (hj : j < k) (hk : k ≤ xs.length) (h : nmB (xs[j]'(by omega)).nm s = true) : nameIn s (xs.take k) = true := by
  unfold nameIn
  rw [List.any_eq_true]
  exact ⟨xs[j]'(by omega), by rw [List.mem_take_iff_getElem]; exact ⟨j, by omega, rfl⟩, h⟩
set_option maxHeartbeats 8000000 in
set_option maxRecDepth 100000 in
theorem l2Good_any (A : Option Addr) (c : Nat) (xs : List Rul) (w : World) (ha : Cells w A (RuleK.row xs)) (hm : xs.length ≤ 1048576) (hcc : xs.length ≤ c) (hf : ∀ x ∈ xs, RuleK.fit x) :
    Calls Try.prog 97 #[.slice A xs.length c] w fun e w' => e = .returned (.bool (rulesB xs)) ∧ Below w.heap.size w w' := by
  have HF := Lib.hid hf
  have HA := Lib.hid ha
  clear hf ha
  go_enter Try.func97, Try.ntmps97
  go_wp2
  go_loopw [3] (fun i wr => ∃ k : Nat, k ≤ xs.length ∧ k ≤ 9 ∧ i = .int .i64 k ∧ Hid (allN (okRu xs) k = true) ∧ Below w.heap.size w wr) (fun i _ => xs.length - (intOf i).toNat)
  case atStart => exact ⟨0, Nat.zero_le _, by omega, rfl, rfl, Below.refl _ _⟩
  case round =>
    obtain ⟨k, hk, hk9, rfl, hq, hB⟩ := hrel
    have HB := Lib.hid hB
    clear hB
    by_cases hlt : k < xs.length
    · by_cases h8 : k ≤ 8
      · obtain ⟨a, rfl, hc0, hc1, hc2, hc3, hc4, hc5, hc6⟩ := rule_at (HA.out.below HB.out) hlt
        have i1 : (k : Int) < (xs.length : Int) := by omega
        have i2 : (k : Int) ≤ 8 := by omega
        have hfx := HF.out _ (List.getElem_mem hlt)
        have HK := Lib.hid (okRu_eq hlt)
        obtain ⟨x, hx⟩ : ∃ x, Hid (xs[k] = x) := ⟨_, Lib.hid rfl⟩
        have hfn : x.nm.size ≤ maxLen := by rw [hx.out] at hfx; exact hfx
        rw [hx.out] at hc0 hc1 hc2 hc3 hc4 hc5 hc6 HK
        clear hfx
        rcases Bool.eq_false_or_eq_true (sngB x) with hs | hs
        · by_cases hk0 : k = 0
          · have q6 : (k == 0) = true := by simp [hk0]
            have q5 : decide (0 < k) = false := decide_eq_false (by omega)
            have q9 : decide ((0 : Int) < (k : Int)) = false := decide_eq_false (by omega)
            have HQ := Lib.hid q6
            clear q6 hk0
            go_wp2
            refine wp_region_noPanic ?_
            refine wp_region_held_drew (S := (fun w' => Below wr.heap.size wr w' ∧ w'.cell? (a.add (k * 7)) = some (.int .i64 x.id) ∧ w'.cell? ⟨(a.add (k * 7)).block, (a.add (k * 7)).off + 1, none⟩ = some (.string x.nm) ∧ w'.cell? ⟨(a.add (k * 7)).block, (a.add (k * 7)).off + 2, none⟩ = some (.int .i64 x.rk) ∧ w'.cell? ⟨(a.add (k * 7)).block, (a.add (k * 7)).off + 3, none⟩ = some (.bool x.sc) ∧ w'.cell? ⟨(a.add (k * 7)).block, (a.add (k * 7)).off + 4, none⟩ = some (.bool x.db) ∧ w'.cell? ⟨(a.add (k * 7)).block, (a.add (k * 7)).off + 5, none⟩ = some (.bool x.am) ∧ w'.cell? ⟨(a.add (k * 7)).block, (a.add (k * 7)).off + 6, none⟩ = some (.int .i64 x.nd))) (by kernel_rfl) ?_ (fun hHeld => ?_)
            · ((try dsimp only); (first | exact ⟨(Below.refl _ _).drew, hc0, hc1, hc2, hc3, hc4, hc5, hc6⟩ | exact ⟨HB1.out, (HB1.out.cell (World.block_lt_of_cell? _ _ hc0)).trans hc0, (HB1.out.cell (World.block_lt_of_cell? _ _ hc1)).trans hc1, (HB1.out.cell (World.block_lt_of_cell? _ _ hc2)).trans hc2, (HB1.out.cell (World.block_lt_of_cell? _ _ hc3)).trans hc3, (HB1.out.cell (World.block_lt_of_cell? _ _ hc4)).trans hc4, (HB1.out.cell (World.block_lt_of_cell? _ _ hc5)).trans hc5, (HB1.out.cell (World.block_lt_of_cell? _ _ hc6)).trans hc6⟩))
            refine take_yes (i := 0) (d := 15) (v := ?_) rfl rfl (by kernel_rfl) (by kernel_rfl) (by kernel_rfl) (fun _ _ _ h => h) (by kernel_rfl) ?_ hHeld ?_
            rotate_left
            · (intro w hSw; (try dsimp only at hSw); go_simp; try (with_reducible rfl))
            try simp only [Act.put, List.setIfInBounds_toArray, List.set_cons_zero, List.set_cons_succ]
            refine take_yes (i := 1) (d := 16) (v := ?_) rfl rfl (by kernel_rfl) (by kernel_rfl) (by kernel_rfl) (fun _ _ _ h => h) (by kernel_rfl) ?_ hHeld ?_
            rotate_left
            · (intro w hSw; (try dsimp only at hSw); go_simp; try (with_reducible rfl))
            try simp only [Act.put, List.setIfInBounds_toArray, List.set_cons_zero, List.set_cons_succ]
            refine take_yes (i := 2) (d := 17) (v := ?_) rfl rfl (by kernel_rfl) (by kernel_rfl) (by kernel_rfl) (fun _ _ _ h => h) (by kernel_rfl) ?_ hHeld ?_
            rotate_left
            · (intro w hSw; (try dsimp only at hSw); go_simp; try (with_reducible rfl))
            try simp only [Act.put, List.setIfInBounds_toArray, List.set_cons_zero, List.set_cons_succ]
            refine take_yes (i := 3) (d := 18) (v := ?_) rfl rfl (by kernel_rfl) (by kernel_rfl) (by kernel_rfl) (fun _ _ _ h => h) (by kernel_rfl) ?_ hHeld ?_
            rotate_left
            · (intro w hSw; (try dsimp only at hSw); go_simp; try (with_reducible rfl))
            try simp only [Act.put, List.setIfInBounds_toArray, List.set_cons_zero, List.set_cons_succ]
            refine wpAnyH_ready (rs := [4]) (by kernel_rfl) (by simp) ?_
            refine AllReadyH.cons rfl (fun K hK => ?_) AllReadyH.nil
            go_simp
            (go_at_call 136; refine (l2Single_any x _ hfn).mono ?_; rintro e w1 ⟨rfl, hb⟩; rw [hs]; have HB1 := Lib.hid ((below_drewN (Below.refl wr.heap.size wr) 1).trans hb); clear hb)
            (first | refine hK.out _ _ ?_ (fun hHeld1 => ?_) | (go_wp2_with fail; refine hK.out _ _ ?_ (fun hHeld1 => ?_)))
            · ((try dsimp only); (first | exact ⟨(Below.refl _ _).drew, hc0, hc1, hc2, hc3, hc4, hc5, hc6⟩ | exact ⟨HB1.out, (HB1.out.cell (World.block_lt_of_cell? _ _ hc0)).trans hc0, (HB1.out.cell (World.block_lt_of_cell? _ _ hc1)).trans hc1, (HB1.out.cell (World.block_lt_of_cell? _ _ hc2)).trans hc2, (HB1.out.cell (World.block_lt_of_cell? _ _ hc3)).trans hc3, (HB1.out.cell (World.block_lt_of_cell? _ _ hc4)).trans hc4, (HB1.out.cell (World.block_lt_of_cell? _ _ hc5)).trans hc5, (HB1.out.cell (World.block_lt_of_cell? _ _ hc6)).trans hc6⟩))
            clear hK K hHeld
            have hHeld := hHeld1
            clear hHeld1
            try simp only [Act.put, List.setIfInBounds_toArray, List.set_cons_zero, List.set_cons_succ]
            refine take_yes (i := 5) (d := 20) (v := ?_) rfl rfl (by kernel_rfl) (by kernel_rfl) (by kernel_rfl) (fun _ _ _ h => h) (by kernel_rfl) ?_ hHeld ?_
            rotate_left
            · (intro w hSw; (try dsimp only at hSw); go_simp; try (with_reducible rfl))
            try simp only [Act.put, List.setIfInBounds_toArray, List.set_cons_zero, List.set_cons_succ]
            refine take_yes (i := 6) (d := 21) (v := ?_) rfl rfl (by kernel_rfl) (by kernel_rfl) (by kernel_rfl) (fun _ _ _ h => h) (by kernel_rfl) ?_ hHeld ?_
            rotate_left
            · (intro w hSw; (try dsimp only at hSw); go_simp; try (with_reducible rfl))
            try simp only [Act.put, List.setIfInBounds_toArray, List.set_cons_zero, List.set_cons_succ]
            refine take_yes (i := 7) (d := 22) (v := ?_) rfl rfl (by kernel_rfl) (by kernel_rfl) (by kernel_rfl) (fun _ _ _ h => h) (by kernel_rfl) ?_ hHeld ?_
            rotate_left
            · (intro w hSw; (try dsimp only at hSw); go_simp; try (with_reducible rfl))
            try simp only [Act.put, List.setIfInBounds_toArray, List.set_cons_zero, List.set_cons_succ]
            refine take_yes (i := 8) (d := 23) (v := ?_) rfl rfl (by kernel_rfl) (by kernel_rfl) (by kernel_rfl) (fun _ _ _ h => h) (by kernel_rfl) ?_ hHeld ?_
            rotate_left
            · (intro w hSw; (try dsimp only at hSw); go_simp; try (with_reducible rfl))
            try simp only [Act.put, List.setIfInBounds_toArray, List.set_cons_zero, List.set_cons_succ]
            refine take_yes (i := 9) (d := 24) (v := ?_) rfl rfl (by kernel_rfl) (by kernel_rfl) (by kernel_rfl) (fun _ _ _ h => h) (by kernel_rfl) ?_ hHeld ?_
            rotate_left
            · (intro w hSw; (try dsimp only at hSw); go_simp; try (with_reducible rfl))
            try simp only [Act.put, List.setIfInBounds_toArray, List.set_cons_zero, List.set_cons_succ]
            refine take_no (i := 10) (d := 25) rfl rfl (by kernel_rfl) (by kernel_rfl) (by kernel_rfl) (fun _ _ _ h => h) (by kernel_rfl) hHeld ?_
            try simp only [Act.put, List.setIfInBounds_toArray, List.set_cons_zero, List.set_cons_succ]
            refine take_no (i := 11) (d := 26) rfl rfl (by kernel_rfl) (by kernel_rfl) (by kernel_rfl) (fun _ _ _ h => h) (by kernel_rfl) hHeld ?_
            try simp only [Act.put, List.setIfInBounds_toArray, List.set_cons_zero, List.set_cons_succ]
            refine take_no (i := 12) (d := 27) rfl rfl (by kernel_rfl) (by kernel_rfl) (by kernel_rfl) (fun _ _ _ h => h) (by kernel_rfl) hHeld ?_
            try simp only [Act.put, List.setIfInBounds_toArray, List.set_cons_zero, List.set_cons_succ]
            refine take_no (i := 13) (d := 28) rfl rfl (by kernel_rfl) (by kernel_rfl) (by kernel_rfl) (fun _ _ _ h => h) (by kernel_rfl) hHeld ?_
            try simp only [Act.put, List.setIfInBounds_toArray, List.set_cons_zero, List.set_cons_succ]
            refine take_no (i := 14) (d := 29) rfl rfl (by kernel_rfl) (by kernel_rfl) (by kernel_rfl) (fun _ _ _ h => h) (by kernel_rfl) hHeld ?_
            try simp only [Act.put, List.setIfInBounds_toArray, List.set_cons_zero, List.set_cons_succ]
            refine take_no (i := 15) (d := 30) rfl rfl (by kernel_rfl) (by kernel_rfl) (by kernel_rfl) (fun _ _ _ h => h) (by kernel_rfl) hHeld ?_
            try simp only [Act.put, List.setIfInBounds_toArray, List.set_cons_zero, List.set_cons_succ]
            refine take_no (i := 16) (d := 31) rfl rfl (by kernel_rfl) (by kernel_rfl) (by kernel_rfl) (fun _ _ _ h => h) (by kernel_rfl) hHeld ?_
            try simp only [Act.put, List.setIfInBounds_toArray, List.set_cons_zero, List.set_cons_succ]
            refine take_no (i := 17) (d := 32) rfl rfl (by kernel_rfl) (by kernel_rfl) (by kernel_rfl) (fun _ _ _ h => h) (by kernel_rfl) hHeld ?_
            try simp only [Act.put, List.setIfInBounds_toArray, List.set_cons_zero, List.set_cons_succ]
            refine take_no (i := 18) (d := 33) rfl rfl (by kernel_rfl) (by kernel_rfl) (by kernel_rfl) (fun _ _ _ h => h) (by kernel_rfl) hHeld ?_
            try simp only [Act.put, List.setIfInBounds_toArray, List.set_cons_zero, List.set_cons_succ]
            refine take_no (i := 19) (d := 34) rfl rfl (by kernel_rfl) (by kernel_rfl) (by kernel_rfl) (fun _ _ _ h => h) (by kernel_rfl) hHeld ?_
            try simp only [Act.put, List.setIfInBounds_toArray, List.set_cons_zero, List.set_cons_succ]
            refine take_no (i := 20) (d := 35) rfl rfl (by kernel_rfl) (by kernel_rfl) (by kernel_rfl) (fun _ _ _ h => h) (by kernel_rfl) hHeld ?_
            try simp only [Act.put, List.setIfInBounds_toArray, List.set_cons_zero, List.set_cons_succ]
            refine take_no (i := 21) (d := 36) rfl rfl (by kernel_rfl) (by kernel_rfl) (by kernel_rfl) (fun _ _ _ h => h) (by kernel_rfl) hHeld ?_
            try simp only [Act.put, List.setIfInBounds_toArray, List.set_cons_zero, List.set_cons_succ]
            refine take_yes (i := 22) (d := 37) (v := ?_) rfl rfl (by kernel_rfl) (by kernel_rfl) (by kernel_rfl) (fun _ _ _ h => h) (by kernel_rfl) ?_ hHeld ?_
            rotate_left
            · (intro w hSw; (try dsimp only at hSw); go_simp; try (with_reducible rfl))
            try simp only [Act.put, List.setIfInBounds_toArray, List.set_cons_zero, List.set_cons_succ]
            refine take_yes (i := 23) (d := 38) (v := ?_) rfl rfl (by kernel_rfl) (by kernel_rfl) (by kernel_rfl) (fun _ _ _ h => h) (by kernel_rfl) ?_ hHeld ?_
            rotate_left
            · (intro w hSw; (try dsimp only at hSw); go_simp; try (with_reducible rfl))
            try simp only [Act.put, List.setIfInBounds_toArray, List.set_cons_zero, List.set_cons_succ]
            refine wpAnyH_done (by kernel_rfl) ?_ _
            refine NoPanic.normal ?_
            have hfin := HB.out.trans (HB1.out.mono HB.out.size)
            have HFI := Lib.hid hfin
            clear hfin hc0 hc1 hc2 hc3 hc4 hc5 hc6
            go_wp2
            go_loopw [4] (fun i wi => ∃ j : Nat, j ≤ k ∧ i = .int .i64 j ∧ Hid (nameIn x.nm (xs.take j) = false) ∧ Below w.heap.size w wi) (fun i _ => k - (intOf i).toNat)
            case atStart => exact ⟨0, Nat.zero_le _, rfl, rfl, HFI.out⟩
            case round =>
              obtain ⟨j, hj, rfl, hqj, hBj⟩ := hrel
              have HBj := Lib.hid hBj
              clear hBj
              by_cases hlj : j < k
              · obtain ⟨b1, hb1, g0, g1, g2, g3, g4, g5, g6⟩ := rule_at (HA.out.below HBj.out) (show j < xs.length by omega)
                obtain rfl : a = b1 := by simpa using hb1
                obtain ⟨b2, hb2, d0, d1, d2, d3, d4, d5, d6⟩ := rule_at (HA.out.below HBj.out) hlt
                obtain rfl : a = b2 := by simpa using hb2
                have j1 : (j : Int) < (xs.length : Int) := by omega
                have j2 : (j : Int) < (k : Int) := by omega
                have HST := Lib.hid (nameIn_step (s := x.nm) (show j < xs.length by omega))
                have HMO := Lib.hid (nameIn_more (s := x.nm) hlj (Nat.le_of_lt hlt))
                obtain ⟨z, hz⟩ : ∃ z, Hid (xs[j] = z) := ⟨_, Lib.hid rfl⟩
                rw [hz.out] at g1 HST HMO
                rw [hx.out] at d1
                clear g0 g2 g3 g4 g5 g6 d0 d2 d3 d4 d5 d6 hb1 hb2
                rcases Bool.eq_false_or_eq_true (nmB z.nm x.nm) with hn | hn
                · have HN := Lib.hid (rulesB_no hlt (show okRu xs k = false by rw [HK.out, HMO.out hn]; simp))
                  have hn2 : (z.nm.toList == x.nm.toList) = true := hn
                  clear hn hq hqj HK HST HMO
                  go_wp2
                  go_quiet (fail)
                  go_wp2
                  go_ret
                  exact ⟨ret_bool HN.out.symm, below_drewN HBj.out _⟩
                · have HA2 := Lib.hid (show nameIn x.nm (xs.take (j + 1)) = false by rw [HST.out, hqj.out, hn]; rfl)
                  have hn2 : (z.nm.toList == x.nm.toList) = false := hn
                  clear hn hqj HST HMO
                  go_wp2
                  go_quiet (fail)
                  go_wp2
                  go_roundw
                  case rel => exact ⟨j + 1, by omega, by go_num, HA2.out, below_drewN HBj.out _⟩
                  case measure => simp [intOf]; omega
              · obtain rfl : j = k := by omega
                have HA3 := Lib.hid (allN_step hq.out (show okRu xs j = true by rw [HK.out, hs, HQ.out, hqj.out]; rfl))
                clear hq HK hqj
                go_wp2
                go_roundw
                case rel => exact ⟨j + 1, by omega, by omega, by go_num, HA3.out, HBj.out⟩
                case measure => simp [intOf]; omega
          · have hk1 : 0 < k := by omega
            obtain ⟨a', ha', hp0, hp1, hp2, hp4, hp5, hp6, hp7⟩ := rule_at (HA.out.below HB.out) (show k - 1 < xs.length by omega)
            obtain rfl : a = a' := by simpa using ha'
            have q1 : IntKind.i64.wrap ((k : Int) - 1) = (k : Int) - 1 := by rw [IntKind.wrap_i64]; omega
            have q2 : ((k : Int) - 1).toNat = k - 1 := by omega
            have q3 : (0 : Int) ≤ (k : Int) - 1 := by omega
            have q4 : (k : Int) - 1 < (xs.length : Int) := by omega
            have q5 : decide (0 < k) = true := decide_eq_true (by omega)
            have q9 : decide ((0 : Int) < (k : Int)) = true := decide_eq_true (by omega)
            have q7 : (1 : Int) ≤ (k : Int) := by omega
            have q8 : (k : Int) ≤ (xs.length : Int) := by omega
            have q6 : (k == 0) = false := by simp; omega
            obtain ⟨y, hy⟩ : ∃ y, Hid (xs[k - 1] = y) := ⟨_, Lib.hid rfl⟩
            rw [hy.out] at hp0 HK
            clear hp1 hp2 hp4 hp5 hp6 hp7 ha' hk0
            by_cases hlt2 : y.id < x.id
            · have hg : decide (x.id ≤ y.id) = false := decide_eq_false (by omega)
              have HQ := Lib.hid q6
              have HL := Lib.hid (decide_eq_true hlt2)
              clear q6 hlt2 hy
              go_wp2
              refine wp_region_noPanic ?_
              refine wp_region_held_drew (S := (fun w' => Below wr.heap.size wr w' ∧ w'.cell? (a.add (k * 7)) = some (.int .i64 x.id) ∧ w'.cell? ⟨(a.add (k * 7)).block, (a.add (k * 7)).off + 1, none⟩ = some (.string x.nm) ∧ w'.cell? ⟨(a.add (k * 7)).block, (a.add (k * 7)).off + 2, none⟩ = some (.int .i64 x.rk) ∧ w'.cell? ⟨(a.add (k * 7)).block, (a.add (k * 7)).off + 3, none⟩ = some (.bool x.sc) ∧ w'.cell? ⟨(a.add (k * 7)).block, (a.add (k * 7)).off + 4, none⟩ = some (.bool x.db) ∧ w'.cell? ⟨(a.add (k * 7)).block, (a.add (k * 7)).off + 5, none⟩ = some (.bool x.am) ∧ w'.cell? ⟨(a.add (k * 7)).block, (a.add (k * 7)).off + 6, none⟩ = some (.int .i64 x.nd) ∧ w'.cell? (a.add ((k - 1) * 7)) = some (.int .i64 y.id))) (by kernel_rfl) ?_ (fun hHeld => ?_)
              · ((try dsimp only); (first | exact ⟨(Below.refl _ _).drew, hc0, hc1, hc2, hc3, hc4, hc5, hc6, hp0⟩ | exact ⟨HB1.out, (HB1.out.cell (World.block_lt_of_cell? _ _ hc0)).trans hc0, (HB1.out.cell (World.block_lt_of_cell? _ _ hc1)).trans hc1, (HB1.out.cell (World.block_lt_of_cell? _ _ hc2)).trans hc2, (HB1.out.cell (World.block_lt_of_cell? _ _ hc3)).trans hc3, (HB1.out.cell (World.block_lt_of_cell? _ _ hc4)).trans hc4, (HB1.out.cell (World.block_lt_of_cell? _ _ hc5)).trans hc5, (HB1.out.cell (World.block_lt_of_cell? _ _ hc6)).trans hc6, (HB1.out.cell (World.block_lt_of_cell? _ _ hp0)).trans hp0⟩))
              refine take_yes (i := 0) (d := 15) (v := ?_) rfl rfl (by kernel_rfl) (by kernel_rfl) (by kernel_rfl) (fun _ _ _ h => h) (by kernel_rfl) ?_ hHeld ?_
              rotate_left
              · (intro w hSw; (try dsimp only at hSw); go_simp; try (with_reducible rfl))
              try simp only [Act.put, List.setIfInBounds_toArray, List.set_cons_zero, List.set_cons_succ]
              refine take_yes (i := 1) (d := 16) (v := ?_) rfl rfl (by kernel_rfl) (by kernel_rfl) (by kernel_rfl) (fun _ _ _ h => h) (by kernel_rfl) ?_ hHeld ?_
              rotate_left
              · (intro w hSw; (try dsimp only at hSw); go_simp; try (with_reducible rfl))
              try simp only [Act.put, List.setIfInBounds_toArray, List.set_cons_zero, List.set_cons_succ]
              refine take_yes (i := 2) (d := 17) (v := ?_) rfl rfl (by kernel_rfl) (by kernel_rfl) (by kernel_rfl) (fun _ _ _ h => h) (by kernel_rfl) ?_ hHeld ?_
              rotate_left
              · (intro w hSw; (try dsimp only at hSw); go_simp; try (with_reducible rfl))
              try simp only [Act.put, List.setIfInBounds_toArray, List.set_cons_zero, List.set_cons_succ]
              refine take_yes (i := 3) (d := 18) (v := ?_) rfl rfl (by kernel_rfl) (by kernel_rfl) (by kernel_rfl) (fun _ _ _ h => h) (by kernel_rfl) ?_ hHeld ?_
              rotate_left
              · (intro w hSw; (try dsimp only at hSw); go_simp; try (with_reducible rfl))
              try simp only [Act.put, List.setIfInBounds_toArray, List.set_cons_zero, List.set_cons_succ]
              refine wpAnyH_ready (rs := [4]) (by kernel_rfl) (by simp) ?_
              refine AllReadyH.cons rfl (fun K hK => ?_) AllReadyH.nil
              go_simp
              (go_at_call 136; refine (l2Single_any x _ hfn).mono ?_; rintro e w1 ⟨rfl, hb⟩; rw [hs]; have HB1 := Lib.hid ((below_drewN (Below.refl wr.heap.size wr) 1).trans hb); clear hb)
              (first | refine hK.out _ _ ?_ (fun hHeld1 => ?_) | (go_wp2_with fail; refine hK.out _ _ ?_ (fun hHeld1 => ?_)))
              · ((try dsimp only); (first | exact ⟨(Below.refl _ _).drew, hc0, hc1, hc2, hc3, hc4, hc5, hc6, hp0⟩ | exact ⟨HB1.out, (HB1.out.cell (World.block_lt_of_cell? _ _ hc0)).trans hc0, (HB1.out.cell (World.block_lt_of_cell? _ _ hc1)).trans hc1, (HB1.out.cell (World.block_lt_of_cell? _ _ hc2)).trans hc2, (HB1.out.cell (World.block_lt_of_cell? _ _ hc3)).trans hc3, (HB1.out.cell (World.block_lt_of_cell? _ _ hc4)).trans hc4, (HB1.out.cell (World.block_lt_of_cell? _ _ hc5)).trans hc5, (HB1.out.cell (World.block_lt_of_cell? _ _ hc6)).trans hc6, (HB1.out.cell (World.block_lt_of_cell? _ _ hp0)).trans hp0⟩))
              clear hK K hHeld
              have hHeld := hHeld1
              clear hHeld1
              try simp only [Act.put, List.setIfInBounds_toArray, List.set_cons_zero, List.set_cons_succ]
              refine take_yes (i := 5) (d := 20) (v := ?_) rfl rfl (by kernel_rfl) (by kernel_rfl) (by kernel_rfl) (fun _ _ _ h => h) (by kernel_rfl) ?_ hHeld ?_
              rotate_left
              · (intro w hSw; (try dsimp only at hSw); go_simp; try (with_reducible rfl))
              try simp only [Act.put, List.setIfInBounds_toArray, List.set_cons_zero, List.set_cons_succ]
              refine take_yes (i := 6) (d := 21) (v := ?_) rfl rfl (by kernel_rfl) (by kernel_rfl) (by kernel_rfl) (fun _ _ _ h => h) (by kernel_rfl) ?_ hHeld ?_
              rotate_left
              · (intro w hSw; (try dsimp only at hSw); go_simp; try (with_reducible rfl))
              try simp only [Act.put, List.setIfInBounds_toArray, List.set_cons_zero, List.set_cons_succ]
              refine take_yes (i := 7) (d := 22) (v := ?_) rfl rfl (by kernel_rfl) (by kernel_rfl) (by kernel_rfl) (fun _ _ _ h => h) (by kernel_rfl) ?_ hHeld ?_
              rotate_left
              · (intro w hSw; (try dsimp only at hSw); go_simp; try (with_reducible rfl))
              try simp only [Act.put, List.setIfInBounds_toArray, List.set_cons_zero, List.set_cons_succ]
              refine take_yes (i := 8) (d := 23) (v := ?_) rfl rfl (by kernel_rfl) (by kernel_rfl) (by kernel_rfl) (fun _ _ _ h => h) (by kernel_rfl) ?_ hHeld ?_
              rotate_left
              · (intro w hSw; (try dsimp only at hSw); go_simp; try (with_reducible rfl))
              try simp only [Act.put, List.setIfInBounds_toArray, List.set_cons_zero, List.set_cons_succ]
              refine take_yes (i := 9) (d := 24) (v := ?_) rfl rfl (by kernel_rfl) (by kernel_rfl) (by kernel_rfl) (fun _ _ _ h => h) (by kernel_rfl) ?_ hHeld ?_
              rotate_left
              · (intro w hSw; (try dsimp only at hSw); go_simp; try (with_reducible rfl))
              try simp only [Act.put, List.setIfInBounds_toArray, List.set_cons_zero, List.set_cons_succ]
              refine take_yes (i := 10) (d := 25) (v := ?_) rfl rfl (by kernel_rfl) (by kernel_rfl) (by kernel_rfl) (fun _ _ _ h => h) (by kernel_rfl) ?_ hHeld ?_
              rotate_left
              · (intro w hSw; (try dsimp only at hSw); go_simp; try (with_reducible rfl))
              try simp only [Act.put, List.setIfInBounds_toArray, List.set_cons_zero, List.set_cons_succ]
              refine take_yes (i := 11) (d := 26) (v := ?_) rfl rfl (by kernel_rfl) (by kernel_rfl) (by kernel_rfl) (fun _ _ _ h => h) (by kernel_rfl) ?_ hHeld ?_
              rotate_left
              · (intro w hSw; (try dsimp only at hSw); go_simp; try (with_reducible rfl))
              try simp only [Act.put, List.setIfInBounds_toArray, List.set_cons_zero, List.set_cons_succ]
              refine take_yes (i := 12) (d := 27) (v := ?_) rfl rfl (by kernel_rfl) (by kernel_rfl) (by kernel_rfl) (fun _ _ _ h => h) (by kernel_rfl) ?_ hHeld ?_
              rotate_left
              · (intro w hSw; (try dsimp only at hSw); go_simp; try (with_reducible rfl))
              try simp only [Act.put, List.setIfInBounds_toArray, List.set_cons_zero, List.set_cons_succ]
              refine take_yes (i := 13) (d := 28) (v := ?_) rfl rfl (by kernel_rfl) (by kernel_rfl) (by kernel_rfl) (fun _ _ _ h => h) (by kernel_rfl) ?_ hHeld ?_
              rotate_left
              · (intro w hSw; (try dsimp only at hSw); go_simp; try (with_reducible rfl))
              try simp only [Act.put, List.setIfInBounds_toArray, List.set_cons_zero, List.set_cons_succ]
              refine take_yes (i := 14) (d := 29) (v := ?_) rfl rfl (by kernel_rfl) (by kernel_rfl) (by kernel_rfl) (fun _ _ _ h => h) (by kernel_rfl) ?_ hHeld ?_
              rotate_left
              · (intro w hSw; (try dsimp only at hSw); go_simp; try (with_reducible rfl))
              try simp only [Act.put, List.setIfInBounds_toArray, List.set_cons_zero, List.set_cons_succ]
              refine take_yes (i := 15) (d := 30) (v := ?_) rfl rfl (by kernel_rfl) (by kernel_rfl) (by kernel_rfl) (fun _ _ _ h => h) (by kernel_rfl) ?_ hHeld ?_
              rotate_left
              · (intro w hSw; (try dsimp only at hSw); go_simp; try (with_reducible rfl))
              try simp only [Act.put, List.setIfInBounds_toArray, List.set_cons_zero, List.set_cons_succ]
              refine take_yes (i := 16) (d := 31) (v := ?_) rfl rfl (by kernel_rfl) (by kernel_rfl) (by kernel_rfl) (fun _ _ _ h => h) (by kernel_rfl) ?_ hHeld ?_
              rotate_left
              · (intro w hSw; (try dsimp only at hSw); go_simp; try (with_reducible rfl))
              try simp only [Act.put, List.setIfInBounds_toArray, List.set_cons_zero, List.set_cons_succ]
              refine take_yes (i := 17) (d := 32) (v := ?_) rfl rfl (by kernel_rfl) (by kernel_rfl) (by kernel_rfl) (fun _ _ _ h => h) (by kernel_rfl) ?_ hHeld ?_
              rotate_left
              · (intro w hSw; (try dsimp only at hSw); go_simp; try (with_reducible rfl))
              try simp only [Act.put, List.setIfInBounds_toArray, List.set_cons_zero, List.set_cons_succ]
              refine take_yes (i := 18) (d := 33) (v := ?_) rfl rfl (by kernel_rfl) (by kernel_rfl) (by kernel_rfl) (fun _ _ _ h => h) (by kernel_rfl) ?_ hHeld ?_
              rotate_left
              · (intro w hSw; (try dsimp only at hSw); go_simp; try (with_reducible rfl))
              try simp only [Act.put, List.setIfInBounds_toArray, List.set_cons_zero, List.set_cons_succ]
              refine take_yes (i := 19) (d := 34) (v := ?_) rfl rfl (by kernel_rfl) (by kernel_rfl) (by kernel_rfl) (fun _ _ _ h => h) (by kernel_rfl) ?_ hHeld ?_
              rotate_left
              · (intro w hSw; (try dsimp only at hSw); go_simp; try (with_reducible rfl))
              try simp only [Act.put, List.setIfInBounds_toArray, List.set_cons_zero, List.set_cons_succ]
              refine take_yes (i := 20) (d := 35) (v := ?_) rfl rfl (by kernel_rfl) (by kernel_rfl) (by kernel_rfl) (fun _ _ _ h => h) (by kernel_rfl) ?_ hHeld ?_
              rotate_left
              · (intro w hSw; (try dsimp only at hSw); go_simp; try (with_reducible rfl))
              try simp only [Act.put, List.setIfInBounds_toArray, List.set_cons_zero, List.set_cons_succ]
              refine take_yes (i := 21) (d := 36) (v := ?_) rfl rfl (by kernel_rfl) (by kernel_rfl) (by kernel_rfl) (fun _ _ _ h => h) (by kernel_rfl) ?_ hHeld ?_
              rotate_left
              · (intro w hSw; (try dsimp only at hSw); go_simp; try (with_reducible rfl))
              try simp only [Act.put, List.setIfInBounds_toArray, List.set_cons_zero, List.set_cons_succ]
              refine take_yes (i := 22) (d := 37) (v := ?_) rfl rfl (by kernel_rfl) (by kernel_rfl) (by kernel_rfl) (fun _ _ _ h => h) (by kernel_rfl) ?_ hHeld ?_
              rotate_left
              · (intro w hSw; (try dsimp only at hSw); go_simp; try (with_reducible rfl))
              try simp only [Act.put, List.setIfInBounds_toArray, List.set_cons_zero, List.set_cons_succ]
              refine take_yes (i := 23) (d := 38) (v := ?_) rfl rfl (by kernel_rfl) (by kernel_rfl) (by kernel_rfl) (fun _ _ _ h => h) (by kernel_rfl) ?_ hHeld ?_
              rotate_left
              · (intro w hSw; (try dsimp only at hSw); go_simp; try (with_reducible rfl))
              try simp only [Act.put, List.setIfInBounds_toArray, List.set_cons_zero, List.set_cons_succ]
              refine wpAnyH_done (by kernel_rfl) ?_ _
              refine NoPanic.normal ?_
              clear q1 hp0
              have hfin := HB.out.trans (HB1.out.mono HB.out.size)
              have HFI := Lib.hid hfin
              clear hfin hc0 hc1 hc2 hc3 hc4 hc5 hc6
              go_wp2
              go_loopw [4] (fun i wi => ∃ j : Nat, j ≤ k ∧ i = .int .i64 j ∧ Hid (nameIn x.nm (xs.take j) = false) ∧ Below w.heap.size w wi) (fun i _ => k - (intOf i).toNat)
              case atStart => exact ⟨0, Nat.zero_le _, rfl, rfl, HFI.out⟩
              case round =>
                obtain ⟨j, hj, rfl, hqj, hBj⟩ := hrel
                have HBj := Lib.hid hBj
                clear hBj
                by_cases hlj : j < k
                · obtain ⟨b1, hb1, g0, g1, g2, g3, g4, g5, g6⟩ := rule_at (HA.out.below HBj.out) (show j < xs.length by omega)
                  obtain rfl : a = b1 := by simpa using hb1
                  obtain ⟨b2, hb2, d0, d1, d2, d3, d4, d5, d6⟩ := rule_at (HA.out.below HBj.out) hlt
                  obtain rfl : a = b2 := by simpa using hb2
                  have j1 : (j : Int) < (xs.length : Int) := by omega
                  have j2 : (j : Int) < (k : Int) := by omega
                  have HST := Lib.hid (nameIn_step (s := x.nm) (show j < xs.length by omega))
                  have HMO := Lib.hid (nameIn_more (s := x.nm) hlj (Nat.le_of_lt hlt))
                  obtain ⟨z, hz⟩ : ∃ z, Hid (xs[j] = z) := ⟨_, Lib.hid rfl⟩
                  rw [hz.out] at g1 HST HMO
                  rw [hx.out] at d1
                  clear g0 g2 g3 g4 g5 g6 d0 d2 d3 d4 d5 d6 hb1 hb2
                  rcases Bool.eq_false_or_eq_true (nmB z.nm x.nm) with hn | hn
                  · have HN := Lib.hid (rulesB_no hlt (show okRu xs k = false by rw [HK.out, HMO.out hn]; simp))
                    have hn2 : (z.nm.toList == x.nm.toList) = true := hn
                    clear hn hq hqj HK HST HMO
                    go_wp2
                    go_quiet (fail)
                    go_wp2
                    go_ret
                    exact ⟨ret_bool HN.out.symm, below_drewN HBj.out _⟩
                  · have HA2 := Lib.hid (show nameIn x.nm (xs.take (j + 1)) = false by rw [HST.out, hqj.out, hn]; rfl)
                    have hn2 : (z.nm.toList == x.nm.toList) = false := hn
                    clear hn hqj HST HMO
                    go_wp2
                    go_quiet (fail)
                    go_wp2
                    go_roundw
                    case rel => exact ⟨j + 1, by omega, by go_num, HA2.out, below_drewN HBj.out _⟩
                    case measure => simp [intOf]; omega
                · obtain rfl : j = k := by omega
                  have HA3 := Lib.hid (allN_step hq.out (show okRu xs j = true by rw [HK.out, hs, HQ.out, HL.out, hqj.out]; rfl))
                  clear hq HK hqj
                  go_wp2
                  go_roundw
                  case rel => exact ⟨j + 1, by omega, by omega, by go_num, HA3.out, HBj.out⟩
                  case measure => simp [intOf]; omega
            · have hg : decide (x.id ≤ y.id) = true := decide_eq_true (by omega)
              have HN := Lib.hid (rulesB_no hlt (show okRu xs k = false by rw [HK.out, hs, q6, decide_eq_false hlt2]; simp))
              clear hq HK q6 hlt2 hy
              go_wp2
              refine wp_region_noPanic ?_
              refine wp_region_held_drew (S := (fun w' => Below wr.heap.size wr w' ∧ w'.cell? (a.add (k * 7)) = some (.int .i64 x.id) ∧ w'.cell? ⟨(a.add (k * 7)).block, (a.add (k * 7)).off + 1, none⟩ = some (.string x.nm) ∧ w'.cell? ⟨(a.add (k * 7)).block, (a.add (k * 7)).off + 2, none⟩ = some (.int .i64 x.rk) ∧ w'.cell? ⟨(a.add (k * 7)).block, (a.add (k * 7)).off + 3, none⟩ = some (.bool x.sc) ∧ w'.cell? ⟨(a.add (k * 7)).block, (a.add (k * 7)).off + 4, none⟩ = some (.bool x.db) ∧ w'.cell? ⟨(a.add (k * 7)).block, (a.add (k * 7)).off + 5, none⟩ = some (.bool x.am) ∧ w'.cell? ⟨(a.add (k * 7)).block, (a.add (k * 7)).off + 6, none⟩ = some (.int .i64 x.nd) ∧ w'.cell? (a.add ((k - 1) * 7)) = some (.int .i64 y.id))) (by kernel_rfl) ?_ (fun hHeld => ?_)
              · ((try dsimp only); (first | exact ⟨(Below.refl _ _).drew, hc0, hc1, hc2, hc3, hc4, hc5, hc6, hp0⟩ | exact ⟨HB1.out, (HB1.out.cell (World.block_lt_of_cell? _ _ hc0)).trans hc0, (HB1.out.cell (World.block_lt_of_cell? _ _ hc1)).trans hc1, (HB1.out.cell (World.block_lt_of_cell? _ _ hc2)).trans hc2, (HB1.out.cell (World.block_lt_of_cell? _ _ hc3)).trans hc3, (HB1.out.cell (World.block_lt_of_cell? _ _ hc4)).trans hc4, (HB1.out.cell (World.block_lt_of_cell? _ _ hc5)).trans hc5, (HB1.out.cell (World.block_lt_of_cell? _ _ hc6)).trans hc6, (HB1.out.cell (World.block_lt_of_cell? _ _ hp0)).trans hp0⟩))
              refine take_yes (i := 0) (d := 15) (v := ?_) rfl rfl (by kernel_rfl) (by kernel_rfl) (by kernel_rfl) (fun _ _ _ h => h) (by kernel_rfl) ?_ hHeld ?_
              rotate_left
              · (intro w hSw; (try dsimp only at hSw); go_simp; try (with_reducible rfl))
              try simp only [Act.put, List.setIfInBounds_toArray, List.set_cons_zero, List.set_cons_succ]
              refine take_yes (i := 1) (d := 16) (v := ?_) rfl rfl (by kernel_rfl) (by kernel_rfl) (by kernel_rfl) (fun _ _ _ h => h) (by kernel_rfl) ?_ hHeld ?_
              rotate_left
              · (intro w hSw; (try dsimp only at hSw); go_simp; try (with_reducible rfl))
              try simp only [Act.put, List.setIfInBounds_toArray, List.set_cons_zero, List.set_cons_succ]
              refine take_yes (i := 2) (d := 17) (v := ?_) rfl rfl (by kernel_rfl) (by kernel_rfl) (by kernel_rfl) (fun _ _ _ h => h) (by kernel_rfl) ?_ hHeld ?_
              rotate_left
              · (intro w hSw; (try dsimp only at hSw); go_simp; try (with_reducible rfl))
              try simp only [Act.put, List.setIfInBounds_toArray, List.set_cons_zero, List.set_cons_succ]
              refine take_yes (i := 3) (d := 18) (v := ?_) rfl rfl (by kernel_rfl) (by kernel_rfl) (by kernel_rfl) (fun _ _ _ h => h) (by kernel_rfl) ?_ hHeld ?_
              rotate_left
              · (intro w hSw; (try dsimp only at hSw); go_simp; try (with_reducible rfl))
              try simp only [Act.put, List.setIfInBounds_toArray, List.set_cons_zero, List.set_cons_succ]
              refine wpAnyH_ready (rs := [4]) (by kernel_rfl) (by simp) ?_
              refine AllReadyH.cons rfl (fun K hK => ?_) AllReadyH.nil
              go_simp
              (go_at_call 136; refine (l2Single_any x _ hfn).mono ?_; rintro e w1 ⟨rfl, hb⟩; rw [hs]; have HB1 := Lib.hid ((below_drewN (Below.refl wr.heap.size wr) 1).trans hb); clear hb)
              (first | refine hK.out _ _ ?_ (fun hHeld1 => ?_) | (go_wp2_with fail; refine hK.out _ _ ?_ (fun hHeld1 => ?_)))
              · ((try dsimp only); (first | exact ⟨(Below.refl _ _).drew, hc0, hc1, hc2, hc3, hc4, hc5, hc6, hp0⟩ | exact ⟨HB1.out, (HB1.out.cell (World.block_lt_of_cell? _ _ hc0)).trans hc0, (HB1.out.cell (World.block_lt_of_cell? _ _ hc1)).trans hc1, (HB1.out.cell (World.block_lt_of_cell? _ _ hc2)).trans hc2, (HB1.out.cell (World.block_lt_of_cell? _ _ hc3)).trans hc3, (HB1.out.cell (World.block_lt_of_cell? _ _ hc4)).trans hc4, (HB1.out.cell (World.block_lt_of_cell? _ _ hc5)).trans hc5, (HB1.out.cell (World.block_lt_of_cell? _ _ hc6)).trans hc6, (HB1.out.cell (World.block_lt_of_cell? _ _ hp0)).trans hp0⟩))
              clear hK K hHeld
              have hHeld := hHeld1
              clear hHeld1
              try simp only [Act.put, List.setIfInBounds_toArray, List.set_cons_zero, List.set_cons_succ]
              refine take_yes (i := 5) (d := 20) (v := ?_) rfl rfl (by kernel_rfl) (by kernel_rfl) (by kernel_rfl) (fun _ _ _ h => h) (by kernel_rfl) ?_ hHeld ?_
              rotate_left
              · (intro w hSw; (try dsimp only at hSw); go_simp; try (with_reducible rfl))
              try simp only [Act.put, List.setIfInBounds_toArray, List.set_cons_zero, List.set_cons_succ]
              refine take_yes (i := 6) (d := 21) (v := ?_) rfl rfl (by kernel_rfl) (by kernel_rfl) (by kernel_rfl) (fun _ _ _ h => h) (by kernel_rfl) ?_ hHeld ?_
              rotate_left
              · (intro w hSw; (try dsimp only at hSw); go_simp; try (with_reducible rfl))
              try simp only [Act.put, List.setIfInBounds_toArray, List.set_cons_zero, List.set_cons_succ]
              refine take_yes (i := 7) (d := 22) (v := ?_) rfl rfl (by kernel_rfl) (by kernel_rfl) (by kernel_rfl) (fun _ _ _ h => h) (by kernel_rfl) ?_ hHeld ?_
              rotate_left
              · (intro w hSw; (try dsimp only at hSw); go_simp; try (with_reducible rfl))
              try simp only [Act.put, List.setIfInBounds_toArray, List.set_cons_zero, List.set_cons_succ]
              refine take_yes (i := 8) (d := 23) (v := ?_) rfl rfl (by kernel_rfl) (by kernel_rfl) (by kernel_rfl) (fun _ _ _ h => h) (by kernel_rfl) ?_ hHeld ?_
              rotate_left
              · (intro w hSw; (try dsimp only at hSw); go_simp; try (with_reducible rfl))
              try simp only [Act.put, List.setIfInBounds_toArray, List.set_cons_zero, List.set_cons_succ]
              refine take_yes (i := 9) (d := 24) (v := ?_) rfl rfl (by kernel_rfl) (by kernel_rfl) (by kernel_rfl) (fun _ _ _ h => h) (by kernel_rfl) ?_ hHeld ?_
              rotate_left
              · (intro w hSw; (try dsimp only at hSw); go_simp; try (with_reducible rfl))
              try simp only [Act.put, List.setIfInBounds_toArray, List.set_cons_zero, List.set_cons_succ]
              refine take_yes (i := 10) (d := 25) (v := ?_) rfl rfl (by kernel_rfl) (by kernel_rfl) (by kernel_rfl) (fun _ _ _ h => h) (by kernel_rfl) ?_ hHeld ?_
              rotate_left
              · (intro w hSw; (try dsimp only at hSw); go_simp; try (with_reducible rfl))
              try simp only [Act.put, List.setIfInBounds_toArray, List.set_cons_zero, List.set_cons_succ]
              refine take_yes (i := 11) (d := 26) (v := ?_) rfl rfl (by kernel_rfl) (by kernel_rfl) (by kernel_rfl) (fun _ _ _ h => h) (by kernel_rfl) ?_ hHeld ?_
              rotate_left
              · (intro w hSw; (try dsimp only at hSw); go_simp; try (with_reducible rfl))
              try simp only [Act.put, List.setIfInBounds_toArray, List.set_cons_zero, List.set_cons_succ]
              refine take_yes (i := 12) (d := 27) (v := ?_) rfl rfl (by kernel_rfl) (by kernel_rfl) (by kernel_rfl) (fun _ _ _ h => h) (by kernel_rfl) ?_ hHeld ?_
              rotate_left
              · (intro w hSw; (try dsimp only at hSw); go_simp; try (with_reducible rfl))
              try simp only [Act.put, List.setIfInBounds_toArray, List.set_cons_zero, List.set_cons_succ]
              refine take_yes (i := 13) (d := 28) (v := ?_) rfl rfl (by kernel_rfl) (by kernel_rfl) (by kernel_rfl) (fun _ _ _ h => h) (by kernel_rfl) ?_ hHeld ?_
              rotate_left
              · (intro w hSw; (try dsimp only at hSw); go_simp; try (with_reducible rfl))
              try simp only [Act.put, List.setIfInBounds_toArray, List.set_cons_zero, List.set_cons_succ]
              refine take_yes (i := 14) (d := 29) (v := ?_) rfl rfl (by kernel_rfl) (by kernel_rfl) (by kernel_rfl) (fun _ _ _ h => h) (by kernel_rfl) ?_ hHeld ?_
              rotate_left
              · (intro w hSw; (try dsimp only at hSw); go_simp; try (with_reducible rfl))
              try simp only [Act.put, List.setIfInBounds_toArray, List.set_cons_zero, List.set_cons_succ]
              refine take_yes (i := 15) (d := 30) (v := ?_) rfl rfl (by kernel_rfl) (by kernel_rfl) (by kernel_rfl) (fun _ _ _ h => h) (by kernel_rfl) ?_ hHeld ?_
              rotate_left
              · (intro w hSw; (try dsimp only at hSw); go_simp; try (with_reducible rfl))
              try simp only [Act.put, List.setIfInBounds_toArray, List.set_cons_zero, List.set_cons_succ]
              refine take_yes (i := 16) (d := 31) (v := ?_) rfl rfl (by kernel_rfl) (by kernel_rfl) (by kernel_rfl) (fun _ _ _ h => h) (by kernel_rfl) ?_ hHeld ?_
              rotate_left
              · (intro w hSw; (try dsimp only at hSw); go_simp; try (with_reducible rfl))
              try simp only [Act.put, List.setIfInBounds_toArray, List.set_cons_zero, List.set_cons_succ]
              refine take_yes (i := 17) (d := 32) (v := ?_) rfl rfl (by kernel_rfl) (by kernel_rfl) (by kernel_rfl) (fun _ _ _ h => h) (by kernel_rfl) ?_ hHeld ?_
              rotate_left
              · (intro w hSw; (try dsimp only at hSw); go_simp; try (with_reducible rfl))
              try simp only [Act.put, List.setIfInBounds_toArray, List.set_cons_zero, List.set_cons_succ]
              refine take_yes (i := 18) (d := 33) (v := ?_) rfl rfl (by kernel_rfl) (by kernel_rfl) (by kernel_rfl) (fun _ _ _ h => h) (by kernel_rfl) ?_ hHeld ?_
              rotate_left
              · (intro w hSw; (try dsimp only at hSw); go_simp; try (with_reducible rfl))
              try simp only [Act.put, List.setIfInBounds_toArray, List.set_cons_zero, List.set_cons_succ]
              refine take_yes (i := 19) (d := 34) (v := ?_) rfl rfl (by kernel_rfl) (by kernel_rfl) (by kernel_rfl) (fun _ _ _ h => h) (by kernel_rfl) ?_ hHeld ?_
              rotate_left
              · (intro w hSw; (try dsimp only at hSw); go_simp; try (with_reducible rfl))
              try simp only [Act.put, List.setIfInBounds_toArray, List.set_cons_zero, List.set_cons_succ]
              refine take_yes (i := 20) (d := 35) (v := ?_) rfl rfl (by kernel_rfl) (by kernel_rfl) (by kernel_rfl) (fun _ _ _ h => h) (by kernel_rfl) ?_ hHeld ?_
              rotate_left
              · (intro w hSw; (try dsimp only at hSw); go_simp; try (with_reducible rfl))
              try simp only [Act.put, List.setIfInBounds_toArray, List.set_cons_zero, List.set_cons_succ]
              refine take_yes (i := 21) (d := 36) (v := ?_) rfl rfl (by kernel_rfl) (by kernel_rfl) (by kernel_rfl) (fun _ _ _ h => h) (by kernel_rfl) ?_ hHeld ?_
              rotate_left
              · (intro w hSw; (try dsimp only at hSw); go_simp; try (with_reducible rfl))
              try simp only [Act.put, List.setIfInBounds_toArray, List.set_cons_zero, List.set_cons_succ]
              refine take_yes (i := 22) (d := 37) (v := ?_) rfl rfl (by kernel_rfl) (by kernel_rfl) (by kernel_rfl) (fun _ _ _ h => h) (by kernel_rfl) ?_ hHeld ?_
              rotate_left
              · (intro w hSw; (try dsimp only at hSw); go_simp; try (with_reducible rfl))
              try simp only [Act.put, List.setIfInBounds_toArray, List.set_cons_zero, List.set_cons_succ]
              refine take_yes (i := 23) (d := 38) (v := ?_) rfl rfl (by kernel_rfl) (by kernel_rfl) (by kernel_rfl) (fun _ _ _ h => h) (by kernel_rfl) ?_ hHeld ?_
              rotate_left
              · (intro w hSw; (try dsimp only at hSw); go_simp; try (with_reducible rfl))
              try simp only [Act.put, List.setIfInBounds_toArray, List.set_cons_zero, List.set_cons_succ]
              refine wpAnyH_done (by kernel_rfl) ?_ _
              refine NoPanic.normal ?_
              clear q1
              have hfin := HB.out.trans (HB1.out.mono HB.out.size)
              have HFI := Lib.hid hfin
              clear hfin
              go_wp2
              go_ret
              exact ⟨ret_bool HN.out.symm, HFI.out⟩
        · have HN := Lib.hid (rulesB_no hlt (show okRu xs k = false by rw [HK.out, hs]; simp))
          clear hq HK
          go_wp2
          refine wp_region_noPanic ?_
          refine wp_region_held_drew (S := (fun w' => Below wr.heap.size wr w' ∧ w'.cell? (a.add (k * 7)) = some (.int .i64 x.id) ∧ w'.cell? ⟨(a.add (k * 7)).block, (a.add (k * 7)).off + 1, none⟩ = some (.string x.nm) ∧ w'.cell? ⟨(a.add (k * 7)).block, (a.add (k * 7)).off + 2, none⟩ = some (.int .i64 x.rk) ∧ w'.cell? ⟨(a.add (k * 7)).block, (a.add (k * 7)).off + 3, none⟩ = some (.bool x.sc) ∧ w'.cell? ⟨(a.add (k * 7)).block, (a.add (k * 7)).off + 4, none⟩ = some (.bool x.db) ∧ w'.cell? ⟨(a.add (k * 7)).block, (a.add (k * 7)).off + 5, none⟩ = some (.bool x.am) ∧ w'.cell? ⟨(a.add (k * 7)).block, (a.add (k * 7)).off + 6, none⟩ = some (.int .i64 x.nd))) (by kernel_rfl) ?_ (fun hHeld => ?_)
          · ((try dsimp only); (first | exact ⟨(Below.refl _ _).drew, hc0, hc1, hc2, hc3, hc4, hc5, hc6⟩ | exact ⟨HB1.out, (HB1.out.cell (World.block_lt_of_cell? _ _ hc0)).trans hc0, (HB1.out.cell (World.block_lt_of_cell? _ _ hc1)).trans hc1, (HB1.out.cell (World.block_lt_of_cell? _ _ hc2)).trans hc2, (HB1.out.cell (World.block_lt_of_cell? _ _ hc3)).trans hc3, (HB1.out.cell (World.block_lt_of_cell? _ _ hc4)).trans hc4, (HB1.out.cell (World.block_lt_of_cell? _ _ hc5)).trans hc5, (HB1.out.cell (World.block_lt_of_cell? _ _ hc6)).trans hc6⟩))
          refine take_yes (i := 0) (d := 15) (v := ?_) rfl rfl (by kernel_rfl) (by kernel_rfl) (by kernel_rfl) (fun _ _ _ h => h) (by kernel_rfl) ?_ hHeld ?_
          rotate_left
          · (intro w hSw; (try dsimp only at hSw); go_simp; try (with_reducible rfl))
          try simp only [Act.put, List.setIfInBounds_toArray, List.set_cons_zero, List.set_cons_succ]
          refine take_yes (i := 1) (d := 16) (v := ?_) rfl rfl (by kernel_rfl) (by kernel_rfl) (by kernel_rfl) (fun _ _ _ h => h) (by kernel_rfl) ?_ hHeld ?_
          rotate_left
          · (intro w hSw; (try dsimp only at hSw); go_simp; try (with_reducible rfl))
          try simp only [Act.put, List.setIfInBounds_toArray, List.set_cons_zero, List.set_cons_succ]
          refine take_yes (i := 2) (d := 17) (v := ?_) rfl rfl (by kernel_rfl) (by kernel_rfl) (by kernel_rfl) (fun _ _ _ h => h) (by kernel_rfl) ?_ hHeld ?_
          rotate_left
          · (intro w hSw; (try dsimp only at hSw); go_simp; try (with_reducible rfl))
          try simp only [Act.put, List.setIfInBounds_toArray, List.set_cons_zero, List.set_cons_succ]
          refine take_yes (i := 3) (d := 18) (v := ?_) rfl rfl (by kernel_rfl) (by kernel_rfl) (by kernel_rfl) (fun _ _ _ h => h) (by kernel_rfl) ?_ hHeld ?_
          rotate_left
          · (intro w hSw; (try dsimp only at hSw); go_simp; try (with_reducible rfl))
          try simp only [Act.put, List.setIfInBounds_toArray, List.set_cons_zero, List.set_cons_succ]
          refine wpAnyH_ready (rs := [4]) (by kernel_rfl) (by simp) ?_
          refine AllReadyH.cons rfl (fun K hK => ?_) AllReadyH.nil
          go_simp
          (go_at_call 136; refine (l2Single_any x _ hfn).mono ?_; rintro e w1 ⟨rfl, hb⟩; rw [hs]; have HB1 := Lib.hid ((below_drewN (Below.refl wr.heap.size wr) 1).trans hb); clear hb)
          (first | refine hK.out _ _ ?_ (fun hHeld1 => ?_) | (go_wp2_with fail; refine hK.out _ _ ?_ (fun hHeld1 => ?_)))
          · ((try dsimp only); (first | exact ⟨(Below.refl _ _).drew, hc0, hc1, hc2, hc3, hc4, hc5, hc6⟩ | exact ⟨HB1.out, (HB1.out.cell (World.block_lt_of_cell? _ _ hc0)).trans hc0, (HB1.out.cell (World.block_lt_of_cell? _ _ hc1)).trans hc1, (HB1.out.cell (World.block_lt_of_cell? _ _ hc2)).trans hc2, (HB1.out.cell (World.block_lt_of_cell? _ _ hc3)).trans hc3, (HB1.out.cell (World.block_lt_of_cell? _ _ hc4)).trans hc4, (HB1.out.cell (World.block_lt_of_cell? _ _ hc5)).trans hc5, (HB1.out.cell (World.block_lt_of_cell? _ _ hc6)).trans hc6⟩))
          clear hK K hHeld
          have hHeld := hHeld1
          clear hHeld1
          try simp only [Act.put, List.setIfInBounds_toArray, List.set_cons_zero, List.set_cons_succ]
          refine take_yes (i := 5) (d := 20) (v := ?_) rfl rfl (by kernel_rfl) (by kernel_rfl) (by kernel_rfl) (fun _ _ _ h => h) (by kernel_rfl) ?_ hHeld ?_
          rotate_left
          · (intro w hSw; (try dsimp only at hSw); go_simp; try (with_reducible rfl))
          try simp only [Act.put, List.setIfInBounds_toArray, List.set_cons_zero, List.set_cons_succ]
          refine take_yes (i := 6) (d := 21) (v := ?_) rfl rfl (by kernel_rfl) (by kernel_rfl) (by kernel_rfl) (fun _ _ _ h => h) (by kernel_rfl) ?_ hHeld ?_
          rotate_left
          · (intro w hSw; (try dsimp only at hSw); go_simp; try (with_reducible rfl))
          try simp only [Act.put, List.setIfInBounds_toArray, List.set_cons_zero, List.set_cons_succ]
          refine take_no (i := 7) (d := 22) rfl rfl (by kernel_rfl) (by kernel_rfl) (by kernel_rfl) (fun _ _ _ h => h) (by kernel_rfl) hHeld ?_
          try simp only [Act.put, List.setIfInBounds_toArray, List.set_cons_zero, List.set_cons_succ]
          refine take_no (i := 8) (d := 23) rfl rfl (by kernel_rfl) (by kernel_rfl) (by kernel_rfl) (fun _ _ _ h => h) (by kernel_rfl) hHeld ?_
          try simp only [Act.put, List.setIfInBounds_toArray, List.set_cons_zero, List.set_cons_succ]
          refine take_no (i := 9) (d := 24) rfl rfl (by kernel_rfl) (by kernel_rfl) (by kernel_rfl) (fun _ _ _ h => h) (by kernel_rfl) hHeld ?_
          try simp only [Act.put, List.setIfInBounds_toArray, List.set_cons_zero, List.set_cons_succ]
          refine take_no (i := 10) (d := 25) rfl rfl (by kernel_rfl) (by kernel_rfl) (by kernel_rfl) (fun _ _ _ h => h) (by kernel_rfl) hHeld ?_
          try simp only [Act.put, List.setIfInBounds_toArray, List.set_cons_zero, List.set_cons_succ]
          refine take_no (i := 11) (d := 26) rfl rfl (by kernel_rfl) (by kernel_rfl) (by kernel_rfl) (fun _ _ _ h => h) (by kernel_rfl) hHeld ?_
          try simp only [Act.put, List.setIfInBounds_toArray, List.set_cons_zero, List.set_cons_succ]
          refine take_no (i := 12) (d := 27) rfl rfl (by kernel_rfl) (by kernel_rfl) (by kernel_rfl) (fun _ _ _ h => h) (by kernel_rfl) hHeld ?_
          try simp only [Act.put, List.setIfInBounds_toArray, List.set_cons_zero, List.set_cons_succ]
          refine take_no (i := 13) (d := 28) rfl rfl (by kernel_rfl) (by kernel_rfl) (by kernel_rfl) (fun _ _ _ h => h) (by kernel_rfl) hHeld ?_
          try simp only [Act.put, List.setIfInBounds_toArray, List.set_cons_zero, List.set_cons_succ]
          refine take_no (i := 14) (d := 29) rfl rfl (by kernel_rfl) (by kernel_rfl) (by kernel_rfl) (fun _ _ _ h => h) (by kernel_rfl) hHeld ?_
          try simp only [Act.put, List.setIfInBounds_toArray, List.set_cons_zero, List.set_cons_succ]
          refine take_no (i := 15) (d := 30) rfl rfl (by kernel_rfl) (by kernel_rfl) (by kernel_rfl) (fun _ _ _ h => h) (by kernel_rfl) hHeld ?_
          try simp only [Act.put, List.setIfInBounds_toArray, List.set_cons_zero, List.set_cons_succ]
          refine take_no (i := 16) (d := 31) rfl rfl (by kernel_rfl) (by kernel_rfl) (by kernel_rfl) (fun _ _ _ h => h) (by kernel_rfl) hHeld ?_
          try simp only [Act.put, List.setIfInBounds_toArray, List.set_cons_zero, List.set_cons_succ]
          refine take_no (i := 17) (d := 32) rfl rfl (by kernel_rfl) (by kernel_rfl) (by kernel_rfl) (fun _ _ _ h => h) (by kernel_rfl) hHeld ?_
          try simp only [Act.put, List.setIfInBounds_toArray, List.set_cons_zero, List.set_cons_succ]
          refine take_no (i := 18) (d := 33) rfl rfl (by kernel_rfl) (by kernel_rfl) (by kernel_rfl) (fun _ _ _ h => h) (by kernel_rfl) hHeld ?_
          try simp only [Act.put, List.setIfInBounds_toArray, List.set_cons_zero, List.set_cons_succ]
          refine take_no (i := 19) (d := 34) rfl rfl (by kernel_rfl) (by kernel_rfl) (by kernel_rfl) (fun _ _ _ h => h) (by kernel_rfl) hHeld ?_
          try simp only [Act.put, List.setIfInBounds_toArray, List.set_cons_zero, List.set_cons_succ]
          refine take_no (i := 20) (d := 35) rfl rfl (by kernel_rfl) (by kernel_rfl) (by kernel_rfl) (fun _ _ _ h => h) (by kernel_rfl) hHeld ?_
          try simp only [Act.put, List.setIfInBounds_toArray, List.set_cons_zero, List.set_cons_succ]
          refine take_no (i := 21) (d := 36) rfl rfl (by kernel_rfl) (by kernel_rfl) (by kernel_rfl) (fun _ _ _ h => h) (by kernel_rfl) hHeld ?_
          try simp only [Act.put, List.setIfInBounds_toArray, List.set_cons_zero, List.set_cons_succ]
          refine take_no (i := 22) (d := 37) rfl rfl (by kernel_rfl) (by kernel_rfl) (by kernel_rfl) (fun _ _ _ h => h) (by kernel_rfl) hHeld ?_
          try simp only [Act.put, List.setIfInBounds_toArray, List.set_cons_zero, List.set_cons_succ]
          refine take_yes (i := 23) (d := 38) (v := ?_) rfl rfl (by kernel_rfl) (by kernel_rfl) (by kernel_rfl) (fun _ _ _ h => h) (by kernel_rfl) ?_ hHeld ?_
          rotate_left
          · (intro w hSw; (try dsimp only at hSw); go_simp; try (with_reducible rfl))
          try simp only [Act.put, List.setIfInBounds_toArray, List.set_cons_zero, List.set_cons_succ]
          refine wpAnyH_done (by kernel_rfl) ?_ _
          refine NoPanic.normal ?_
          have hfin := HB.out.trans (HB1.out.mono HB.out.size)
          have HFI := Lib.hid hfin
          clear hfin
          go_wp2
          go_ret
          exact ⟨ret_bool HN.out.symm, HFI.out⟩
      · have HR := Lib.hid (show rulesB xs = false by unfold rulesB; rw [decide_eq_false (show ¬ (xs.length : Int) ≤ 8 by omega)]; simp)
        have i2 : ¬ (k : Int) ≤ 8 := by omega
        have i3 : ¬ (xs.length : Int) ≤ 8 := by omega
        have i1 : (k : Int) < (xs.length : Int) := by omega
        go_wp2
        go_ret
        exact ⟨ret_bool HR.out.symm, HB.out⟩
    · obtain rfl : k = xs.length := by omega
      have HR := Lib.hid (show rulesB xs = decide ((xs.length : Int) ≤ 8) by unfold rulesB; rw [hq.out]; rfl)
      go_wp2
      all_goals (go_ret; exact ⟨ret_bool HR.out.symm, HB.out⟩)
end Go.Proofs.Ytifahgdalgjgfaa
