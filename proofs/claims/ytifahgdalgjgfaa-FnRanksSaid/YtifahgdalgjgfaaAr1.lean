/- A rule added to a list, in the reference. Conditions: the ranges named. -/
import Derived.Test.YtifahgdalgjgfaaRu3
import Derived.Test.YtifahgdalgjgfaaDr0
import Derived.Test.YtifahgdalgjgfaaAq
import Derived.Deep.DrawnRows
import Derived.Deep.Cut
import Derived.Deep.CutBlock
import Derived.Deep.CutRange
import Derived.Deep.DeepCutAuto
namespace Go.Proofs.Ytifahgdalgjgfaa
open Go.RowKit
set_option linter.unusedVariables false
set_option linter.unusedSimpArgs false
attribute [local go_sem ↓] Go.wp_at_zero Go.wp_at_succ
/-- How many rules at the head have smaller ids. -/
def cntR (i : Int) : List Rul → Nat
  | [] => 0
  | y :: l => if y.id < i then cntR i l + 1 else 0
theorem cntR_le (i : Int) : ∀ l : List Rul, cntR i l ≤ l.length
  | [] => Nat.le_refl _
  | y :: l => by
    rw [cntR]
    split
    · have := cntR_le i l; simp; omega
    · exact Nat.zero_le _
theorem cntR_yes {i : Int} {l : List Rul} {k : Nat} (h : k < l.length) (hl : l[k].id < i) : k + cntR i (l.drop k) = (k + 1) + cntR i (l.drop (k + 1)) := by
  rw [List.drop_eq_getElem_cons h, cntR, if_pos hl]; omega
theorem cntR_no {i : Int} {l : List Rul} {k : Nat} (h : k < l.length) (hl : ¬ l[k].id < i) : k + cntR i (l.drop k) = k := by
  rw [List.drop_eq_getElem_cons h, cntR, if_neg hl]; omega
theorem cntR_end {i : Int} {l : List Rul} : l.length + cntR i (l.drop l.length) = l.length := by simp [cntR]
def insR (x : Rul) (xs : List Rul) : List Rul := xs.take (cntR x.id xs) ++ x :: xs.drop (cntR x.id xs)
def adB (xs : List Rul) (x : Rul) : Bool := rulesB xs && rulesB (insR x xs)
def adL (xs : List Rul) (x : Rul) : List Rul := if adB xs x then insR x xs else []
theorem ad_no {xs : List Rul} {x : Rul} (h : adB xs x = false) : adL xs x = [] ∧ adB xs x = false := ⟨by unfold adL; rw [h]; rfl, h⟩
theorem insR_len (x : Rul) (xs : List Rul) : (insR x xs).length = xs.length + 1 := by
  have := cntR_le x.id xs
  unfold insR; simp; omega
theorem insR_mem {x y : Rul} {xs : List Rul} (h : y ∈ insR x xs) : y = x ∨ y ∈ xs := by
  unfold insR at h
  rcases List.mem_append.1 h with h | h
  · exact .inr (List.mem_of_mem_take h)
  · rcases List.mem_cons.1 h with h | h
    · exact .inl h
    · exact .inr (List.mem_of_mem_drop h)
theorem infoRul : (Try.prog.info? 52).map (fun i => (i.zero, i.size, i.bytes)) = some (some (.agg #[.int .i64 0, .string ByteArray.empty, .int .i64 0, .bool false, .bool false, .bool false, .int .i64 0]), 7, 48) := by kernel_rfl
theorem elRul : ElT Try.prog 24 52 7 48 := ElT.mk' Try.underlying24 infoRul rfl (by omega) (by omega)
theorem rul_one {xs : List Rul} : ∀ u ∈ RuleK.row xs, u.oneCell' = true := fun u hu => by
  obtain ⟨x, _, h⟩ := List.mem_flatMap.1 hu
  simp only [RuleK, List.mem_cons, List.not_mem_nil, or_false] at h
  rcases h with rfl | rfl | rfl | rfl | rfl | rfl | rfl <;> rfl
theorem takeK {α : Type} (K : Kd α) {w : World} {A : Option Addr} {xs : List α} {n : Nat} (h : Cells w A (K.row xs)) : Cells w A (K.row (xs.take n)) := fun i u hu => by
  refine h i u ?_
  rw [Kd.row_take, List.getElem?_take] at hu
  split at hu
  · exact hu
  · cases hu
theorem dropK {α : Type} (K : Kd α) {w : World} {A Q : Option Addr} {xs : List α} {n : Nat} (h : Cells w A (K.row xs)) (hQ : n < xs.length → Q = A.map (·.add (n * K.sz))) : Cells w Q (K.row (xs.drop n)) := fun i u hu => by
  have hi : n < xs.length := by
    rcases Nat.lt_or_ge n xs.length with h1 | h1
    · exact h1
    · rw [List.drop_eq_nil_of_le h1] at hu; simp [Kd.row] at hu
  rw [Kd.row_drop, List.getElem?_drop] at hu
  obtain ⟨ad, hO, hc⟩ := h _ u hu
  subst hO
  exact ⟨ad.add (n * K.sz), hQ hi, by rw [add_add']; exact hc⟩
set_option maxHeartbeats 8000000 in
set_option maxRecDepth 100000 in
theorem sAddRule_any (A : Option Addr) (c : Nat) (xs : List Rul) (x : Rul) (w : World) (ha : Cells w A (RuleK.row xs)) (hm : xs.length ≤ 1000000) (hcc : xs.length ≤ c) (hf : ∀ y ∈ xs, RuleK.fit y) (hfx : RuleK.fit x) :
    Calls Try.prog 40 #[.slice A xs.length c, .agg #[.int .i64 x.id, .string x.nm, .int .i64 x.rk, .bool x.sc, .bool x.db, .bool x.am, .int .i64 x.nd]] w (ToLB RuleK 52 w (adL xs x) (adB xs x)) := by
  have HA := Lib.hid ha
  have HF := Lib.hid hf
  have HFX := Lib.hid hfx
  clear ha hf hfx
  have N0 := Lib.hid (BT.new w #[.int .i64 x.id, .string x.nm, .int .i64 x.rk, .bool x.sc, .bool x.db, .bool x.am, .int .i64 x.nd] 52 w.heap.size rfl)
  have HB := Lib.hid (below1 w (.cells #[.int .i64 x.id, .string x.nm, .int .i64 x.rk, .bool x.sc, .bool x.db, .bool x.am, .int .i64 x.nd] 52))
  have hs : w.heap.size < (w.alloc (.cells #[.int .i64 x.id, .string x.nm, .int .i64 x.rk, .bool x.sc, .bool x.db, .bool x.am, .int .i64 x.nd] 52)).heap.size := by simp
  go_enter Try.func40, Try.ntmps40
  go_upto_region 1 with fail
  generalize (w.alloc (.cells #[.int .i64 x.id, .string x.nm, .int .i64 x.rk, .bool x.sc, .bool x.db, .bool x.am, .int .i64 x.nd] 52)) = W at *
  go_wp2_with fail
  refine (l2Good_any A c xs W (HA.out.below HB.out) (by omega) hcc HF.out).mono ?_
  rintro e w1 ⟨rfl, hb⟩
  replace N0 := Lib.hid (N0.out.call hb)
  replace HB := Lib.hid (HB.out.trans (hb.mono HB.out.size))
  replace hs := Nat.lt_of_lt_of_le hs hb.size
  clear hb
  rcases Bool.eq_false_or_eq_true (rulesB xs) with hv | hv
  · rw [hv]
    have HV := Lib.hid hv
    clear hv
    go_upto_block 0 with fail
    go_cut [6] (fun i wx => i = .int .i64 ((cntR x.id xs : Nat) : Int) ∧ ∃ m, wx = w1.drewN m)
    case first =>
      have b0 := N0.out.box.1 0 _ rfl
      go_wp2_with fail
      go_loopw [6] (fun i wr => ∃ k : Nat, k ≤ xs.length ∧ i = .int .i64 k ∧ Hid (cntR x.id xs = k + cntR x.id (xs.drop k)) ∧ ∃ m, wr = w1.drewN m) (fun i _ => xs.length - (intOf i).toNat)
      case atStart => exact ⟨0, Nat.zero_le _, rfl, Lib.hid (by rw [List.drop_zero, Nat.zero_add]), 0, rfl⟩
      case round =>
        obtain ⟨k, hk, rfl, hq, m, rfl⟩ := hrel
        by_cases hlt : k < xs.length
        · obtain ⟨a, ha2, hc0, _, _, _, _, _, _⟩ := rule_at (HA.out.below HB.out) hlt
          subst ha2
          have i1 : (k : Int) < (xs.length : Int) := by omega
          have HY := Lib.hid (cntR_yes (i := x.id) hlt)
          have HN := Lib.hid (cntR_no (i := x.id) hlt)
          obtain ⟨y, hy⟩ : ∃ y, Hid (xs[k].id = y) := ⟨_, Lib.hid rfl⟩
          rw [hy.out] at hc0 HY HN
          clear hy
          by_cases hl : y < x.id
          · have HA2 := Lib.hid (hq.out.trans (HY.out hl))
            have hd : decide (y < x.id) = true := decide_eq_true hl
            clear hq HY HN
            go_wp2
            go_quiet (fail)
            go_wp2
            go_roundw
            case rel => exact ⟨k + 1, by omega, by go_num, HA2, by first | exact ⟨_, rfl⟩ | exact ⟨_, World.drewN_drewN _ _ _⟩⟩
            case measure => simp [intOf]; omega
          · have HA2 := Lib.hid (hq.out.trans (HN.out hl))
            have hd : decide (y < x.id) = false := decide_eq_false hl
            clear hq HY HN
            go_wp2
            go_quiet (fail)
            go_wp2_with fail
            go_meet
            exact ⟨by rw [HA2.out], by first | exact ⟨_, rfl⟩ | exact ⟨_, World.drewN_drewN _ _ _⟩⟩
        · obtain rfl : k = xs.length := by omega
          have HA2 := Lib.hid (hq.out.trans cntR_end)
          clear hq
          go_wp2
          go_quiet (fail)
          go_wp2_with fail
          go_meet
          exact ⟨by rw [HA2.out], by first | exact ⟨_, rfl⟩ | exact ⟨_, World.drewN_drewN _ _ _⟩⟩
    case rest =>
      obtain ⟨rfl, m, hwc⟩ := hcut
      have hwd : Below w1.heap.size w1 wc := by rw [hwc]; exact below_drewN (Below.refl _ _) m
      clear hwc
      obtain ⟨ws, hws⟩ : ∃ ws, ws = wc := ⟨_, rfl⟩
      subst hws
      replace N0 := Lib.hid (N0.out.call hwd)
      replace HB := Lib.hid (HB.out.trans (hwd.mono HB.out.size))
      replace hs := Nat.lt_of_lt_of_le hs hwd.size
      clear hwd
      have hKl := cntR_le x.id xs
      obtain ⟨ct, hK⟩ : ∃ ct, Hid (cntR x.id xs = ct) := ⟨_, Lib.hid rfl⟩
      rw [hK.out] at hKl ⊢
      have HINS := Lib.hid (show insR x xs = xs.take ct ++ x :: xs.drop ct by unfold insR; rw [hK.out])
      clear hK
      have kd1 : (ct : Int) ≤ (c : Int) := by omega
      have kd2 : (ct : Int) ≤ (xs.length : Int) := by omega
      have kd3 : ct ≤ c := by omega
      have kd4 : (xs.length : Int) ≤ (c : Int) := by omega
      obtain ⟨Q, e2⟩ : ∃ Q, (if c = ct then A else A.map (·.add (ct * 7))) = Q := ⟨_, rfl⟩
      have HQ := Lib.hid (show ct < xs.length → Q = A.map (·.add (ct * RuleK.sz)) from fun h => by rw [← e2, if_neg (by omega)]; rfl)
      have KS2 : ∀ {w' : World}, Below ws.heap.size ws w' → (Below ws.heap.size ws w' ∧ (∀ o, w'.cell? ⟨w.heap.size, o, none⟩ = ws.cell? ⟨w.heap.size, o, none⟩)) := fun h => ⟨h, fun o => h.cell (p := ⟨w.heap.size, o, none⟩) hs⟩
      have x0 := N0.out.box.1 0 _ rfl
      have x1 := N0.out.box.1 1 _ rfl
      have x2 := N0.out.box.1 2 _ rfl
      have x3 := N0.out.box.1 3 _ rfl
      have x4 := N0.out.box.1 4 _ rfl
      have x5 := N0.out.box.1 5 _ rfl
      have x6 := N0.out.box.1 6 _ rfl
      go_upto_region 6 with fail
      refine wp_region_noPanic ?_
      refine wp_region_held_drew (S := (fun w' => Below ws.heap.size ws w' ∧ (∀ o, w'.cell? ⟨w.heap.size, o, none⟩ = ws.cell? ⟨w.heap.size, o, none⟩))) (by kernel_rfl) ?_ (fun hHeld => ?_)
      · ((try dsimp only); exact KS2 (Below.refl _ _).drew)
      have HX := Lib.hid (show Below ws.heap.size ws ws.drew from (Below.refl _ _).drew)
      generalize ws.drew = ud at *
      refine take_yes (i := 1) (d := 29) (v := ?_) rfl rfl (by kernel_rfl) (by kernel_rfl) (by kernel_rfl) (fun _ _ _ h => h) (by kernel_rfl) ?_ hHeld ?_
      rotate_left
      · (intro w hSw; (try dsimp only at hSw); go_simp; try (with_reducible rfl))
      try simp only [Act.put, List.setIfInBounds_toArray, List.set_cons_zero, List.set_cons_succ]
      refine take_yes (i := 2) (d := 30) (v := ?_) rfl rfl (by kernel_rfl) (by kernel_rfl) (by kernel_rfl) (fun _ _ _ h => h) (by kernel_rfl) ?_ hHeld ?_
      rotate_left
      · (intro w hSw; (try dsimp only at hSw); go_simp; try (with_reducible rfl))
      try simp only [Act.put, List.setIfInBounds_toArray, List.set_cons_zero, List.set_cons_succ]
      refine take_yes (i := 3) (d := 31) (v := ?_) rfl rfl (by kernel_rfl) (by kernel_rfl) (by kernel_rfl) (fun _ _ _ h => h) (by kernel_rfl) ?_ hHeld ?_
      rotate_left
      · (intro w hSw; (try dsimp only at hSw); go_simp; try (with_reducible rfl))
      try simp only [Act.put, List.setIfInBounds_toArray, List.set_cons_zero, List.set_cons_succ]
      refine take_yes (i := 5) (d := 33) (v := ?_) rfl rfl (by kernel_rfl) (by kernel_rfl) (by kernel_rfl) (fun _ _ _ h => h) (by kernel_rfl) ?_ hHeld ?_
      rotate_left
      · (intro w hSw; (try dsimp only at hSw); go_simp; try (with_reducible rfl))
      try simp only [Act.put, List.setIfInBounds_toArray, List.set_cons_zero, List.set_cons_succ]
      refine take_yes (i := 8) (d := 36) (v := ?_) rfl rfl (by kernel_rfl) (by kernel_rfl) (by kernel_rfl) (fun _ _ _ h => h) (by kernel_rfl) ?_ hHeld ?_
      rotate_left
      · (intro w hSw; (try dsimp only at hSw); go_simp; try (with_reducible rfl))
      try simp only [Act.put, List.setIfInBounds_toArray, List.set_cons_zero, List.set_cons_succ]
      refine take_yes (i := 9) (d := 37) (v := ?_) rfl rfl (by kernel_rfl) (by kernel_rfl) (by kernel_rfl) (fun _ _ _ h => h) (by kernel_rfl) ?_ hHeld ?_
      rotate_left
      · (intro w hSw; (try dsimp only at hSw); go_simp; try (with_reducible rfl))
      try simp only [Act.put, List.setIfInBounds_toArray, List.set_cons_zero, List.set_cons_succ]
      refine take_yes (i := 10) (d := 38) (v := ?_) rfl rfl (by kernel_rfl) (by kernel_rfl) (by kernel_rfl) (fun _ _ _ h => h) (by kernel_rfl) ?_ hHeld ?_
      rotate_left
      · (intro w hSw; (try dsimp only at hSw); go_simp; try (with_reducible rfl))
      try simp only [Act.put, List.setIfInBounds_toArray, List.set_cons_zero, List.set_cons_succ]
      refine wpAnyH_ready (rs := [0, 6]) (by kernel_rfl) (by simp) ?_
      refine AllReadyH.cons rfl (fun K hK => ?_) (AllReadyH.cons rfl (fun K hK => ?_) (AllReadyH.nil))
      · try go_simp
        (first | refine hK.out _ _ ?_ (fun hHeld1 => ?_) | (go_wp2_with fail; refine hK.out _ _ ?_ (fun hHeld1 => ?_)))
        · ((try dsimp only); exact KS2 (HX.out.trans ((below1 ud _).mono HX.out.size)))
        clear hK K hHeld
        have hHeld := hHeld1
        clear hHeld1
        try simp only [Act.put, List.setIfInBounds_toArray, List.set_cons_zero, List.set_cons_succ]
        have hsz := HX.out.size
        have hb := below1 ud (.cells #[] 52)
        have HZ := Lib.hid (own_nil_lit ud ws.heap.size ud.heap.size 52 7 rfl hsz)
        replace hb := hb.mono hsz
        replace HX := Lib.hid (HX.out.trans hb)
        clear hb hsz
        generalize (ud.alloc (.cells #[] 52)) = y1 at *
        generalize ud.heap.size = gz at *
        refine wpAnyH_ready (rs := [4, 6]) (by kernel_rfl) (by simp) ?_
        refine AllReadyH.cons rfl (fun K hK => ?_) (AllReadyH.cons rfl (fun K hK => ?_) (AllReadyH.nil))
        · have hsz := HX.out.size
          refine step_append_lit elRul _ (by rfl) _ _ (by rfl) ws.heap.size gz A ct c (RuleK.row (xs.take ct)) (by rfl) (by rfl) (by rw [Kd.row_len, List.length_take, Nat.min_eq_left (by omega)]; rfl) HZ.out (takeK RuleK (HA.out.below (HB.out.trans (HX.out.mono HB.out.size)))) rul_one hsz (by omega) ?_
          intro O1 d1 y2 own1 hb hq1
          have HO1 := Lib.hid own1
          have HF1 := Lib.hid hb
          have HBN := Lib.hid (HX.out.trans (hb.mono hsz))
          clear own1 hb hq1
          (first | refine hK.out _ _ ?_ (fun hHeld1 => ?_) | (go_wp2_with fail; refine hK.out _ _ ?_ (fun hHeld1 => ?_)))
          · ((try dsimp only); exact KS2 HBN.out)
          clear hK K hHeld
          have hHeld := hHeld1
          clear hHeld1
          try simp only [Act.put, List.setIfInBounds_toArray, List.set_cons_zero, List.set_cons_succ]
          replace HX := Lib.hid (HX.out.trans (HF1.out.mono hsz))
          clear hsz HF1
          refine wpAnyH_ready (rs := [6]) (by kernel_rfl) (by simp) ?_
          refine AllReadyH.cons rfl (fun K hK => ?_) (AllReadyH.nil)
          try go_simp
          (first | refine hK.out _ _ ?_ (fun hHeld1 => ?_) | (go_wp2_with fail; refine hK.out _ _ ?_ (fun hHeld1 => ?_)))
          · ((try dsimp only); exact KS2 (HX.out.trans ((below1 y2 _).mono HX.out.size)))
          clear hK K hHeld
          have hHeld := hHeld1
          clear hHeld1
          try simp only [Act.put, List.setIfInBounds_toArray, List.set_cons_zero, List.set_cons_succ]
          have hsz := HX.out.size
          have hb := below1 y2 (.cells #[.int .i64 x.id, .string x.nm, .int .i64 x.rk, .bool x.sc, .bool x.db, .bool x.am, .int .i64 x.nd] 52)
          replace HO1 := Lib.hid (own_keep HO1.out hb)
          have HXC := Lib.hid (show Cells _ _ (RuleK.row [x]) from cells_arr y2 #[.int .i64 x.id, .string x.nm, .int .i64 x.rk, .bool x.sc, .bool x.db, .bool x.am, .int .i64 x.nd] 52 y2.heap.size rfl)
          replace hb := hb.mono hsz
          replace HX := Lib.hid (HX.out.trans hb)
          clear hb hsz
          generalize (y2.alloc (.cells #[.int .i64 x.id, .string x.nm, .int .i64 x.rk, .bool x.sc, .bool x.db, .bool x.am, .int .i64 x.nd] 52)) = y3 at *
          generalize y2.heap.size = gx at *
          refine wpAnyH_ready (rs := [7]) (by kernel_rfl) (by simp) ?_
          refine AllReadyH.cons rfl (fun K hK => ?_) (AllReadyH.nil)
          have hsz := HX.out.size
          refine step_append elRul _ (by rfl) _ _ (by rfl) ws.heap.size O1 (some ⟨gx, 0, none⟩) d1 ct 1 1 (RuleK.row (xs.take ct)) (RuleK.row [x]) (by rfl) (by rfl) rfl HO1.out HXC.out rul_one hsz (by omega) ?_
          intro O2 d2 y4 own1 hb
          have HO2 := Lib.hid own1
          have HF1 := Lib.hid hb
          have HBN := Lib.hid (HX.out.trans hb)
          clear own1 hb
          (first | refine hK.out _ _ ?_ (fun hHeld1 => ?_) | (go_wp2_with fail; refine hK.out _ _ ?_ (fun hHeld1 => ?_)))
          · ((try dsimp only); exact KS2 HBN.out)
          clear hK K hHeld
          have hHeld := hHeld1
          clear hHeld1
          try simp only [Act.put, List.setIfInBounds_toArray, List.set_cons_zero, List.set_cons_succ]
          replace HX := Lib.hid (HX.out.trans HF1.out)
          clear hsz HF1
          refine wpAnyH_ready (rs := [11]) (by kernel_rfl) (by simp) ?_
          refine AllReadyH.cons rfl (fun K hK => ?_) (AllReadyH.nil)
          have hsz := HX.out.size
          refine step_append elRul _ (by rfl) _ _ (by rfl) ws.heap.size O2 Q d2 (ct + 1) (xs.length - ct) (c - ct) (RuleK.row (xs.take ct) ++ RuleK.row [x]) (RuleK.row (xs.drop ct)) (by rfl) (by rfl) (by rw [Kd.row_len, List.length_drop]; rfl) HO2.out (dropK RuleK (HA.out.below (HB.out.trans (HX.out.mono HB.out.size))) HQ.out) rul_one hsz (by omega) ?_
          intro O3 d3 y5 own1 hb
          have HO3 := Lib.hid own1
          have HF1 := Lib.hid hb
          have HBN := Lib.hid (HX.out.trans hb)
          clear own1 hb
          (first | refine hK.out _ _ ?_ (fun hHeld1 => ?_) | (go_wp2_with fail; refine hK.out _ _ ?_ (fun hHeld1 => ?_)))
          · ((try dsimp only); exact KS2 HBN.out)
          clear hK K hHeld
          have hHeld := hHeld1
          clear hHeld1
          try simp only [Act.put, List.setIfInBounds_toArray, List.set_cons_zero, List.set_cons_succ]
          replace HX := Lib.hid (HX.out.trans HF1.out)
          clear hsz HF1
          refine take_yes (i := 12) (d := 7) (v := ?_) rfl rfl (by kernel_rfl) (by kernel_rfl) (by kernel_rfl) (fun _ _ _ h => h) (by kernel_rfl) ?_ hHeld ?_
          rotate_left
          · (intro w hSw; (try dsimp only at hSw); go_simp; try (with_reducible rfl))
          try simp only [Act.put, List.setIfInBounds_toArray, List.set_cons_zero, List.set_cons_succ]
          refine wpAnyH_done (by kernel_rfl) ?_ _
          refine NoPanic.normal ?_
          clear hHeld x0 x1 x2 x3 x4 x5 x6 e2 kd1 kd2 kd3 kd4
          have hn3 : ct + 1 + (xs.length - ct) = (insR x xs).length := by rw [insR_len]; omega
          have HR3 := Lib.hid (show RuleK.row (xs.take ct) ++ RuleK.row [x] ++ RuleK.row (xs.drop ct) = RuleK.row (insR x xs) by rw [HINS.out, Kd.row_append, show x :: xs.drop ct = [x] ++ xs.drop ct from rfl, Kd.row_append, List.append_assoc])
          rw [HR3.out, hn3] at HO3
          rw [hn3]
          clear hn3
          have HIL := Lib.hid (insR_len x xs)
          have HFI : Hid (∀ y ∈ insR x xs, RuleK.fit y) := Lib.hid (fun y hy => by rcases insR_mem hy with h | h; rw [h]; exact HFX.out; exact HF.out y h)
          have hBs := HB.out.size
          replace HO3 := Lib.hid (own_mono HO3.out hBs)
          replace HB := Lib.hid (HB.out.trans (HX.out.mono hBs))
          clear HX HBN HINS HQ
          go_wp2_with fail
          refine (l2Good_any O3 d3 (insR x xs) y5 (Cells.of_own HO3.out) (by have := HIL.out; omega) (own_cap HO3.out) HFI.out).mono ?_
          rintro e wz ⟨rfl, hb⟩
          replace HO3 := Lib.hid (own_keep HO3.out hb)
          replace HB := Lib.hid (HB.out.trans (hb.mono HB.out.size))
          clear hb
          rcases Bool.eq_false_or_eq_true (rulesB (insR x xs)) with hi | hi
          · rw [hi]
            have hadb : adB xs x = true := by unfold adB; rw [HV.out, hi]; rfl
            have HAD := Lib.hid hadb
            have HAL := Lib.hid (show adL xs x = insR x xs by unfold adL; rw [hadb]; rfl)
            clear hi hadb
            go_wp2_with (go_ret2; exact ToLB.own_ (ys := insR x xs) HO3.out HAL.out rfl (by (have := HIL.out); omega) HFI.out HAD.out HB.out)
          · rw [hi]
            have HNO := Lib.hid (ad_no (show adB xs x = false by unfold adB; rw [hi]; simp))
            clear hi
            go_wp2_with (go_ret2; exact ToLB.own_ (ys := []) (own_nil_lit _ _ _ _ _ (by simp) HB.out.size) HNO.out.1 rfl (by simp) (by simp) HNO.out.2 (HB.out.trans (((Below.refl _ _).alloc (Nat.le_refl _) _).mono HB.out.size)))
        · try go_simp
          (first | refine hK.out _ _ ?_ (fun hHeld1 => ?_) | (go_wp2_with fail; refine hK.out _ _ ?_ (fun hHeld1 => ?_)))
          · ((try dsimp only); exact KS2 (HX.out.trans ((below1 y1 _).mono HX.out.size)))
          clear hK K hHeld
          have hHeld := hHeld1
          clear hHeld1
          try simp only [Act.put, List.setIfInBounds_toArray, List.set_cons_zero, List.set_cons_succ]
          have hsz := HX.out.size
          have hb := below1 y1 (.cells #[.int .i64 x.id, .string x.nm, .int .i64 x.rk, .bool x.sc, .bool x.db, .bool x.am, .int .i64 x.nd] 52)
          replace HZ := Lib.hid (own_keep HZ.out hb)
          have HXC := Lib.hid (show Cells _ _ (RuleK.row [x]) from cells_arr y1 #[.int .i64 x.id, .string x.nm, .int .i64 x.rk, .bool x.sc, .bool x.db, .bool x.am, .int .i64 x.nd] 52 y1.heap.size rfl)
          replace hb := hb.mono hsz
          replace HX := Lib.hid (HX.out.trans hb)
          clear hb hsz
          generalize (y1.alloc (.cells #[.int .i64 x.id, .string x.nm, .int .i64 x.rk, .bool x.sc, .bool x.db, .bool x.am, .int .i64 x.nd] 52)) = y2 at *
          generalize y1.heap.size = gx at *
          refine wpAnyH_ready (rs := [4]) (by kernel_rfl) (by simp) ?_
          refine AllReadyH.cons rfl (fun K hK => ?_) (AllReadyH.nil)
          have hsz := HX.out.size
          refine step_append_lit elRul _ (by rfl) _ _ (by rfl) ws.heap.size gz A ct c (RuleK.row (xs.take ct)) (by rfl) (by rfl) (by rw [Kd.row_len, List.length_take, Nat.min_eq_left (by omega)]; rfl) HZ.out (takeK RuleK (HA.out.below (HB.out.trans (HX.out.mono HB.out.size)))) rul_one hsz (by omega) ?_
          intro O1 d1 y3 own1 hb hq1
          have HO1 := Lib.hid own1
          have HF1 := Lib.hid hb
          have HBN := Lib.hid (HX.out.trans (hb.mono hsz))
          clear own1 hb hq1
          (first | refine hK.out _ _ ?_ (fun hHeld1 => ?_) | (go_wp2_with fail; refine hK.out _ _ ?_ (fun hHeld1 => ?_)))
          · ((try dsimp only); exact KS2 HBN.out)
          clear hK K hHeld
          have hHeld := hHeld1
          clear hHeld1
          try simp only [Act.put, List.setIfInBounds_toArray, List.set_cons_zero, List.set_cons_succ]
          replace HXC := Lib.hid (HXC.out.below HF1.out)
          replace HX := Lib.hid (HX.out.trans (HF1.out.mono hsz))
          clear hsz HF1
          refine wpAnyH_ready (rs := [7]) (by kernel_rfl) (by simp) ?_
          refine AllReadyH.cons rfl (fun K hK => ?_) (AllReadyH.nil)
          have hsz := HX.out.size
          refine step_append elRul _ (by rfl) _ _ (by rfl) ws.heap.size O1 (some ⟨gx, 0, none⟩) d1 ct 1 1 (RuleK.row (xs.take ct)) (RuleK.row [x]) (by rfl) (by rfl) rfl HO1.out HXC.out rul_one hsz (by omega) ?_
          intro O2 d2 y4 own1 hb
          have HO2 := Lib.hid own1
          have HF1 := Lib.hid hb
          have HBN := Lib.hid (HX.out.trans hb)
          clear own1 hb
          (first | refine hK.out _ _ ?_ (fun hHeld1 => ?_) | (go_wp2_with fail; refine hK.out _ _ ?_ (fun hHeld1 => ?_)))
          · ((try dsimp only); exact KS2 HBN.out)
          clear hK K hHeld
          have hHeld := hHeld1
          clear hHeld1
          try simp only [Act.put, List.setIfInBounds_toArray, List.set_cons_zero, List.set_cons_succ]
          replace HX := Lib.hid (HX.out.trans HF1.out)
          clear hsz HF1
          refine wpAnyH_ready (rs := [11]) (by kernel_rfl) (by simp) ?_
          refine AllReadyH.cons rfl (fun K hK => ?_) (AllReadyH.nil)
          have hsz := HX.out.size
          refine step_append elRul _ (by rfl) _ _ (by rfl) ws.heap.size O2 Q d2 (ct + 1) (xs.length - ct) (c - ct) (RuleK.row (xs.take ct) ++ RuleK.row [x]) (RuleK.row (xs.drop ct)) (by rfl) (by rfl) (by rw [Kd.row_len, List.length_drop]; rfl) HO2.out (dropK RuleK (HA.out.below (HB.out.trans (HX.out.mono HB.out.size))) HQ.out) rul_one hsz (by omega) ?_
          intro O3 d3 y5 own1 hb
          have HO3 := Lib.hid own1
          have HF1 := Lib.hid hb
          have HBN := Lib.hid (HX.out.trans hb)
          clear own1 hb
          (first | refine hK.out _ _ ?_ (fun hHeld1 => ?_) | (go_wp2_with fail; refine hK.out _ _ ?_ (fun hHeld1 => ?_)))
          · ((try dsimp only); exact KS2 HBN.out)
          clear hK K hHeld
          have hHeld := hHeld1
          clear hHeld1
          try simp only [Act.put, List.setIfInBounds_toArray, List.set_cons_zero, List.set_cons_succ]
          replace HX := Lib.hid (HX.out.trans HF1.out)
          clear hsz HF1
          refine take_yes (i := 12) (d := 7) (v := ?_) rfl rfl (by kernel_rfl) (by kernel_rfl) (by kernel_rfl) (fun _ _ _ h => h) (by kernel_rfl) ?_ hHeld ?_
          rotate_left
          · (intro w hSw; (try dsimp only at hSw); go_simp; try (with_reducible rfl))
          try simp only [Act.put, List.setIfInBounds_toArray, List.set_cons_zero, List.set_cons_succ]
          refine wpAnyH_done (by kernel_rfl) ?_ _
          refine NoPanic.normal ?_
          clear hHeld x0 x1 x2 x3 x4 x5 x6 e2 kd1 kd2 kd3 kd4
          have hn3 : ct + 1 + (xs.length - ct) = (insR x xs).length := by rw [insR_len]; omega
          have HR3 := Lib.hid (show RuleK.row (xs.take ct) ++ RuleK.row [x] ++ RuleK.row (xs.drop ct) = RuleK.row (insR x xs) by rw [HINS.out, Kd.row_append, show x :: xs.drop ct = [x] ++ xs.drop ct from rfl, Kd.row_append, List.append_assoc])
          rw [HR3.out, hn3] at HO3
          rw [hn3]
          clear hn3
          have HIL := Lib.hid (insR_len x xs)
          have HFI : Hid (∀ y ∈ insR x xs, RuleK.fit y) := Lib.hid (fun y hy => by rcases insR_mem hy with h | h; rw [h]; exact HFX.out; exact HF.out y h)
          have hBs := HB.out.size
          replace HO3 := Lib.hid (own_mono HO3.out hBs)
          replace HB := Lib.hid (HB.out.trans (HX.out.mono hBs))
          clear HX HBN HINS HQ
          go_wp2_with fail
          refine (l2Good_any O3 d3 (insR x xs) y5 (Cells.of_own HO3.out) (by have := HIL.out; omega) (own_cap HO3.out) HFI.out).mono ?_
          rintro e wz ⟨rfl, hb⟩
          replace HO3 := Lib.hid (own_keep HO3.out hb)
          replace HB := Lib.hid (HB.out.trans (hb.mono HB.out.size))
          clear hb
          rcases Bool.eq_false_or_eq_true (rulesB (insR x xs)) with hi | hi
          · rw [hi]
            have hadb : adB xs x = true := by unfold adB; rw [HV.out, hi]; rfl
            have HAD := Lib.hid hadb
            have HAL := Lib.hid (show adL xs x = insR x xs by unfold adL; rw [hadb]; rfl)
            clear hi hadb
            go_wp2_with (go_ret2; exact ToLB.own_ (ys := insR x xs) HO3.out HAL.out rfl (by (have := HIL.out); omega) HFI.out HAD.out HB.out)
          · rw [hi]
            have HNO := Lib.hid (ad_no (show adB xs x = false by unfold adB; rw [hi]; simp))
            clear hi
            go_wp2_with (go_ret2; exact ToLB.own_ (ys := []) (own_nil_lit _ _ _ _ _ (by simp) HB.out.size) HNO.out.1 rfl (by simp) (by simp) HNO.out.2 (HB.out.trans (((Below.refl _ _).alloc (Nat.le_refl _) _).mono HB.out.size)))
      · try go_simp
        (first | refine hK.out _ _ ?_ (fun hHeld1 => ?_) | (go_wp2_with fail; refine hK.out _ _ ?_ (fun hHeld1 => ?_)))
        · ((try dsimp only); exact KS2 (HX.out.trans ((below1 ud _).mono HX.out.size)))
        clear hK K hHeld
        have hHeld := hHeld1
        clear hHeld1
        try simp only [Act.put, List.setIfInBounds_toArray, List.set_cons_zero, List.set_cons_succ]
        have hsz := HX.out.size
        have hb := below1 ud (.cells #[.int .i64 x.id, .string x.nm, .int .i64 x.rk, .bool x.sc, .bool x.db, .bool x.am, .int .i64 x.nd] 52)
        have HXC := Lib.hid (show Cells _ _ (RuleK.row [x]) from cells_arr ud #[.int .i64 x.id, .string x.nm, .int .i64 x.rk, .bool x.sc, .bool x.db, .bool x.am, .int .i64 x.nd] 52 ud.heap.size rfl)
        replace hb := hb.mono hsz
        replace HX := Lib.hid (HX.out.trans hb)
        clear hb hsz
        generalize (ud.alloc (.cells #[.int .i64 x.id, .string x.nm, .int .i64 x.rk, .bool x.sc, .bool x.db, .bool x.am, .int .i64 x.nd] 52)) = y1 at *
        generalize ud.heap.size = gx at *
        refine wpAnyH_ready (rs := [0]) (by kernel_rfl) (by simp) ?_
        refine AllReadyH.cons rfl (fun K hK => ?_) (AllReadyH.nil)
        try go_simp
        (first | refine hK.out _ _ ?_ (fun hHeld1 => ?_) | (go_wp2_with fail; refine hK.out _ _ ?_ (fun hHeld1 => ?_)))
        · ((try dsimp only); exact KS2 (HX.out.trans ((below1 y1 _).mono HX.out.size)))
        clear hK K hHeld
        have hHeld := hHeld1
        clear hHeld1
        try simp only [Act.put, List.setIfInBounds_toArray, List.set_cons_zero, List.set_cons_succ]
        have hsz := HX.out.size
        have hb := below1 y1 (.cells #[] 52)
        replace HXC := Lib.hid (HXC.out.below hb)
        have HZ := Lib.hid (own_nil_lit y1 ws.heap.size y1.heap.size 52 7 rfl hsz)
        replace hb := hb.mono hsz
        replace HX := Lib.hid (HX.out.trans hb)
        clear hb hsz
        generalize (y1.alloc (.cells #[] 52)) = y2 at *
        generalize y1.heap.size = gz at *
        refine wpAnyH_ready (rs := [4]) (by kernel_rfl) (by simp) ?_
        refine AllReadyH.cons rfl (fun K hK => ?_) (AllReadyH.nil)
        have hsz := HX.out.size
        refine step_append_lit elRul _ (by rfl) _ _ (by rfl) ws.heap.size gz A ct c (RuleK.row (xs.take ct)) (by rfl) (by rfl) (by rw [Kd.row_len, List.length_take, Nat.min_eq_left (by omega)]; rfl) HZ.out (takeK RuleK (HA.out.below (HB.out.trans (HX.out.mono HB.out.size)))) rul_one hsz (by omega) ?_
        intro O1 d1 y3 own1 hb hq1
        have HO1 := Lib.hid own1
        have HF1 := Lib.hid hb
        have HBN := Lib.hid (HX.out.trans (hb.mono hsz))
        clear own1 hb hq1
        (first | refine hK.out _ _ ?_ (fun hHeld1 => ?_) | (go_wp2_with fail; refine hK.out _ _ ?_ (fun hHeld1 => ?_)))
        · ((try dsimp only); exact KS2 HBN.out)
        clear hK K hHeld
        have hHeld := hHeld1
        clear hHeld1
        try simp only [Act.put, List.setIfInBounds_toArray, List.set_cons_zero, List.set_cons_succ]
        replace HXC := Lib.hid (HXC.out.below HF1.out)
        replace HX := Lib.hid (HX.out.trans (HF1.out.mono hsz))
        clear hsz HF1
        refine wpAnyH_ready (rs := [7]) (by kernel_rfl) (by simp) ?_
        refine AllReadyH.cons rfl (fun K hK => ?_) (AllReadyH.nil)
        have hsz := HX.out.size
        refine step_append elRul _ (by rfl) _ _ (by rfl) ws.heap.size O1 (some ⟨gx, 0, none⟩) d1 ct 1 1 (RuleK.row (xs.take ct)) (RuleK.row [x]) (by rfl) (by rfl) rfl HO1.out HXC.out rul_one hsz (by omega) ?_
        intro O2 d2 y4 own1 hb
        have HO2 := Lib.hid own1
        have HF1 := Lib.hid hb
        have HBN := Lib.hid (HX.out.trans hb)
        clear own1 hb
        (first | refine hK.out _ _ ?_ (fun hHeld1 => ?_) | (go_wp2_with fail; refine hK.out _ _ ?_ (fun hHeld1 => ?_)))
        · ((try dsimp only); exact KS2 HBN.out)
        clear hK K hHeld
        have hHeld := hHeld1
        clear hHeld1
        try simp only [Act.put, List.setIfInBounds_toArray, List.set_cons_zero, List.set_cons_succ]
        replace HX := Lib.hid (HX.out.trans HF1.out)
        clear hsz HF1
        refine wpAnyH_ready (rs := [11]) (by kernel_rfl) (by simp) ?_
        refine AllReadyH.cons rfl (fun K hK => ?_) (AllReadyH.nil)
        have hsz := HX.out.size
        refine step_append elRul _ (by rfl) _ _ (by rfl) ws.heap.size O2 Q d2 (ct + 1) (xs.length - ct) (c - ct) (RuleK.row (xs.take ct) ++ RuleK.row [x]) (RuleK.row (xs.drop ct)) (by rfl) (by rfl) (by rw [Kd.row_len, List.length_drop]; rfl) HO2.out (dropK RuleK (HA.out.below (HB.out.trans (HX.out.mono HB.out.size))) HQ.out) rul_one hsz (by omega) ?_
        intro O3 d3 y5 own1 hb
        have HO3 := Lib.hid own1
        have HF1 := Lib.hid hb
        have HBN := Lib.hid (HX.out.trans hb)
        clear own1 hb
        (first | refine hK.out _ _ ?_ (fun hHeld1 => ?_) | (go_wp2_with fail; refine hK.out _ _ ?_ (fun hHeld1 => ?_)))
        · ((try dsimp only); exact KS2 HBN.out)
        clear hK K hHeld
        have hHeld := hHeld1
        clear hHeld1
        try simp only [Act.put, List.setIfInBounds_toArray, List.set_cons_zero, List.set_cons_succ]
        replace HX := Lib.hid (HX.out.trans HF1.out)
        clear hsz HF1
        refine take_yes (i := 12) (d := 7) (v := ?_) rfl rfl (by kernel_rfl) (by kernel_rfl) (by kernel_rfl) (fun _ _ _ h => h) (by kernel_rfl) ?_ hHeld ?_
        rotate_left
        · (intro w hSw; (try dsimp only at hSw); go_simp; try (with_reducible rfl))
        try simp only [Act.put, List.setIfInBounds_toArray, List.set_cons_zero, List.set_cons_succ]
        refine wpAnyH_done (by kernel_rfl) ?_ _
        refine NoPanic.normal ?_
        clear hHeld x0 x1 x2 x3 x4 x5 x6 e2 kd1 kd2 kd3 kd4
        have hn3 : ct + 1 + (xs.length - ct) = (insR x xs).length := by rw [insR_len]; omega
        have HR3 := Lib.hid (show RuleK.row (xs.take ct) ++ RuleK.row [x] ++ RuleK.row (xs.drop ct) = RuleK.row (insR x xs) by rw [HINS.out, Kd.row_append, show x :: xs.drop ct = [x] ++ xs.drop ct from rfl, Kd.row_append, List.append_assoc])
        rw [HR3.out, hn3] at HO3
        rw [hn3]
        clear hn3
        have HIL := Lib.hid (insR_len x xs)
        have HFI : Hid (∀ y ∈ insR x xs, RuleK.fit y) := Lib.hid (fun y hy => by rcases insR_mem hy with h | h; rw [h]; exact HFX.out; exact HF.out y h)
        have hBs := HB.out.size
        replace HO3 := Lib.hid (own_mono HO3.out hBs)
        replace HB := Lib.hid (HB.out.trans (HX.out.mono hBs))
        clear HX HBN HINS HQ
        go_wp2_with fail
        refine (l2Good_any O3 d3 (insR x xs) y5 (Cells.of_own HO3.out) (by have := HIL.out; omega) (own_cap HO3.out) HFI.out).mono ?_
        rintro e wz ⟨rfl, hb⟩
        replace HO3 := Lib.hid (own_keep HO3.out hb)
        replace HB := Lib.hid (HB.out.trans (hb.mono HB.out.size))
        clear hb
        rcases Bool.eq_false_or_eq_true (rulesB (insR x xs)) with hi | hi
        · rw [hi]
          have hadb : adB xs x = true := by unfold adB; rw [HV.out, hi]; rfl
          have HAD := Lib.hid hadb
          have HAL := Lib.hid (show adL xs x = insR x xs by unfold adL; rw [hadb]; rfl)
          clear hi hadb
          go_wp2_with (go_ret2; exact ToLB.own_ (ys := insR x xs) HO3.out HAL.out rfl (by (have := HIL.out); omega) HFI.out HAD.out HB.out)
        · rw [hi]
          have HNO := Lib.hid (ad_no (show adB xs x = false by unfold adB; rw [hi]; simp))
          clear hi
          go_wp2_with (go_ret2; exact ToLB.own_ (ys := []) (own_nil_lit _ _ _ _ _ (by simp) HB.out.size) HNO.out.1 rfl (by simp) (by simp) HNO.out.2 (HB.out.trans (((Below.refl _ _).alloc (Nat.le_refl _) _).mono HB.out.size)))
  · rw [hv]
    have HNO := Lib.hid (ad_no (show adB xs x = false by unfold adB; rw [hv]; rfl))
    clear hv
    go_wp2_with (go_ret2; exact ToLB.own_ (ys := []) (own_nil_lit _ _ _ _ _ (by simp) HB.out.size) HNO.out.1 rfl (by simp) (by simp) HNO.out.2 (HB.out.trans (((Below.refl _ _).alloc (Nat.le_refl _) _).mono HB.out.size)))
end Go.Proofs.Ytifahgdalgjgfaa
