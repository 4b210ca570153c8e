/- The draws of a text with an amendment, and of two texts. Conditions: the ranges named. -/
import Derived.Test.YtgchbimjgdoifaaDw3
import Derived.Test.YtgchbimjgdoifaaDk4L
import Derived.Test.YtgchbimjgdoifaaOb3
namespace Go.Proofs.Ytgchbimjgdoifaa
open Go.RowKit
set_option linter.unusedVariables false
set_option linter.unusedSimpArgs false
attribute [local go_sem ↓] Go.wp_at_zero Go.wp_at_succ
theorem Cur.new_ {w : World} {A : Option Addr} {n c : Nat} (h : BytesC w A n) (hn : n ≤ 65536) (T : TypeId) : Cur (w.alloc (.cells #[.slice A n c, .int .i64 0, .int .u64 0] T)) w.heap.size A n c 0 := by
  refine ⟨⟨0, 0, Nat.le_refl _, Int.le_refl _, by omega, BoxF.new' w _ _ _ rfl⟩, by simp, fun a ha hn0 => ?_, h.block fun a _ hl => (below1 w _).block _ hl, hn⟩
  obtain ⟨a', x, hA, _, _, hc⟩ := h 0 hn0
  rw [ha] at hA
  obtain rfl := Option.some.inj hA
  have := World.block_lt_of_cell? _ _ hc
  rw [block_add] at this
  omega
theorem BytesC.below_ {w w' : World} {A : Option Addr} {n : Nat} (h : BytesC w A n) (hb : Below w.heap.size w w') : BytesC w' A n := h.block fun a _ hl => hb.block _ hl
theorem cell_far {w : World} {p : Addr} {q j : Nat} {v : Value} (h : p.block ≠ q) : (w.setCell ⟨q, j, none⟩ v).cell? p = w.cell? p := World.cell?_of_block (Below.heap_setCell w ⟨q, j, none⟩ v p.block (by simp; omega))
theorem Short.app {ss : List ByteArray} {a : Amd} (h : Short ss) (h' : Short a.ws) : Short (appL ss a) := by
  unfold appL
  split
  · intro s hs
    rcases amdL_mem hs with h1 | h1
    · exact h s h1
    · exact h' s h1
  · intro s hs; simp at hs
theorem appL_len {ss : List ByteArray} {a : Amd} : (appL ss a).length ≤ 20 := by
  unfold appL
  split
  · rename_i h
    unfold canB at h
    rw [Bool.and_eq_true, Bool.and_eq_true] at h
    have := fitsB_len h.2 h.1.2
    omega
  · simp
set_option maxRecDepth 100000 in
set_option maxHeartbeats 4000000 in
theorem DrawFitsText_any (A : Option Addr) (n c : Nat) (w : World) (h : BytesC w A n) (hn : n ≤ 65536) :
    Calls Try.prog 76 #[.slice A n c] w fun e w' => ∃ (O N : Option Addr) (d nd : Nat) (ss : List ByteArray) (a : Amd), e = .returned (.tuple #[.slice O ss.length d, .agg #[.int .i64 a.k, .int .i64 a.p, .int .i64 a.n, .slice N a.ws.length nd]]) ∧ OwS w.heap.size w'.heap.size w' O d ss ∧ OwS w.heap.size w'.heap.size w' N nd a.ws ∧ Below w.heap.size w w' := by
  have hb1 := below1 w (.cells #[.int .i64 0, .int .i64 0, .int .i64 0, .slice none 0 0] 40)
  have HR := Lib.hid ((BoxF.new' w #[.int .i64 0, .int .i64 0, .int .i64 0, .slice none 0 0] 40 w.heap.size rfl).below (below1 (w.alloc (.cells #[.int .i64 0, .int .i64 0, .int .i64 0, .slice none 0 0] 40)) (.cells #[.slice A n c, .int .i64 0, .int .u64 0] 94)) (by simp))
  have HC := Lib.hid (Cur.new_ (c := c) (h.below_ hb1) hn 94)
  have HB := Lib.hid (below2 w (.cells #[.int .i64 0, .int .i64 0, .int .i64 0, .slice none 0 0] 40) (.cells #[.slice A n c, .int .i64 0, .int .u64 0] 94))
  have hbe : (w.alloc (.cells #[.int .i64 0, .int .i64 0, .int .i64 0, .slice none 0 0] 40)).heap.size = w.heap.size + 1 := by simp
  have hz : w.heap.size + 1 < ((w.alloc (.cells #[.int .i64 0, .int .i64 0, .int .i64 0, .slice none 0 0] 40)).alloc (.cells #[.slice A n c, .int .i64 0, .int .u64 0] 94)).heap.size := by simp
  rw [hbe] at HC
  clear h hb1 hbe
  go_enter Try.func76, Try.ntmps76
  go_upto_region 2 with fail
  generalize (w.alloc (.cells #[.int .i64 0, .int .i64 0, .int .i64 0, .slice none 0 0] 40)).alloc (.cells #[.slice A n c, .int .i64 0, .int .u64 0] 94) = W0 at *
  go_wp2_with fail
  refine (text_any (w.heap.size + 1) A n c 0 W0 HC.out (by omega)).mono ?_
  rintro e w1 ⟨O, d, ss, rfl, hsl, hss, own, hc, ho⟩
  have HS := Lib.hid hss
  have HO := Lib.hid (own_mono own (show w.heap.size + 2 ≤ W0.heap.size from hz))
  have HR := Lib.hid (HR.out.blk (ho.block _ (by omega) (.inl (Nat.lt_succ_self _))))
  have HC := Lib.hid hc
  have HB := Lib.hid (HB.out.trans (ho.below (Nat.le_of_lt hz) |>.mono (Nat.le_succ _)))
  have hz := Nat.lt_of_lt_of_le hz ho.size
  clear hss own hc ho
  go_wp2_with fail
  refine (amendment_any O d ss.length (w.heap.size + 1) A n c _ w1 HC.out (by omega) (by omega)).mono ?_
  rintro e w2 ⟨N, nd, a, rfl, hal, has, own, hc, ho⟩
  have HSA := Lib.hid has
  have hb := below1 w2 (.cells #[.int .i64 a.k, .int .i64 a.p, .int .i64 a.n, .slice N a.ws.length nd] 40)
  have hwz := ho.size
  have HQ := Lib.hid (BoxF.new' w2 #[.int .i64 a.k, .int .i64 a.p, .int .i64 a.n, .slice N a.ws.length nd] 40 w2.heap.size rfl)
  have HU := Lib.hid (Under.own own)
  have HOA := Lib.hid (own_mono (own_alloc own (.cells #[.int .i64 a.k, .int .i64 a.p, .int .i64 a.n, .slice N a.ws.length nd] 40)) (show w.heap.size + 2 ≤ w1.heap.size from hz))
  have HUO := Lib.hid ((Under.own HO.out).mono hwz)
  have HO := Lib.hid (own_alloc (own_off HO.out ho (Nat.le_refl _)) (.cells #[.int .i64 a.k, .int .i64 a.p, .int .i64 a.n, .slice N a.ws.length nd] 40))
  have HR := Lib.hid ((HR.out.blk (ho.block _ (by omega) (.inl (Nat.lt_succ_self _)))).below hb (by omega))
  have HC := Lib.hid (hc.below hb)
  have HB := Lib.hid ((HB.out.trans (ho.below (Nat.le_of_lt hz) |>.mono (Nat.le_succ _))).trans (hb.mono (by have := HB.out.size; omega)))
  have hqz : w2.heap.size < (w2.alloc (.cells #[.int .i64 a.k, .int .i64 a.p, .int .i64 a.n, .slice N a.ws.length nd] 40)).heap.size := by simp
  have hq1 : w.heap.size + 2 ≤ w2.heap.size := by omega
  have HTB := Lib.hid (fun (ad : Addr) (hO : O = some ad) => (show ad.block ≠ w2.heap.size from fun e => Nat.lt_irrefl _ (e ▸ HUO.out ad hO)))
  clear has own hc ho hb hz
  go_upto_region 4 with fail
  generalize w2.alloc (.cells #[.int .i64 a.k, .int .i64 a.p, .int .i64 a.n, .slice N a.ws.length nd] 40) = W at *
  generalize w2.heap.size = q at *
  go_cut [33] (fun s wx => ∃ B : Bool, s = .bool B ∧ (B = true → 0 ≤ a.p ∧ a.p < (ss.length : Int)) ∧ Hid (wx.ownsRow (w.heap.size + 2) 9 1 (.slice O ss.length d) ss.length (strs ss)) ∧ Hid (wx.ownsRow (w.heap.size + 2) 9 1 (.slice N a.ws.length nd) a.ws.length (strs a.ws)) ∧ Hid (BoxF wx q [.int .i64 a.k, .int .i64 a.p, .int .i64 a.n, .slice N a.ws.length nd]) ∧ Hid (BoxF wx w.heap.size [.int .i64 0, .int .i64 0, .int .i64 0, .slice none 0 0]) ∧ Hid (Below w.heap.size w wx) ∧ q < wx.heap.size)
  case first =>
    have y0 := HQ.out.1 0 _ rfl
    have HV := Lib.hid (l9Text_any O d ss W (Cells.of_own HO.out) (by omega) (HS.out.fit (by omega)).2)
    rcases Bool.eq_false_or_eq_true (wordsB ss 0 20) with hr | hr
    · rcases Bool.eq_false_or_eq_true (a.k == 3) with hk | hk
      · have hON := one_any 6 (by omega) (by omega) (w.heap.size + 1) A n c _ W HC.out (by omega)
        have HON := Lib.hid hON
        clear hON
        have q1 : IntKind.i64.wrap ((ss.length : Int) - 1) = (ss.length : Int) - 1 := by rw [IntKind.wrap_i64]; omega
        go_wp2_with (go_at_call 65; refine HV.out.mono ?_; rintro e w' ⟨rfl, rfl⟩; rw [hr])
        refine HON.out.mono ?_
        rintro e w3 ⟨⟨y, rfl⟩, hc, ho⟩
        have HO := Lib.hid (own_off HO.out ho (Nat.le_refl _))
        have HOA := Lib.hid (own_off HOA.out ho (Nat.le_refl _))
        have HQ := Lib.hid (HQ.out.only_ ho hqz hq1)
        have HR := Lib.hid (HR.out.blk (ho.block _ (by omega) (.inl (Nat.lt_succ_self _))))
        have HB := Lib.hid (HB.out.trans (ho.below (by omega) |>.mono (Nat.le_succ _)))
        have hqz := Nat.lt_of_lt_of_le hqz ho.size
        clear hc ho y0
        have y1 := HQ.out.1 1 _ rfl
        rcases Bool.eq_false_or_eq_true y with hy | hy
        · subst hy
          go_wp2_with (go_at_call 109; refine (l1In_any _ _ _ _).mono ?_; rintro e w' ⟨rfl, rfl⟩)
          go_meet
          exact ⟨_, rfl, fun hh => by have := inB_iff.1 hh; omega, HO, HOA, HQ, HR, HB, hqz⟩
        · subst hy
          go_wp2_with fail
          go_meet
          exact ⟨false, rfl, fun hh => (by cases hh), HO, HOA, HQ, HR, HB, hqz⟩
      · go_wp2_with (go_at_call 65; refine HV.out.mono ?_; rintro e w' ⟨rfl, rfl⟩; rw [hr])
        go_meet
        exact ⟨false, rfl, fun hh => (by cases hh), HO, HOA, HQ, HR, HB, hqz⟩
    · go_wp2_with (go_at_call 65; refine HV.out.mono ?_; rintro e w' ⟨rfl, rfl⟩; rw [hr])
      go_meet
      exact ⟨false, rfl, fun hh => (by cases hh), HO, HOA, HQ, HR, HB, hqz⟩
  case rest =>
    clear HO HOA HQ HR HB HC hqz HU HUO
    obtain ⟨W, rfl⟩ : ∃ W, W = wc := ⟨_, rfl⟩
    obtain ⟨B, rfl, hBB, HO, HOA, HQ, HR, HBW, hqz⟩ := hcut
    go_upto_if 33 with fail
    go_cut [] (fun wx => ∃ (N : Option Addr) (nd : Nat) (a : Amd), Hid (wx.ownsRow (w.heap.size + 2) 9 1 (.slice O ss.length d) ss.length (strs ss)) ∧ Hid (wx.ownsRow (w.heap.size + 2) 9 1 (.slice N a.ws.length nd) a.ws.length (strs a.ws)) ∧ Hid (Fit a.ws) ∧ Hid (BoxF wx q [.int .i64 a.k, .int .i64 a.p, .int .i64 a.n, .slice N a.ws.length nd]) ∧ Hid (BoxF wx w.heap.size [.int .i64 0, .int .i64 0, .int .i64 0, .slice none 0 0]) ∧ Hid (Below w.heap.size w wx) ∧ q < wx.heap.size)
    case first =>
      rcases Bool.eq_false_or_eq_true B with hb | hb
      · obtain ⟨hi0, hi1⟩ := hBB hb
        subst hb
        obtain ⟨i, hi⟩ := Int.eq_ofNat_of_zero_le hi0
        have hil : i < ss.length := by omega
        rw [hi] at HQ
        obtain ⟨tad, rfl, hts⟩ := Cells.of_own HO.out i (.string ss[i]) (strs_get hil)
        obtain ⟨s, hs⟩ : ∃ s, Hid (ss[i] = s) := ⟨_, Lib.hid rfl⟩
        have HSZ := Lib.hid ((HS.out.fit (by omega)).2 _ (List.getElem_mem hil))
        rw [hs.out] at hts HSZ
        have y0 := HQ.out.1 0 _ rfl
        have y1 := HQ.out.1 1 _ rfl
        have y2 := HQ.out.1 2 _ rfl
        have y3 := HQ.out.1 3 _ rfl
        have yf := HQ.out.2
        have hrz : w.heap.size < W.heap.size := by omega
        have htq : tad.block ≠ q := HTB.out tad rfl
        have i1 : (i : Int) < (ss.length : Int) := by omega
        have i2 : (0 : Int) ≤ (i : Int) := by omega
        go_wp2_with fail
        refine wp_region_noPanic ?_
        refine wp_region_held_drew (S := (fun w' => Below w.heap.size w w' ∧ w'.cell? ⟨q, 1, none⟩ = some (.int .i64 (i : Int)) ∧ w'.cell? (tad.add i) = some (.string s))) (by kernel_rfl) ?_ (fun hHeld => ?_)
        · ((try dsimp only); exact ⟨HBW.out.trans ((Below.refl _ _).drew.mono HBW.out.size), y1, hts⟩)
        have HUD := Lib.hid ((Below.refl W.heap.size W).drew)
        have hud : W.heap.size = W.drew.heap.size := rfl
        generalize W.drew = ud at *
        refine take_yes (i := 0) (d := 34) (v := ?_) rfl rfl (by kernel_rfl) (by kernel_rfl) (by kernel_rfl) (fun _ _ _ h => h) (by kernel_rfl) ?_ hHeld ?_
        rotate_left
        · (intro w hSw; (try dsimp only at hSw); go_simp; try (with_reducible rfl))
        try simp only [Act.put, List.setIfInBounds_toArray, List.set_cons_zero, List.set_cons_succ]
        refine take_yes (i := 1) (d := 35) (v := ?_) rfl rfl (by kernel_rfl) (by kernel_rfl) (by kernel_rfl) (fun _ _ _ h => h) (by kernel_rfl) ?_ hHeld ?_
        rotate_left
        · (intro w hSw; (try dsimp only at hSw); go_simp; try (with_reducible rfl))
        try simp only [Act.put, List.setIfInBounds_toArray, List.set_cons_zero, List.set_cons_succ]
        refine take_yes (i := 2) (d := 36) (v := ?_) rfl rfl (by kernel_rfl) (by kernel_rfl) (by kernel_rfl) (fun _ _ _ h => h) (by kernel_rfl) ?_ hHeld ?_
        rotate_left
        · (intro w hSw; (try dsimp only at hSw); go_simp; try (with_reducible rfl))
        try simp only [Act.put, List.setIfInBounds_toArray, List.set_cons_zero, List.set_cons_succ]
        refine take_yes (i := 3) (d := 37) (v := ?_) rfl rfl (by kernel_rfl) (by kernel_rfl) (by kernel_rfl) (fun _ _ _ h => h) (by kernel_rfl) ?_ hHeld ?_
        rotate_left
        · (intro w hSw; (try dsimp only at hSw); go_simp; try (with_reducible rfl))
        try simp only [Act.put, List.setIfInBounds_toArray, List.set_cons_zero, List.set_cons_succ]
        refine take_yes (i := 4) (d := 38) (v := ?_) rfl rfl (by kernel_rfl) (by kernel_rfl) (by kernel_rfl) (fun _ _ _ h => h) (by kernel_rfl) ?_ hHeld ?_
        rotate_left
        · (intro w hSw; (try dsimp only at hSw); go_simp; try (with_reducible rfl))
        try simp only [Act.put, List.setIfInBounds_toArray, List.set_cons_zero, List.set_cons_succ]
        refine take_yes (i := 5) (d := 39) (v := ?_) rfl rfl (by kernel_rfl) (by kernel_rfl) (by kernel_rfl) (fun _ _ _ h => h) (by kernel_rfl) ?_ hHeld ?_
        rotate_left
        · (intro w hSw; (try dsimp only at hSw); go_simp; try (with_reducible rfl))
        try simp only [Act.put, List.setIfInBounds_toArray, List.set_cons_zero, List.set_cons_succ]
        refine take_yes (i := 6) (d := 40) (v := ?_) rfl rfl (by kernel_rfl) (by kernel_rfl) (by kernel_rfl) (fun _ _ _ h => h) (by kernel_rfl) ?_ hHeld ?_
        rotate_left
        · (intro w hSw; (try dsimp only at hSw); go_simp; try (with_reducible rfl))
        try simp only [Act.put, List.setIfInBounds_toArray, List.set_cons_zero, List.set_cons_succ]
        refine wpAnyH_ready (rs := [7]) (by kernel_rfl) (by simp) ?_
        refine AllReadyH.cons rfl (fun K hK => ?_) (AllReadyH.nil)
        try go_simp
        (first | refine hK.out _ _ ?_ (fun hHeld1 => ?_) | (go_wp2_with fail; refine hK.out _ _ ?_ (fun hHeld1 => ?_)))
        · ((try dsimp only); exact (fun hb => ⟨HBW.out.trans (hb.mono HBW.out.size), (hb.cell (World.block_lt_of_cell? _ _ y1)).trans y1, (hb.cell (World.block_lt_of_cell? _ _ hts)).trans hts⟩) (HUD.out.alloc (Nat.le_of_eq hud) (.cells #[.string s] 9)))
        clear hK K hHeld
        have hHeld := hHeld1
        clear hHeld1
        try simp only [Act.put, List.setIfInBounds_toArray, List.set_cons_zero, List.set_cons_succ]
        have HX5 := Lib.hid (show Below W.heap.size W (ud.alloc (.cells #[.string s] 9)) from HUD.out.alloc (Nat.le_of_eq hud) (.cells #[.string s] 9))
        have HQX := Lib.hid (HQ.out.below HX5.out hqz)
        have z0 := HQX.out.1 0 _ rfl
        have z1 := HQX.out.1 1 _ rfl
        have z2 := HQX.out.1 2 _ rfl
        have z3 := HQX.out.1 3 _ rfl
        have zf := HQX.out.2
        have hts5 := (HX5.out.cell (World.block_lt_of_cell? _ _ hts)).trans hts
        have HOW5 : Hid ((ud.alloc (.cells #[.string s] 9)).ownsRow W.heap.size 9 1 (.slice (some ⟨ud.heap.size, 0, none⟩) 1 1) 1 (strs [s])) := Lib.hid (World.ownsRow_lit ud #[.string s] 1 (Nat.le_of_eq hud) (by unfold maxLen; omega) (by rfl))
        have HO5 := Lib.hid (own_keep HO.out HX5.out)
        have HR5 := Lib.hid (HR.out.below HX5.out hrz)
        have hz5 := HX5.out.size
        have HBX := Lib.hid (HBW.out.trans (HX5.out.mono HBW.out.size))
        generalize ud.alloc (.cells #[.string s] 9) = W5 at *
        generalize ud.heap.size = gd at *
        have hHD := hHeld
        clear hHeld
        have hHeld := hHD
        clear hHD
        refine take_yes (i := 8) (d := 42) (v := ?_) rfl rfl (by kernel_rfl) (by kernel_rfl) (by kernel_rfl) (fun _ _ _ h => h) (by kernel_rfl) ?_ hHeld ?_
        rotate_left
        · (intro w hSw; (try dsimp only at hSw); go_simp; try (with_reducible rfl))
        try simp only [Act.put, List.setIfInBounds_toArray, List.set_cons_zero, List.set_cons_succ]
        refine wpAnyH_ready (rs := [9]) (by kernel_rfl) (by simp) ?_
        refine AllReadyH.cons rfl (fun K hK => ?_) (AllReadyH.nil)
        try go_simp
        have hst : Below (w.heap.size + 1) W5 ((((W5.setCell ⟨q, 0, none⟩ (.int .i64 3)).setCell ⟨q, 1, none⟩ (.int .i64 (i : Int))).setCell ⟨q, 2, none⟩ (.int .i64 1)).setCell ⟨q, 3, none⟩ (.slice (some ⟨gd, 0, none⟩) 1 1)) := by (refine Below.setCell (Below.setCell (Below.setCell (Below.setCell (Below.refl _ _) ?_ _) ?_ _) ?_ _) ?_ _ <;> exact Nat.le_of_succ_le hq1)
        have HSC := Lib.hid (show (((((W5.setCell ⟨q, 0, none⟩ (.int .i64 3)).setCell ⟨q, 1, none⟩ (.int .i64 (i : Int))).setCell ⟨q, 2, none⟩ (.int .i64 1)).setCell ⟨q, 3, none⟩ (.slice (some ⟨gd, 0, none⟩) 1 1))).cell? (tad.add i) = some (.string s) by (rw [cell_far (by rw [block_add]; exact htq), cell_far (by rw [block_add]; exact htq), cell_far (by rw [block_add]; exact htq), cell_far (by rw [block_add]; exact htq)]; exact hts5))
        have HST := Lib.hid hst
        have HQ5 := Lib.hid (HQX.out.set4 (.int .i64 3) (.int .i64 (i : Int)) (.int .i64 1) (.slice (some ⟨gd, 0, none⟩) 1 1))
        clear hst
        (first | refine hK.out _ _ ?_ (fun hHeld1 => ?_) | (go_wp2_with fail; refine hK.out _ _ ?_ (fun hHeld1 => ?_)))
        · ((try dsimp only); exact ⟨HBX.out.trans (HST.out.mono (Nat.le_succ _)), HQ5.out.1 1 _ rfl, HSC.out⟩)
        clear hK K hHeld
        have hHeld := hHeld1
        clear hHeld1
        try simp only [Act.put, List.setIfInBounds_toArray, List.set_cons_zero, List.set_cons_succ]
        refine wpAnyH_done (by kernel_rfl) ?_ _
        refine NoPanic.normal ?_
        clear hHeld
        go_wp2_with fail
        go_meet
        exact ⟨_, _, ⟨3, i, 1, [s]⟩, Lib.hid (own_off4 HO5.out (fun e => htq (Option.some.inj e)) _ _ _ _), Lib.hid (own_mono (own_off4 HOW5.out (fun e => Nat.lt_irrefl q (by have h9 : gd = q := Option.some.inj e; omega)) _ _ _ _) (by omega)), Lib.hid ⟨by simp, fun x hx => by simp at hx; subst hx; exact HSZ.out⟩, HQ5, Lib.hid ((((HR5.out.setO (by omega) _).setO (by omega) _).setO (by omega) _).setO (by omega) _), Lib.hid (HBX.out.trans (HST.out.mono (Nat.le_succ _))), by simp; omega⟩
      · subst hb
        go_wp2_with fail
        go_meet
        exact ⟨N, nd, a, HO, HOA, Lib.hid (HSA.out.fit (by omega)), HQ, HR, HBW, hqz⟩
    case rest =>
      clear HO HOA HQ HR HBW hqz hBB
      obtain ⟨W, rfl⟩ : ∃ W, W = wc := ⟨_, rfl⟩
      obtain ⟨N, nd, a, HO, HOA, HFA, HQ, HR, HBW, hqz⟩ := hcut
      have y0 := HQ.out.1 0 _ rfl
      have y1 := HQ.out.1 1 _ rfl
      have y2 := HQ.out.1 2 _ rfl
      have y3 := HQ.out.1 3 _ rfl
      have rf := HR.out.2
      have r0 := HR.out.1 0 _ rfl
      have r1 := HR.out.1 1 _ rfl
      have r2 := HR.out.1 2 _ rfl
      have r3 := HR.out.1 3 _ rfl
      have hqr : (⟨q, 0, none⟩ : Addr).block ≠ w.heap.size := by show q ≠ w.heap.size; omega
      go_wp2_with fail
      refine wp_region_noPanic ?_
      refine wp_region_held_drew (S := (fun w' => Below w.heap.size w w' ∧ w'.cell? ⟨q, 0, none⟩ = some (.int .i64 a.k) ∧ w'.cell? ⟨q, 1, none⟩ = some (.int .i64 a.p) ∧ w'.cell? ⟨q, 2, none⟩ = some (.int .i64 a.n) ∧ w'.cell? ⟨q, 3, none⟩ = some (.slice N a.ws.length nd))) (by kernel_rfl) ?_ (fun hHeld => ?_)
      · ((try dsimp only); exact ⟨HBW.out.trans ((Below.refl _ _).drew.mono HBW.out.size), y0, y1, y2, y3⟩)
      have HUD := Lib.hid ((Below.refl W.heap.size W).drew)
      have HBW := Lib.hid (HBW.out.trans (HUD.out.mono HBW.out.size))
      have HR := Lib.hid (HR.out.drew)
      have HO := Lib.hid (World.ownsRow.drew HO.out)
      have HOA := Lib.hid (World.ownsRow.drew HOA.out)
      have y0 := (HQ.out.drew).1 0 _ rfl
      have y1 := (HQ.out.drew).1 1 _ rfl
      have y2 := (HQ.out.drew).1 2 _ rfl
      have y3 := (HQ.out.drew).1 3 _ rfl
      have rf := HR.out.2
      have r0 := HR.out.1 0 _ rfl
      have r1 := HR.out.1 1 _ rfl
      have r2 := HR.out.1 2 _ rfl
      have r3 := HR.out.1 3 _ rfl
      clear HUD
      generalize W.drew = ud at *
      refine take_yes (i := 0) (d := 43) (v := ?_) rfl rfl (by kernel_rfl) (by kernel_rfl) (by kernel_rfl) (fun _ _ _ h => h) (by kernel_rfl) ?_ hHeld ?_
      rotate_left
      · (intro w hSw; (try dsimp only at hSw); go_simp; try (with_reducible rfl))
      try simp only [Act.put, List.setIfInBounds_toArray, List.set_cons_zero, List.set_cons_succ]
      refine take_yes (i := 1) (d := 44) (v := ?_) rfl rfl (by kernel_rfl) (by kernel_rfl) (by kernel_rfl) (fun _ _ _ h => h) (by kernel_rfl) ?_ hHeld ?_
      rotate_left
      · (intro w hSw; (try dsimp only at hSw); go_simp; try (with_reducible rfl))
      try simp only [Act.put, List.setIfInBounds_toArray, List.set_cons_zero, List.set_cons_succ]
      refine take_yes (i := 2) (d := 2) (v := ?_) rfl rfl (by kernel_rfl) (by kernel_rfl) (by kernel_rfl) (fun _ _ _ h => h) (by kernel_rfl) ?_ hHeld ?_
      rotate_left
      · (intro w hSw; (try dsimp only at hSw); go_simp; try (with_reducible rfl))
      try simp only [Act.put, List.setIfInBounds_toArray, List.set_cons_zero, List.set_cons_succ]
      have HFB := Lib.hid (show Below w.heap.size w ((((ud.setCell ⟨w.heap.size, 0, none⟩ (.int .i64 a.k)).setCell ⟨w.heap.size, 1, none⟩ (.int .i64 a.p)).setCell ⟨w.heap.size, 2, none⟩ (.int .i64 a.n)).setCell ⟨w.heap.size, 3, none⟩ (.slice N a.ws.length nd)) from HBW.out.trans (by (refine Below.setCell (Below.setCell (Below.setCell (Below.setCell (Below.refl w.heap.size ud) ?_ _) ?_ _) ?_ _) ?_ _) <;> exact Nat.le_refl _))
      refine wpAnyH_ready (rs := [3]) (by kernel_rfl) (by simp) ?_
      refine AllReadyH.cons rfl (fun K hK => ?_) (AllReadyH.nil)
      try go_simp
      (first | refine hK.out _ _ ?_ (fun hHeld1 => ?_) | (go_wp2_with fail; refine hK.out _ _ ?_ (fun hHeld1 => ?_)))
      · ((try dsimp only); exact ⟨HFB.out, (cell_far hqr).trans ((cell_far hqr).trans ((cell_far hqr).trans ((cell_far hqr).trans y0))), (cell_far hqr).trans ((cell_far hqr).trans ((cell_far hqr).trans ((cell_far hqr).trans y1))), (cell_far hqr).trans ((cell_far hqr).trans ((cell_far hqr).trans ((cell_far hqr).trans y2))), (cell_far hqr).trans ((cell_far hqr).trans ((cell_far hqr).trans ((cell_far hqr).trans y3)))⟩)
      clear hK K hHeld
      have hHeld := hHeld1
      clear hHeld1
      try simp only [Act.put, List.setIfInBounds_toArray, List.set_cons_zero, List.set_cons_succ]
      refine wpAnyH_done (by kernel_rfl) ?_ _
      refine NoPanic.normal ?_
      clear hHeld
      go_wp2
      have KS := HR.out.set4 (.int .i64 a.k) (.int .i64 a.p) (.int .i64 a.n) (.slice N a.ws.length nd)
      have k0 := KS.1 0 _ rfl
      have k1 := KS.1 1 _ rfl
      have k2 := KS.1 2 _ rfl
      have k3 := KS.1 3 _ rfl
      refine bodyPost_ret (v := .tuple #[.slice O ss.length d, .agg #[.int .i64 a.k, .int .i64 a.p, .int .i64 a.n, .slice N a.ws.length nd]]) (by simp [results, Try.results76, go_sem, k0, k1, k2, k3]) rfl ?_
      have ho1 := (own_off HO.out (only4 ud w.heap.size (.int .i64 a.k) (.int .i64 a.p) (.int .i64 a.n) (.slice N a.ws.length nd)) (by omega))
      have ho2 := (own_off HOA.out (only4 ud w.heap.size (.int .i64 a.k) (.int .i64 a.p) (.int .i64 a.n) (.slice N a.ws.length nd)) (by omega))
      exact ⟨O, N, d, nd, ss, a, rfl, ⟨own_mono ho1 (by omega), Under.own ho1, HS.out.fit (by omega)⟩, ⟨own_mono ho2 (by omega), Under.own ho2, HFA.out⟩, HFB.out⟩
set_option maxRecDepth 100000 in
set_option maxHeartbeats 4000000 in
theorem DrawSingleChange_any (A : Option Addr) (n c : Nat) (w : World) (h : BytesC w A n) (hn : n ≤ 65536) :
    Calls Try.prog 37 #[.slice A n c] w fun e w' => ∃ (O N : Option Addr) (d nd : Nat) (ss ts : List ByteArray), e = .returned (.tuple #[.slice O ss.length d, .slice N ts.length nd]) ∧ RdS w'.heap.size w' O d ss ∧ RdS w'.heap.size w' N nd ts ∧ Below w.heap.size w w' := by
  have HC := Lib.hid (Cur.new_ (c := c) h hn 94)
  have HB := Lib.hid (below1 w (.cells #[.slice A n c, .int .i64 0, .int .u64 0] 94))
  have hz : w.heap.size < (w.alloc (.cells #[.slice A n c, .int .i64 0, .int .u64 0] 94)).heap.size := by simp
  clear h
  go_enter Try.func37, Try.ntmps37
  go_upto_region 2 with fail
  generalize w.alloc (.cells #[.slice A n c, .int .i64 0, .int .u64 0] 94) = W0 at *
  go_wp2_with fail
  refine (text_any w.heap.size A n c 0 W0 HC.out (by omega)).mono ?_
  rintro e w1 ⟨O, d, ss, rfl, hsl, hss, own, hc, ho⟩
  have HS := Lib.hid hss
  have HO := Lib.hid (own_mono own (show w.heap.size + 1 ≤ W0.heap.size from hz))
  have HC := Lib.hid hc
  have HB := Lib.hid (HB.out.trans (ho.below (Nat.le_of_lt hz)))
  have hz := Nat.lt_of_lt_of_le hz ho.size
  clear hss own hc ho
  go_wp2_with fail
  refine (amendment_any O d ss.length w.heap.size A n c _ w1 HC.out (by omega) (by omega)).mono ?_
  rintro e w2 ⟨N, nd, a, rfl, hal, has, own, hc, ho⟩
  have HSA := Lib.hid has
  have HC := Lib.hid hc
  have HOA := Lib.hid own
  have HO := Lib.hid (own_off HO.out ho (Nat.le_refl _))
  have HB := Lib.hid (HB.out.trans (ho.below (Nat.le_of_lt hz)))
  have hz := Nat.lt_of_lt_of_le hz ho.size
  have HFS := Lib.hid (HS.out.fit (by omega))
  have HFA := Lib.hid (HSA.out.fit (by omega))
  clear has own hc ho
  go_wp2_with fail
  refine (sApplyAmendment_any O N d nd ss a w2 (Cells.of_own HO.out) (own_cap HO.out) HFS.out (Cells.of_own HOA.out) HFA.out).mono ?_
  rintro e w3 ⟨P, pd, rfl, own, hb⟩
  have HSP := Lib.hid (HS.out.app HSA.out)
  have HLP := Lib.hid (appL_len (ss := ss) (a := a))
  obtain ⟨ts, hts⟩ : ∃ x, Hid (appL ss a = x) := ⟨_, Lib.hid rfl⟩
  obtain ⟨ok, hok⟩ : ∃ x, Hid (canB ss a = x) := ⟨_, Lib.hid rfl⟩
  rw [hts.out] at own HSP HLP ⊢
  rw [hok.out]
  have HOP := Lib.hid (own_mono own (show w.heap.size + 1 ≤ w2.heap.size from hz))
  have HO := Lib.hid (own_keep HO.out hb)
  have HC := Lib.hid (HC.out.below hb)
  have HB := Lib.hid (after HB.out hb)
  have hz := Nat.lt_of_lt_of_le hz hb.size
  have HFP := Lib.hid (HSP.out.fit (by have := HLP.out; omega))
  clear own hb
  rcases Bool.eq_false_or_eq_true ok with hk | hk
  · subst hk
    go_wp2_with fail
    refine (one_any 4 (by omega) (by omega) w.heap.size A n c _ w3 HC.out (by omega)).mono ?_
    rintro e w4 ⟨⟨y, rfl⟩, hc, ho⟩
    have HC := Lib.hid hc
    have HO := Lib.hid (own_off HO.out ho (Nat.le_refl _))
    have HOP := Lib.hid (own_off HOP.out ho (Nat.le_refl _))
    have HB := Lib.hid (HB.out.trans (ho.below (Nat.le_of_lt hz)))
    have hz := Nat.lt_of_lt_of_le hz ho.size
    clear hc ho
    rcases Bool.eq_false_or_eq_true y with hy | hy
    · subst hy
      go_wp2_with fail
      refine (text_any w.heap.size A n c _ w4 HC.out (by omega)).mono ?_
      rintro e w5 ⟨Q, qd, us, rfl, hul, hus, own, hc, ho⟩
      have HO := Lib.hid (own_off HO.out ho (Nat.le_refl _))
      have HOQ := Lib.hid own
      have HB := Lib.hid (HB.out.trans (ho.below (Nat.le_of_lt hz)))
      have HFU := Lib.hid (hus.fit (by omega))
      clear hc ho own hus
      go_wp2
      go_ret2
      exact ⟨O, Q, d, qd, ss, us, rfl, ⟨own_cap HO.out, CellsB.own HO.out (Under.own HO.out), HFS.out⟩, ⟨own_cap HOQ.out, CellsB.own HOQ.out (Under.own HOQ.out), HFU.out⟩, HB.out⟩
    · subst hy
      go_wp2
      go_ret2
      exact ⟨O, P, d, pd, ss, ts, rfl, ⟨own_cap HO.out, CellsB.own HO.out (Under.own HO.out), HFS.out⟩, ⟨own_cap HOP.out, CellsB.own HOP.out (Under.own HOP.out), HFP.out⟩, HB.out⟩
  · subst hk
    go_wp2_with fail
    refine (text_any w.heap.size A n c _ w3 HC.out (by omega)).mono ?_
    rintro e w5 ⟨Q, qd, us, rfl, hul, hus, own, hc, ho⟩
    have HO := Lib.hid (own_off HO.out ho (Nat.le_refl _))
    have HOQ := Lib.hid own
    have HB := Lib.hid (HB.out.trans (ho.below (Nat.le_of_lt hz)))
    have HFU := Lib.hid (hus.fit (by omega))
    clear hc ho own hus
    go_wp2
    go_ret2
    exact ⟨O, Q, d, qd, ss, us, rfl, ⟨own_cap HO.out, CellsB.own HO.out (Under.own HO.out), HFS.out⟩, ⟨own_cap HOQ.out, CellsB.own HOQ.out (Under.own HOQ.out), HFU.out⟩, HB.out⟩
end Go.Proofs.Ytgchbimjgdoifaa
