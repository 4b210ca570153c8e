/- l8With of the reference: a floor with another share. Conditions: the ranges named. -/
import Derived.Test.YtbpikbcnpmplfaaSs4
import Derived.Test.YtbpikbcnpmplfaaFlE2
namespace Go.Proofs.Ytbpikbcnpmplfaa
open Go.RowKit
set_option linter.unusedVariables false
set_option linter.unusedSimpArgs false
attribute [local go_sem ↓] Go.wp_at_zero Go.wp_at_succ
open Ss3
def withF (f : Flr) (x : Shr) : Flr := ⟨f.t, f.s, f.sp, f.wt, putS x f.sh⟩
theorem rows_takeK {α : Type} (K : Kd α) {w : World} {A : Option Addr} {xs : List α} {n : Nat} (h : Cells w A (K.row xs)) : Cells w A (K.row (xs.take n)) := fun i u hu => by
  refine h i u ?_
  rw [Kd.row_take, List.getElem?_take] at hu
  split at hu
  · exact hu
  · cases hu
theorem rows_dropK {α : Type} (K : Kd α) {w : World} {A Q : Option Addr} {xs : List α} {n : Nat} (h : Cells w A (K.row xs)) (hQ : n < xs.length → Q = A.map (·.add (n * K.sz))) : Cells w Q (K.row (xs.drop n)) := fun i u hu => by
  have hi : n < xs.length := by
    rcases Nat.lt_or_ge n xs.length with h1 | h1
    · exact h1
    · rw [List.drop_eq_nil_of_le h1] at hu; simp [Kd.row] at hu
  rw [Kd.row_drop, List.getElem?_drop] at hu
  obtain ⟨ad, hO, hc⟩ := h _ u hu
  subst hO
  exact ⟨ad.add (n * K.sz), hQ hi, by rw [add_add']; exact hc⟩
theorem cells_encS (w : World) (x : Shr) (t : TypeId) (g : Nat) (hg : g = w.heap.size) : Cells (w.alloc (.cells #[.int .i64 x.m, .int .i64 x.t, .int .i64 x.s] t)) (some ⟨g, 0, none⟩) (ShareK.enc x) := fun i u hu => by
  subst hg
  refine ⟨_, rfl, ?_⟩
  rw [add_head, cell_of_row _ _ i _ t (0, 0) (heap_alloc_new w _)]
  simpa [ShareK] using hu
set_option maxHeartbeats 16000000 in
set_option maxRecDepth 100000 in
theorem l8With_any (A D : Option Addr) (c d : Nat) (f : Flr) (x : Shr) (w : World) (ha : Cells w A (IntK.row f.wt)) (hn : f.wt.length ≤ 1048576) (hd : Cells w D (ShareK.row f.sh)) (hdd : f.sh.length ≤ d) (hm : f.sh.length ≤ 1000000) :
    Calls Try.prog 59 #[.agg #[.int .i64 f.t, .int .i64 f.s, .int .i64 f.sp, .slice A f.wt.length c, .slice D f.sh.length d], .agg #[.int .i64 x.m, .int .i64 x.t, .int .i64 x.s]] w (MkF w (withF f x)) := by
  have HA := Lib.hid ha
  have HD := Lib.hid hd
  clear ha hd
  have NF := Lib.hid (((BoxF.new5 w (.int .i64 f.t) (.int .i64 f.s) (.int .i64 f.sp) (.slice A f.wt.length c) (.slice D f.sh.length d) 29 w.heap.size rfl).below (below1 (w.alloc (.cells #[.int .i64 f.t, .int .i64 f.s, .int .i64 f.sp, .slice A f.wt.length c, .slice D f.sh.length d] 29)) (.cells #[.int .i64 x.m, .int .i64 x.t, .int .i64 x.s] 43)) (by simp)).below (below1 ((w.alloc (.cells #[.int .i64 f.t, .int .i64 f.s, .int .i64 f.sp, .slice A f.wt.length c, .slice D f.sh.length d] 29)).alloc (.cells #[.int .i64 x.m, .int .i64 x.t, .int .i64 x.s] 43)) (.cells #[.int .i64 0, .int .i64 0, .int .i64 0, .slice none 0 0, .slice none 0 0] 29)) (by simp; omega))
  have NX := Lib.hid ((BoxF.new3 (w.alloc (.cells #[.int .i64 f.t, .int .i64 f.s, .int .i64 f.sp, .slice A f.wt.length c, .slice D f.sh.length d] 29)) (.int .i64 x.m) (.int .i64 x.t) (.int .i64 x.s) 43 (w.heap.size + 1) (by simp)).below (below1 ((w.alloc (.cells #[.int .i64 f.t, .int .i64 f.s, .int .i64 f.sp, .slice A f.wt.length c, .slice D f.sh.length d] 29)).alloc (.cells #[.int .i64 x.m, .int .i64 x.t, .int .i64 x.s] 43)) (.cells #[.int .i64 0, .int .i64 0, .int .i64 0, .slice none 0 0, .slice none 0 0] 29)) (by simp))
  have NZ := Lib.hid (BoxF.new5 ((w.alloc (.cells #[.int .i64 f.t, .int .i64 f.s, .int .i64 f.sp, .slice A f.wt.length c, .slice D f.sh.length d] 29)).alloc (.cells #[.int .i64 x.m, .int .i64 x.t, .int .i64 x.s] 43)) (.int .i64 0) (.int .i64 0) (.int .i64 0) (.slice none 0 0) (.slice none 0 0) 29 (w.heap.size + 2) (by simp))
  have HB := Lib.hid ((below2 w (.cells #[.int .i64 f.t, .int .i64 f.s, .int .i64 f.sp, .slice A f.wt.length c, .slice D f.sh.length d] 29) (.cells #[.int .i64 x.m, .int .i64 x.t, .int .i64 x.s] 43)).trans ((below1 ((w.alloc (.cells #[.int .i64 f.t, .int .i64 f.s, .int .i64 f.sp, .slice A f.wt.length c, .slice D f.sh.length d] 29)).alloc (.cells #[.int .i64 x.m, .int .i64 x.t, .int .i64 x.s] 43)) (.cells #[.int .i64 0, .int .i64 0, .int .i64 0, .slice none 0 0, .slice none 0 0] 29)).mono (by simp; omega)))
  have hs : (((w.alloc (.cells #[.int .i64 f.t, .int .i64 f.s, .int .i64 f.sp, .slice A f.wt.length c, .slice D f.sh.length d] 29)).alloc (.cells #[.int .i64 x.m, .int .i64 x.t, .int .i64 x.s] 43)).alloc (.cells #[.int .i64 0, .int .i64 0, .int .i64 0, .slice none 0 0, .slice none 0 0] 29)).heap.size = w.heap.size + 3 := by simp
  go_enter Try.func59, Try.ntmps59
  go_upto_region 1 with fail
  generalize (((w.alloc (.cells #[.int .i64 f.t, .int .i64 f.s, .int .i64 f.sp, .slice A f.wt.length c, .slice D f.sh.length d] 29)).alloc (.cells #[.int .i64 x.m, .int .i64 x.t, .int .i64 x.s] 43)).alloc (.cells #[.int .i64 0, .int .i64 0, .int .i64 0, .slice none 0 0, .slice none 0 0] 29)) = W at *
  have b0 := NF.out.1 0 _ rfl
  have b1 := NF.out.1 1 _ rfl
  have b2 := NF.out.1 2 _ rfl
  have b3 := NF.out.1 3 _ rfl
  have b4 := NF.out.1 4 _ rfl
  go_wp2_with fail
  refine (l8Own_any A D c d f W (HA.out.below HB.out) hn (HD.out.below HB.out) (by omega)).mono ?_
  rintro e w1 ⟨A1, c1, D1, d1, rfl, o1, o2, hb⟩
  clear b0 b1 b2 b3 b4
  have hs1 := hb.size
  have HA1 := Lib.hid o1.1
  have HAU := Lib.hid o1.2.1
  have hb1 := below1 w1 (.cells #[.int .i64 f.t, .int .i64 f.s, .int .i64 f.sp, .slice A1 f.wt.length c1, .slice D1 f.sh.length d1] 29)
  have HBO := Lib.hid (BoxF.new5 w1 (.int .i64 f.t) (.int .i64 f.s) (.int .i64 f.sp) (.slice A1 f.wt.length c1) (.slice D1 f.sh.length d1) 29 w1.heap.size rfl)
  have hb2 := hb.trans (hb1.mono hs1)
  have NF := Lib.hid (NF.out.below hb2 (by omega))
  have NX := Lib.hid (NX.out.below hb2 (by omega))
  have NZ := Lib.hid (NZ.out.below hb2 (by omega))
  have HB := Lib.hid (HB.out.trans (hb2.mono (by omega)))
  replace HA1 := Lib.hid (own_keep HA1.out hb1)
  have hbo1 : w1.heap.size ≤ (w1.alloc (.cells #[.int .i64 f.t, .int .i64 f.s, .int .i64 f.sp, .slice A1 f.wt.length c1, .slice D1 f.sh.length d1] 29)).heap.size := by simp
  have hbo0 : w1.heap.size < (w1.alloc (.cells #[.int .i64 f.t, .int .i64 f.s, .int .i64 f.sp, .slice A1 f.wt.length c1, .slice D1 f.sh.length d1] 29)).heap.size := by simp
  clear o1 o2 hb hb1 hb2
  go_upto_region 2 with fail
  generalize (w1.alloc (.cells #[.int .i64 f.t, .int .i64 f.s, .int .i64 f.sp, .slice A1 f.wt.length c1, .slice D1 f.sh.length d1] 29)) = V at *
  go_wp2
  go_loopw [6] (fun i wr => ∃ k : Nat, k ≤ f.sh.length ∧ i = .int .i64 k ∧ Hid (cntS x.m f.sh = k + cntS x.m (f.sh.drop k)) ∧ Hid (Alike V wr)) (fun i _ => f.sh.length - (intOf i).toNat)
  case atStart => exact ⟨0, Nat.zero_le _, rfl, Lib.hid (by rw [List.drop_zero, Nat.zero_add]), Lib.hid (Alike.refl V)⟩
  case round =>
    obtain ⟨k, hk, rfl, hq, HAL⟩ := hrel
    have GF := Lib.hid (HAL.out.box NF.out)
    have GX := Lib.hid (HAL.out.box NX.out)
    have HBr := Lib.hid (show Below w.heap.size w wr from ⟨HAL.out.os.trans HB.out.os, HAL.out.tape.trans HB.out.tape, HAL.out.output.trans HB.out.output, by rw [HAL.out.heap]; exact HB.out.size, fun i hi => by rw [HAL.out.heap]; exact HB.out.block i hi⟩)
    have b4 := GF.out.1 4 _ rfl
    have x0 := GX.out.1 0 _ rfl
    have kd1 : (k : Int) ≤ (d : Int) := by omega
    have kd2 : (k : Int) ≤ (f.sh.length : Int) := by omega
    have kd3 : k ≤ d := by omega
    have kd4 : (f.sh.length : Int) ≤ (d : Int) := by omega
    by_cases hlt : k < f.sh.length
    · obtain ⟨a, rfl, p0, p1, p2⟩ := share_at (HD.out.below HBr.out) hlt
      have i1 : (k : Int) < (f.sh.length : Int) := by omega
      have HY := Lib.hid (cntS_yes (m := x.m) hlt)
      have HN := Lib.hid (cntS_no (m := x.m) hlt)
      have HHIT := Lib.hid (fun (hc : cntS x.m f.sh = k) (he : f.sh[k].m = x.m) => (putS_hit hc hlt he).1)
      have HNEW := Lib.hid (fun (hc : cntS x.m f.sh = k) (he : f.sh[k].m ≠ x.m) => (putS_new hc hk (fun _ => he)).1)
      obtain ⟨y, hy⟩ : ∃ y, Hid (f.sh[k] = y) := ⟨_, Lib.hid rfl⟩
      rw [hy.out] at p0 p1 p2 HY HN HHIT HNEW
      clear p1 p2
      by_cases hl : y.m < x.m
      · have HA2 := Lib.hid (hq.out.trans (HY.out hl))
        clear hq HY HN HHIT HNEW
        go_wp2
        go_quiet (fail)
        go_wp2
        go_roundw
        case rel => exact ⟨k + 1, by omega, by go_num, HA2, Lib.hid (HAL.out.drewN _)⟩
        case measure => simp [intOf]; omega
      · have HA2 := Lib.hid (hq.out.trans (HN.out hl))
        have hdk : ¬ d = k := by omega
        have hlk : (0 : Int) < (f.sh.length : Int) - (k : Int) := by omega
        have hlk2 : 0 < f.sh.length - k := by omega
        by_cases he : y.m = x.m
        · have HPT := Lib.hid (HHIT.out HA2.out he)
          have he2 : (y.m == x.m) = true := by simp [he]
          clear hq HY HN HHIT HNEW
          have hk7 : 1 ≤ f.sh.length - k := by omega
          have hk8 : (1 : Int) ≤ (f.sh.length : Int) - (k : Int) := by omega
          have hk9 : f.sh.length - k ≤ d - k := by omega
          have hka : 1 ≤ d - k := by omega
          by_cases hd1 : d - k = 1
          · go_wp2
            go_quiet (fail)
            obtain ⟨n1, hn1⟩ : ∃ n, n = nq := ⟨_, rfl⟩
            subst hn1
            go_wp2
            go_quiet (fail)
            go_wp2
            obtain ⟨Q, hQ⟩ : ∃ Q, Hid (some (a.add (k * 3)) = Q) := ⟨_, Lib.hid rfl⟩
            have HQ := Lib.hid (show k + 1 < f.sh.length → Q = (some a).map (·.add ((k + 1) * 3)) from fun h0 => by rw [← hQ.out]; exfalso; omega)
            rw [hQ.out]
            have HAL2 := Lib.hid (HAL.out.drewN (n1 + nq))
            clear b4 x0
            generalize wr.drewN (n1 + nq) = ws at *
            replace NF := Lib.hid (HAL2.out.box NF.out)
            replace NX := Lib.hid (HAL2.out.box NX.out)
            replace NZ := Lib.hid (HAL2.out.box NZ.out)
            replace HBO := Lib.hid (HAL2.out.box HBO.out)
            replace HA1 := Lib.hid (HAL2.out.own HA1.out)
            replace HB := Lib.hid (show Below w.heap.size w ws from ⟨HAL2.out.os.trans HB.out.os, HAL2.out.tape.trans HB.out.tape, HAL2.out.output.trans HB.out.output, by rw [HAL2.out.heap]; exact HB.out.size, fun i hi => by rw [HAL2.out.heap]; exact HB.out.block i hi⟩)
            have hbo : w1.heap.size < ws.heap.size := by rw [HAL2.out.heap]; exact hbo0
            replace hbo1 := Nat.le_of_lt hbo
            clear HAL HAL2 GF GX HBr hbo0
            have KS : ∀ {w' : World}, Below w1.heap.size ws w' → (Below w1.heap.size ws w' ∧ (∀ o, w'.cell? ⟨w.heap.size, o, none⟩ = ws.cell? ⟨w.heap.size, o, none⟩) ∧ (∀ o, w'.cell? ⟨w.heap.size + 1, o, none⟩ = ws.cell? ⟨w.heap.size + 1, o, none⟩)) := fun h => ⟨h, fun o => h.cell (p := ⟨w.heap.size, o, none⟩) (by show w.heap.size < _; omega), fun o => h.cell (p := ⟨w.heap.size + 1, o, none⟩) (by show w.heap.size + 1 < _; omega)⟩
            have KS2 : ∀ {w' : World}, Below ws.heap.size ws w' → (Below w1.heap.size ws w' ∧ (∀ o, w'.cell? ⟨w.heap.size, o, none⟩ = ws.cell? ⟨w.heap.size, o, none⟩) ∧ (∀ o, w'.cell? ⟨w.heap.size + 1, o, none⟩ = ws.cell? ⟨w.heap.size + 1, o, none⟩)) := fun h => KS (h.mono hbo1)
            have b4 := NF.out.1 4 _ rfl
            have x0 := NX.out.1 0 _ rfl
            have x1 := NX.out.1 1 _ rfl
            have x2 := NX.out.1 2 _ rfl
            refine wp_region_noPanic ?_
            refine wp_region_held_drew (S := (fun w' => Below w1.heap.size ws w' ∧ (∀ o, w'.cell? ⟨w.heap.size, o, none⟩ = ws.cell? ⟨w.heap.size, o, none⟩) ∧ (∀ o, w'.cell? ⟨w.heap.size + 1, o, none⟩ = ws.cell? ⟨w.heap.size + 1, o, none⟩))) (by kernel_rfl) ?_ (fun hHeld => ?_)
            · ((try dsimp only); exact KS (Below.refl _ _).drew)
            have HX := Lib.hid (show Below ws.heap.size ws ws.drew from (Below.refl _ _).drew)
            have HBO := Lib.hid HBO.out.drew
            generalize ws.drew = ud at *
            refine take_yes (i := 1) (d := 47) (v := ?_) rfl rfl (by kernel_rfl) (by kernel_rfl) (by kernel_rfl) (fun _ _ _ h => h) (by kernel_rfl) ?_ hHeld ?_
            rotate_left
            · (intro w hSw; (try dsimp only at hSw); go_simp; try (with_reducible rfl))
            try simp only [Act.put, List.setIfInBounds_toArray, List.set_cons_zero, List.set_cons_succ]
            refine take_yes (i := 2) (d := 48) (v := ?_) rfl rfl (by kernel_rfl) (by kernel_rfl) (by kernel_rfl) (fun _ _ _ h => h) (by kernel_rfl) ?_ hHeld ?_
            rotate_left
            · (intro w hSw; (try dsimp only at hSw); go_simp; try (with_reducible rfl))
            try simp only [Act.put, List.setIfInBounds_toArray, List.set_cons_zero, List.set_cons_succ]
            refine take_yes (i := 3) (d := 49) (v := ?_) rfl rfl (by kernel_rfl) (by kernel_rfl) (by kernel_rfl) (fun _ _ _ h => h) (by kernel_rfl) ?_ hHeld ?_
            rotate_left
            · (intro w hSw; (try dsimp only at hSw); go_simp; try (with_reducible rfl))
            try simp only [Act.put, List.setIfInBounds_toArray, List.set_cons_zero, List.set_cons_succ]
            refine take_yes (i := 4) (d := 50) (v := ?_) rfl rfl (by kernel_rfl) (by kernel_rfl) (by kernel_rfl) (fun _ _ _ h => h) (by kernel_rfl) ?_ hHeld ?_
            rotate_left
            · (intro w hSw; (try dsimp only at hSw); go_simp; try (with_reducible rfl))
            try simp only [Act.put, List.setIfInBounds_toArray, List.set_cons_zero, List.set_cons_succ]
            refine take_yes (i := 6) (d := 52) (v := ?_) rfl rfl (by kernel_rfl) (by kernel_rfl) (by kernel_rfl) (fun _ _ _ h => h) (by kernel_rfl) ?_ hHeld ?_
            rotate_left
            · (intro w hSw; (try dsimp only at hSw); go_simp; try (with_reducible rfl))
            try simp only [Act.put, List.setIfInBounds_toArray, List.set_cons_zero, List.set_cons_succ]
            refine take_yes (i := 9) (d := 55) (v := ?_) rfl rfl (by kernel_rfl) (by kernel_rfl) (by kernel_rfl) (fun _ _ _ h => h) (by kernel_rfl) ?_ hHeld ?_
            rotate_left
            · (intro w hSw; (try dsimp only at hSw); go_simp; try (with_reducible rfl))
            try simp only [Act.put, List.setIfInBounds_toArray, List.set_cons_zero, List.set_cons_succ]
            refine wpAnyH_ready (rs := [0, 7]) (by kernel_rfl) (by simp) ?_
            refine AllReadyH.cons rfl (fun K hK => ?_) (AllReadyH.cons rfl (fun K hK => ?_) (AllReadyH.nil))
            · try go_simp
              (first | refine hK.out _ _ ?_ (fun hHeld1 => ?_) | (go_wp2_with fail; refine hK.out _ _ ?_ (fun hHeld1 => ?_)))
              · ((try dsimp only); exact KS2 (HX.out.trans ((below1 ud _).mono HX.out.size)))
              clear hK K hHeld
              have hHeld := hHeld1
              clear hHeld1
              try simp only [Act.put, List.setIfInBounds_toArray, List.set_cons_zero, List.set_cons_succ]
              have hsz := HX.out.size
              have hb := below1 ud (.cells #[] 43)
              have HZ := Lib.hid (own_nil_lit ud ws.heap.size ud.heap.size 43 3 rfl hsz)
              have hb := hb.mono hsz
              replace HX := Lib.hid (HX.out.trans hb)
              replace HBO := Lib.hid (HBO.out.below hb hbo)
              clear hb hsz
              generalize (ud.alloc (.cells #[] 43)) = y1 at *
              generalize ud.heap.size = gz at *
              refine wpAnyH_ready (rs := [5, 7]) (by kernel_rfl) (by simp) ?_
              refine AllReadyH.cons rfl (fun K hK => ?_) (AllReadyH.cons rfl (fun K hK => ?_) (AllReadyH.nil))
              · have hsz := HX.out.size
                refine step_append_lit elShare _ (by rfl) _ _ (by rfl) ws.heap.size gz (some a) k d (ShareK.row (f.sh.take k)) (by rfl) (by rfl) (by rw [Kd.row_len, List.length_take, Nat.min_eq_left (by omega)]; rfl) HZ.out (rows_takeK ShareK (HD.out.below (HB.out.trans (HX.out.mono (by omega))))) share_one hsz (by omega) ?_
                intro O1 d1 y2 own1 hb hq1
                have HO1 := Lib.hid own1
                have HF := Lib.hid hb
                have HBN := Lib.hid (HX.out.trans (hb.mono hsz))
                clear own1 hb hq1
                (first | refine hK.out _ _ ?_ (fun hHeld1 => ?_) | (go_wp2_with fail; refine hK.out _ _ ?_ (fun hHeld1 => ?_)))
                · ((try dsimp only); exact KS2 HBN.out)
                clear hK K hHeld
                have hHeld := hHeld1
                clear hHeld1
                try simp only [Act.put, List.setIfInBounds_toArray, List.set_cons_zero, List.set_cons_succ]
                replace HX := Lib.hid (HX.out.trans (HF.out.mono hsz))
                replace HBO := Lib.hid (HBO.out.below (HF.out.mono hsz) hbo)
                clear hsz
                refine wpAnyH_ready (rs := [7]) (by kernel_rfl) (by simp) ?_
                refine AllReadyH.cons rfl (fun K hK => ?_) (AllReadyH.nil)
                try go_simp
                (first | refine hK.out _ _ ?_ (fun hHeld1 => ?_) | (go_wp2_with fail; refine hK.out _ _ ?_ (fun hHeld1 => ?_)))
                · ((try dsimp only); exact KS2 (HX.out.trans ((below1 y2 _).mono HX.out.size)))
                clear hK K hHeld
                have hHeld := hHeld1
                clear hHeld1
                try simp only [Act.put, List.setIfInBounds_toArray, List.set_cons_zero, List.set_cons_succ]
                have hsz := HX.out.size
                have hb := below1 y2 (.cells #[.int .i64 x.m, .int .i64 x.t, .int .i64 x.s] 43)
                replace HO1 := Lib.hid (own_keep HO1.out hb)
                have HXC := Lib.hid (cells_encS y2 x 43 y2.heap.size rfl)
                have hb := hb.mono hsz
                replace HX := Lib.hid (HX.out.trans hb)
                replace HBO := Lib.hid (HBO.out.below hb hbo)
                clear hb hsz
                generalize (y2.alloc (.cells #[.int .i64 x.m, .int .i64 x.t, .int .i64 x.s] 43)) = y3 at *
                generalize y2.heap.size = gx at *
                refine wpAnyH_ready (rs := [8]) (by kernel_rfl) (by simp) ?_
                refine AllReadyH.cons rfl (fun K hK => ?_) (AllReadyH.nil)
                have hsz := HX.out.size
                refine step_append elShare _ (by rfl) _ _ (by rfl) ws.heap.size O1 (some ⟨gx, 0, none⟩) d1 k 1 1 (ShareK.row (f.sh.take k)) (ShareK.enc x) (by rfl) (by rfl) rfl HO1.out HXC.out (fun u hu => share_one (xs := [x]) u (by rw [Kd.row_one]; exact hu)) hsz (by omega) ?_
                intro O2 d2 y4 own1 hb
                have HO2 := Lib.hid own1
                have HF := Lib.hid hb
                have HBN := Lib.hid (HX.out.trans hb)
                clear own1 hb
                (first | refine hK.out _ _ ?_ (fun hHeld1 => ?_) | (go_wp2_with fail; refine hK.out _ _ ?_ (fun hHeld1 => ?_)))
                · ((try dsimp only); exact KS2 HBN.out)
                clear hK K hHeld
                have hHeld := hHeld1
                clear hHeld1
                try simp only [Act.put, List.setIfInBounds_toArray, List.set_cons_zero, List.set_cons_succ]
                replace HX := Lib.hid (HX.out.trans HF.out)
                replace HBO := Lib.hid (HBO.out.below HF.out hbo)
                clear hsz
                refine wpAnyH_ready (rs := [10]) (by kernel_rfl) (by simp) ?_
                refine AllReadyH.cons rfl (fun K hK => ?_) (AllReadyH.nil)
                have hsz := HX.out.size
                refine step_append elShare _ (by rfl) _ _ (by rfl) ws.heap.size O2 Q d2 (k + 1) (f.sh.length - k - 1) (0) (ShareK.row (f.sh.take k) ++ ShareK.enc x) (ShareK.row (f.sh.drop (k + 1))) (by rfl) (by rfl) (by rw [Kd.row_len, List.length_drop]; show _ * 3 = _; omega) HO2.out (rows_dropK ShareK (HD.out.below (HB.out.trans (HX.out.mono (by omega)))) HQ.out) share_one hsz (by omega) ?_
                intro O3 d3 y5 own1 hb
                have HO3 := Lib.hid own1
                have HF := Lib.hid hb
                have HBN := Lib.hid (HX.out.trans hb)
                clear own1 hb
                (first | refine hK.out _ _ ?_ (fun hHeld1 => ?_) | (go_wp2_with fail; refine hK.out _ _ ?_ (fun hHeld1 => ?_)))
                · ((try dsimp only); exact KS2 HBN.out)
                clear hK K hHeld
                have hHeld := hHeld1
                clear hHeld1
                try simp only [Act.put, List.setIfInBounds_toArray, List.set_cons_zero, List.set_cons_succ]
                replace HX := Lib.hid (HX.out.trans HF.out)
                replace HBO := Lib.hid (HBO.out.below HF.out hbo)
                clear hsz
                have o4 := HBO.out.1 4 _ rfl
                have z4 := HBO.out.2 4
                refine take_yes (i := 11) (d := 57) (v := ?_) rfl rfl (by kernel_rfl) (by kernel_rfl) (by kernel_rfl) (fun _ _ _ h => h) (by kernel_rfl) ?_ hHeld ?_
                rotate_left
                · (intro w hSw; (try dsimp only at hSw); go_simp; try (with_reducible rfl))
                try simp only [Act.put, List.setIfInBounds_toArray, List.set_cons_zero, List.set_cons_succ]
                refine wpAnyH_ready (rs := [12]) (by kernel_rfl) (by simp) ?_
                refine AllReadyH.cons rfl (fun K hK => ?_) (AllReadyH.nil)
                try go_simp
                clear o4 z4
                (first | refine hK.out _ _ ?_ (fun hHeld1 => ?_) | (go_wp2_with fail; refine hK.out _ _ ?_ (fun hHeld1 => ?_)))
                · ((try dsimp only); exact KS ((HX.out.mono hbo1).setCell (Nat.le_refl _) _))
                clear hK K hHeld
                have hHeld := hHeld1
                clear hHeld1
                try simp only [Act.put, List.setIfInBounds_toArray, List.set_cons_zero, List.set_cons_succ]
                have HBN := Lib.hid hHeld.1
                replace HBO := Lib.hid (HBO.out.set (k := 4) (by simp) (.slice O3 (k + 1 + (f.sh.length - k - 1)) d3))
                replace HO3 := Lib.hid (ownsRow_setCell_below HO3.out (a := ⟨w1.heap.size, 4, none⟩) hbo (.slice O3 (k + 1 + (f.sh.length - k - 1)) d3))
                generalize y5.setCell ⟨w1.heap.size, 4, none⟩ (.slice O3 (k + 1 + (f.sh.length - k - 1)) d3) = y6 at *
                refine wpAnyH_done (by kernel_rfl) ?_ _
                refine NoPanic.normal ?_
                clear hHeld
                have hn3 : k + 1 + (f.sh.length - k - 1) = (putS x f.sh).length := by rw [HPT.out, List.length_append, List.length_cons, List.length_take, List.length_drop, Nat.min_eq_left (by omega)]; omega
                have HR3 := Lib.hid (show ShareK.row (f.sh.take k) ++ ShareK.enc x ++ ShareK.row (f.sh.drop (k + 1)) = ShareK.row (putS x f.sh) by rw [HPT.out, Kd.row_append, show x :: f.sh.drop (k + 1) = [x] ++ f.sh.drop (k + 1) from rfl, Kd.row_append, Kd.row_one, List.append_assoc])
                rw [HR3.out, hn3] at HO3
                rw [hn3] at HBO
                clear HR3
                have HBT := Lib.hid (HB.out.trans (HBN.out.mono (by omega)))
                have NZ2 := Lib.hid (NZ.out.below HBN.out (by omega))
                have HA3 := Lib.hid (own_under HA1.out HAU.out HBN.out (Nat.le_refl _))
                have hszf := HBT.out.size
                have o0 := HBO.out.1 0 _ rfl
                have o1 := HBO.out.1 1 _ rfl
                have o2 := HBO.out.1 2 _ rfl
                have o3 := HBO.out.1 3 _ rfl
                have o4 := HBO.out.1 4 _ rfl
                have r0 := NZ2.out.1 0 _ rfl
                have r1 := NZ2.out.1 1 _ rfl
                have r2 := NZ2.out.1 2 _ rfl
                have r3 := NZ2.out.1 3 _ rfl
                have r4 := NZ2.out.1 4 _ rfl
                have q0 := NZ2.out.2 0
                have q1 := NZ2.out.2 1
                have q2 := NZ2.out.2 2
                have q3 := NZ2.out.2 3
                have q4 := NZ2.out.2 4
                rw [hn3]
                go_wp2
                clear o0 r0 q0 o1 r1 q1 o2 r2 q2 o3 r3 q3 o4 r4 q4
                have KZ := NZ2.out.set5 (.int .i64 f.t) (.int .i64 f.s) (.int .i64 f.sp) (.slice A1 f.wt.length c1) (.slice O3 (putS x f.sh).length d3)
                have k0 := KZ.1 0 _ rfl
                have k1 := KZ.1 1 _ rfl
                have k2 := KZ.1 2 _ rfl
                have k3 := KZ.1 3 _ rfl
                have k4 := KZ.1 4 _ rfl
                refine bodyPost_ret (v := .agg #[.int .i64 f.t, .int .i64 f.s, .int .i64 f.sp, .slice A1 f.wt.length c1, .slice O3 (putS x f.sh).length d3]) (by simp [results, Try.results59, go_sem, k0, k1, k2, k3, k4]) rfl ?_
                clear k0 k1 k2 k3 k4 KZ
                exact ⟨A1, c1, O3, d3, rfl, Ow.mk (K := IntK) (own_fin_old5 (L := w.heap.size) HA3.out (by omega) (by omega) _ _ _ _ _) hn (fun _ _ => trivial), Ow.mk (K := ShareK) (own_fin_old5 (L := w.heap.size) HO3.out (by omega) (by omega) _ _ _ _ _) (by show (putS x f.sh).length ≤ _; rw [← hn3]; omega) (fun _ _ => trivial), below_set5 HBT.out (by omega) _ _ _ _ _⟩
              · try go_simp
                (first | refine hK.out _ _ ?_ (fun hHeld1 => ?_) | (go_wp2_with fail; refine hK.out _ _ ?_ (fun hHeld1 => ?_)))
                · ((try dsimp only); exact KS2 (HX.out.trans ((below1 y1 _).mono HX.out.size)))
                clear hK K hHeld
                have hHeld := hHeld1
                clear hHeld1
                try simp only [Act.put, List.setIfInBounds_toArray, List.set_cons_zero, List.set_cons_succ]
                have hsz := HX.out.size
                have hb := below1 y1 (.cells #[.int .i64 x.m, .int .i64 x.t, .int .i64 x.s] 43)
                replace HZ := Lib.hid (own_keep HZ.out hb)
                have HXC := Lib.hid (cells_encS y1 x 43 y1.heap.size rfl)
                have hb := hb.mono hsz
                replace HX := Lib.hid (HX.out.trans hb)
                replace HBO := Lib.hid (HBO.out.below hb hbo)
                clear hb hsz
                generalize (y1.alloc (.cells #[.int .i64 x.m, .int .i64 x.t, .int .i64 x.s] 43)) = y2 at *
                generalize y1.heap.size = gx at *
                refine wpAnyH_ready (rs := [5]) (by kernel_rfl) (by simp) ?_
                refine AllReadyH.cons rfl (fun K hK => ?_) (AllReadyH.nil)
                have hsz := HX.out.size
                refine step_append_lit elShare _ (by rfl) _ _ (by rfl) ws.heap.size gz (some a) k d (ShareK.row (f.sh.take k)) (by rfl) (by rfl) (by rw [Kd.row_len, List.length_take, Nat.min_eq_left (by omega)]; rfl) HZ.out (rows_takeK ShareK (HD.out.below (HB.out.trans (HX.out.mono (by omega))))) share_one hsz (by omega) ?_
                intro O1 d1 y3 own1 hb hq1
                have HO1 := Lib.hid own1
                have HF := Lib.hid hb
                have HBN := Lib.hid (HX.out.trans (hb.mono hsz))
                clear own1 hb hq1
                (first | refine hK.out _ _ ?_ (fun hHeld1 => ?_) | (go_wp2_with fail; refine hK.out _ _ ?_ (fun hHeld1 => ?_)))
                · ((try dsimp only); exact KS2 HBN.out)
                clear hK K hHeld
                have hHeld := hHeld1
                clear hHeld1
                try simp only [Act.put, List.setIfInBounds_toArray, List.set_cons_zero, List.set_cons_succ]
                replace HXC := Lib.hid (HXC.out.below HF.out)
                replace HX := Lib.hid (HX.out.trans (HF.out.mono hsz))
                replace HBO := Lib.hid (HBO.out.below (HF.out.mono hsz) hbo)
                clear hsz
                refine wpAnyH_ready (rs := [8]) (by kernel_rfl) (by simp) ?_
                refine AllReadyH.cons rfl (fun K hK => ?_) (AllReadyH.nil)
                have hsz := HX.out.size
                refine step_append elShare _ (by rfl) _ _ (by rfl) ws.heap.size O1 (some ⟨gx, 0, none⟩) d1 k 1 1 (ShareK.row (f.sh.take k)) (ShareK.enc x) (by rfl) (by rfl) rfl HO1.out HXC.out (fun u hu => share_one (xs := [x]) u (by rw [Kd.row_one]; exact hu)) hsz (by omega) ?_
                intro O2 d2 y4 own1 hb
                have HO2 := Lib.hid own1
                have HF := Lib.hid hb
                have HBN := Lib.hid (HX.out.trans hb)
                clear own1 hb
                (first | refine hK.out _ _ ?_ (fun hHeld1 => ?_) | (go_wp2_with fail; refine hK.out _ _ ?_ (fun hHeld1 => ?_)))
                · ((try dsimp only); exact KS2 HBN.out)
                clear hK K hHeld
                have hHeld := hHeld1
                clear hHeld1
                try simp only [Act.put, List.setIfInBounds_toArray, List.set_cons_zero, List.set_cons_succ]
                replace HX := Lib.hid (HX.out.trans HF.out)
                replace HBO := Lib.hid (HBO.out.below HF.out hbo)
                clear hsz
                refine wpAnyH_ready (rs := [10]) (by kernel_rfl) (by simp) ?_
                refine AllReadyH.cons rfl (fun K hK => ?_) (AllReadyH.nil)
                have hsz := HX.out.size
                refine step_append elShare _ (by rfl) _ _ (by rfl) ws.heap.size O2 Q d2 (k + 1) (f.sh.length - k - 1) (0) (ShareK.row (f.sh.take k) ++ ShareK.enc x) (ShareK.row (f.sh.drop (k + 1))) (by rfl) (by rfl) (by rw [Kd.row_len, List.length_drop]; show _ * 3 = _; omega) HO2.out (rows_dropK ShareK (HD.out.below (HB.out.trans (HX.out.mono (by omega)))) HQ.out) share_one hsz (by omega) ?_
                intro O3 d3 y5 own1 hb
                have HO3 := Lib.hid own1
                have HF := Lib.hid hb
                have HBN := Lib.hid (HX.out.trans hb)
                clear own1 hb
                (first | refine hK.out _ _ ?_ (fun hHeld1 => ?_) | (go_wp2_with fail; refine hK.out _ _ ?_ (fun hHeld1 => ?_)))
                · ((try dsimp only); exact KS2 HBN.out)
                clear hK K hHeld
                have hHeld := hHeld1
                clear hHeld1
                try simp only [Act.put, List.setIfInBounds_toArray, List.set_cons_zero, List.set_cons_succ]
                replace HX := Lib.hid (HX.out.trans HF.out)
                replace HBO := Lib.hid (HBO.out.below HF.out hbo)
                clear hsz
                have o4 := HBO.out.1 4 _ rfl
                have z4 := HBO.out.2 4
                refine take_yes (i := 11) (d := 57) (v := ?_) rfl rfl (by kernel_rfl) (by kernel_rfl) (by kernel_rfl) (fun _ _ _ h => h) (by kernel_rfl) ?_ hHeld ?_
                rotate_left
                · (intro w hSw; (try dsimp only at hSw); go_simp; try (with_reducible rfl))
                try simp only [Act.put, List.setIfInBounds_toArray, List.set_cons_zero, List.set_cons_succ]
                refine wpAnyH_ready (rs := [12]) (by kernel_rfl) (by simp) ?_
                refine AllReadyH.cons rfl (fun K hK => ?_) (AllReadyH.nil)
                try go_simp
                clear o4 z4
                (first | refine hK.out _ _ ?_ (fun hHeld1 => ?_) | (go_wp2_with fail; refine hK.out _ _ ?_ (fun hHeld1 => ?_)))
                · ((try dsimp only); exact KS ((HX.out.mono hbo1).setCell (Nat.le_refl _) _))
                clear hK K hHeld
                have hHeld := hHeld1
                clear hHeld1
                try simp only [Act.put, List.setIfInBounds_toArray, List.set_cons_zero, List.set_cons_succ]
                have HBN := Lib.hid hHeld.1
                replace HBO := Lib.hid (HBO.out.set (k := 4) (by simp) (.slice O3 (k + 1 + (f.sh.length - k - 1)) d3))
                replace HO3 := Lib.hid (ownsRow_setCell_below HO3.out (a := ⟨w1.heap.size, 4, none⟩) hbo (.slice O3 (k + 1 + (f.sh.length - k - 1)) d3))
                generalize y5.setCell ⟨w1.heap.size, 4, none⟩ (.slice O3 (k + 1 + (f.sh.length - k - 1)) d3) = y6 at *
                refine wpAnyH_done (by kernel_rfl) ?_ _
                refine NoPanic.normal ?_
                clear hHeld
                have hn3 : k + 1 + (f.sh.length - k - 1) = (putS x f.sh).length := by rw [HPT.out, List.length_append, List.length_cons, List.length_take, List.length_drop, Nat.min_eq_left (by omega)]; omega
                have HR3 := Lib.hid (show ShareK.row (f.sh.take k) ++ ShareK.enc x ++ ShareK.row (f.sh.drop (k + 1)) = ShareK.row (putS x f.sh) by rw [HPT.out, Kd.row_append, show x :: f.sh.drop (k + 1) = [x] ++ f.sh.drop (k + 1) from rfl, Kd.row_append, Kd.row_one, List.append_assoc])
                rw [HR3.out, hn3] at HO3
                rw [hn3] at HBO
                clear HR3
                have HBT := Lib.hid (HB.out.trans (HBN.out.mono (by omega)))
                have NZ2 := Lib.hid (NZ.out.below HBN.out (by omega))
                have HA3 := Lib.hid (own_under HA1.out HAU.out HBN.out (Nat.le_refl _))
                have hszf := HBT.out.size
                have o0 := HBO.out.1 0 _ rfl
                have o1 := HBO.out.1 1 _ rfl
                have o2 := HBO.out.1 2 _ rfl
                have o3 := HBO.out.1 3 _ rfl
                have o4 := HBO.out.1 4 _ rfl
                have r0 := NZ2.out.1 0 _ rfl
                have r1 := NZ2.out.1 1 _ rfl
                have r2 := NZ2.out.1 2 _ rfl
                have r3 := NZ2.out.1 3 _ rfl
                have r4 := NZ2.out.1 4 _ rfl
                have q0 := NZ2.out.2 0
                have q1 := NZ2.out.2 1
                have q2 := NZ2.out.2 2
                have q3 := NZ2.out.2 3
                have q4 := NZ2.out.2 4
                rw [hn3]
                go_wp2
                clear o0 r0 q0 o1 r1 q1 o2 r2 q2 o3 r3 q3 o4 r4 q4
                have KZ := NZ2.out.set5 (.int .i64 f.t) (.int .i64 f.s) (.int .i64 f.sp) (.slice A1 f.wt.length c1) (.slice O3 (putS x f.sh).length d3)
                have k0 := KZ.1 0 _ rfl
                have k1 := KZ.1 1 _ rfl
                have k2 := KZ.1 2 _ rfl
                have k3 := KZ.1 3 _ rfl
                have k4 := KZ.1 4 _ rfl
                refine bodyPost_ret (v := .agg #[.int .i64 f.t, .int .i64 f.s, .int .i64 f.sp, .slice A1 f.wt.length c1, .slice O3 (putS x f.sh).length d3]) (by simp [results, Try.results59, go_sem, k0, k1, k2, k3, k4]) rfl ?_
                clear k0 k1 k2 k3 k4 KZ
                exact ⟨A1, c1, O3, d3, rfl, Ow.mk (K := IntK) (own_fin_old5 (L := w.heap.size) HA3.out (by omega) (by omega) _ _ _ _ _) hn (fun _ _ => trivial), Ow.mk (K := ShareK) (own_fin_old5 (L := w.heap.size) HO3.out (by omega) (by omega) _ _ _ _ _) (by show (putS x f.sh).length ≤ _; rw [← hn3]; omega) (fun _ _ => trivial), below_set5 HBT.out (by omega) _ _ _ _ _⟩
            · try go_simp
              (first | refine hK.out _ _ ?_ (fun hHeld1 => ?_) | (go_wp2_with fail; refine hK.out _ _ ?_ (fun hHeld1 => ?_)))
              · ((try dsimp only); exact KS2 (HX.out.trans ((below1 ud _).mono HX.out.size)))
              clear hK K hHeld
              have hHeld := hHeld1
              clear hHeld1
              try simp only [Act.put, List.setIfInBounds_toArray, List.set_cons_zero, List.set_cons_succ]
              have hsz := HX.out.size
              have hb := below1 ud (.cells #[.int .i64 x.m, .int .i64 x.t, .int .i64 x.s] 43)
              have HXC := Lib.hid (cells_encS ud x 43 ud.heap.size rfl)
              have hb := hb.mono hsz
              replace HX := Lib.hid (HX.out.trans hb)
              replace HBO := Lib.hid (HBO.out.below hb hbo)
              clear hb hsz
              generalize (ud.alloc (.cells #[.int .i64 x.m, .int .i64 x.t, .int .i64 x.s] 43)) = y1 at *
              generalize ud.heap.size = gx at *
              refine wpAnyH_ready (rs := [0]) (by kernel_rfl) (by simp) ?_
              refine AllReadyH.cons rfl (fun K hK => ?_) (AllReadyH.nil)
              try go_simp
              (first | refine hK.out _ _ ?_ (fun hHeld1 => ?_) | (go_wp2_with fail; refine hK.out _ _ ?_ (fun hHeld1 => ?_)))
              · ((try dsimp only); exact KS2 (HX.out.trans ((below1 y1 _).mono HX.out.size)))
              clear hK K hHeld
              have hHeld := hHeld1
              clear hHeld1
              try simp only [Act.put, List.setIfInBounds_toArray, List.set_cons_zero, List.set_cons_succ]
              have hsz := HX.out.size
              have hb := below1 y1 (.cells #[] 43)
              replace HXC := Lib.hid (HXC.out.below hb)
              have HZ := Lib.hid (own_nil_lit y1 ws.heap.size y1.heap.size 43 3 rfl hsz)
              have hb := hb.mono hsz
              replace HX := Lib.hid (HX.out.trans hb)
              replace HBO := Lib.hid (HBO.out.below hb hbo)
              clear hb hsz
              generalize (y1.alloc (.cells #[] 43)) = y2 at *
              generalize y1.heap.size = gz at *
              refine wpAnyH_ready (rs := [5]) (by kernel_rfl) (by simp) ?_
              refine AllReadyH.cons rfl (fun K hK => ?_) (AllReadyH.nil)
              have hsz := HX.out.size
              refine step_append_lit elShare _ (by rfl) _ _ (by rfl) ws.heap.size gz (some a) k d (ShareK.row (f.sh.take k)) (by rfl) (by rfl) (by rw [Kd.row_len, List.length_take, Nat.min_eq_left (by omega)]; rfl) HZ.out (rows_takeK ShareK (HD.out.below (HB.out.trans (HX.out.mono (by omega))))) share_one hsz (by omega) ?_
              intro O1 d1 y3 own1 hb hq1
              have HO1 := Lib.hid own1
              have HF := Lib.hid hb
              have HBN := Lib.hid (HX.out.trans (hb.mono hsz))
              clear own1 hb hq1
              (first | refine hK.out _ _ ?_ (fun hHeld1 => ?_) | (go_wp2_with fail; refine hK.out _ _ ?_ (fun hHeld1 => ?_)))
              · ((try dsimp only); exact KS2 HBN.out)
              clear hK K hHeld
              have hHeld := hHeld1
              clear hHeld1
              try simp only [Act.put, List.setIfInBounds_toArray, List.set_cons_zero, List.set_cons_succ]
              replace HXC := Lib.hid (HXC.out.below HF.out)
              replace HX := Lib.hid (HX.out.trans (HF.out.mono hsz))
              replace HBO := Lib.hid (HBO.out.below (HF.out.mono hsz) hbo)
              clear hsz
              refine wpAnyH_ready (rs := [8]) (by kernel_rfl) (by simp) ?_
              refine AllReadyH.cons rfl (fun K hK => ?_) (AllReadyH.nil)
              have hsz := HX.out.size
              refine step_append elShare _ (by rfl) _ _ (by rfl) ws.heap.size O1 (some ⟨gx, 0, none⟩) d1 k 1 1 (ShareK.row (f.sh.take k)) (ShareK.enc x) (by rfl) (by rfl) rfl HO1.out HXC.out (fun u hu => share_one (xs := [x]) u (by rw [Kd.row_one]; exact hu)) hsz (by omega) ?_
              intro O2 d2 y4 own1 hb
              have HO2 := Lib.hid own1
              have HF := Lib.hid hb
              have HBN := Lib.hid (HX.out.trans hb)
              clear own1 hb
              (first | refine hK.out _ _ ?_ (fun hHeld1 => ?_) | (go_wp2_with fail; refine hK.out _ _ ?_ (fun hHeld1 => ?_)))
              · ((try dsimp only); exact KS2 HBN.out)
              clear hK K hHeld
              have hHeld := hHeld1
              clear hHeld1
              try simp only [Act.put, List.setIfInBounds_toArray, List.set_cons_zero, List.set_cons_succ]
              replace HX := Lib.hid (HX.out.trans HF.out)
              replace HBO := Lib.hid (HBO.out.below HF.out hbo)
              clear hsz
              refine wpAnyH_ready (rs := [10]) (by kernel_rfl) (by simp) ?_
              refine AllReadyH.cons rfl (fun K hK => ?_) (AllReadyH.nil)
              have hsz := HX.out.size
              refine step_append elShare _ (by rfl) _ _ (by rfl) ws.heap.size O2 Q d2 (k + 1) (f.sh.length - k - 1) (0) (ShareK.row (f.sh.take k) ++ ShareK.enc x) (ShareK.row (f.sh.drop (k + 1))) (by rfl) (by rfl) (by rw [Kd.row_len, List.length_drop]; show _ * 3 = _; omega) HO2.out (rows_dropK ShareK (HD.out.below (HB.out.trans (HX.out.mono (by omega)))) HQ.out) share_one hsz (by omega) ?_
              intro O3 d3 y5 own1 hb
              have HO3 := Lib.hid own1
              have HF := Lib.hid hb
              have HBN := Lib.hid (HX.out.trans hb)
              clear own1 hb
              (first | refine hK.out _ _ ?_ (fun hHeld1 => ?_) | (go_wp2_with fail; refine hK.out _ _ ?_ (fun hHeld1 => ?_)))
              · ((try dsimp only); exact KS2 HBN.out)
              clear hK K hHeld
              have hHeld := hHeld1
              clear hHeld1
              try simp only [Act.put, List.setIfInBounds_toArray, List.set_cons_zero, List.set_cons_succ]
              replace HX := Lib.hid (HX.out.trans HF.out)
              replace HBO := Lib.hid (HBO.out.below HF.out hbo)
              clear hsz
              have o4 := HBO.out.1 4 _ rfl
              have z4 := HBO.out.2 4
              refine take_yes (i := 11) (d := 57) (v := ?_) rfl rfl (by kernel_rfl) (by kernel_rfl) (by kernel_rfl) (fun _ _ _ h => h) (by kernel_rfl) ?_ hHeld ?_
              rotate_left
              · (intro w hSw; (try dsimp only at hSw); go_simp; try (with_reducible rfl))
              try simp only [Act.put, List.setIfInBounds_toArray, List.set_cons_zero, List.set_cons_succ]
              refine wpAnyH_ready (rs := [12]) (by kernel_rfl) (by simp) ?_
              refine AllReadyH.cons rfl (fun K hK => ?_) (AllReadyH.nil)
              try go_simp
              clear o4 z4
              (first | refine hK.out _ _ ?_ (fun hHeld1 => ?_) | (go_wp2_with fail; refine hK.out _ _ ?_ (fun hHeld1 => ?_)))
              · ((try dsimp only); exact KS ((HX.out.mono hbo1).setCell (Nat.le_refl _) _))
              clear hK K hHeld
              have hHeld := hHeld1
              clear hHeld1
              try simp only [Act.put, List.setIfInBounds_toArray, List.set_cons_zero, List.set_cons_succ]
              have HBN := Lib.hid hHeld.1
              replace HBO := Lib.hid (HBO.out.set (k := 4) (by simp) (.slice O3 (k + 1 + (f.sh.length - k - 1)) d3))
              replace HO3 := Lib.hid (ownsRow_setCell_below HO3.out (a := ⟨w1.heap.size, 4, none⟩) hbo (.slice O3 (k + 1 + (f.sh.length - k - 1)) d3))
              generalize y5.setCell ⟨w1.heap.size, 4, none⟩ (.slice O3 (k + 1 + (f.sh.length - k - 1)) d3) = y6 at *
              refine wpAnyH_done (by kernel_rfl) ?_ _
              refine NoPanic.normal ?_
              clear hHeld
              have hn3 : k + 1 + (f.sh.length - k - 1) = (putS x f.sh).length := by rw [HPT.out, List.length_append, List.length_cons, List.length_take, List.length_drop, Nat.min_eq_left (by omega)]; omega
              have HR3 := Lib.hid (show ShareK.row (f.sh.take k) ++ ShareK.enc x ++ ShareK.row (f.sh.drop (k + 1)) = ShareK.row (putS x f.sh) by rw [HPT.out, Kd.row_append, show x :: f.sh.drop (k + 1) = [x] ++ f.sh.drop (k + 1) from rfl, Kd.row_append, Kd.row_one, List.append_assoc])
              rw [HR3.out, hn3] at HO3
              rw [hn3] at HBO
              clear HR3
              have HBT := Lib.hid (HB.out.trans (HBN.out.mono (by omega)))
              have NZ2 := Lib.hid (NZ.out.below HBN.out (by omega))
              have HA3 := Lib.hid (own_under HA1.out HAU.out HBN.out (Nat.le_refl _))
              have hszf := HBT.out.size
              have o0 := HBO.out.1 0 _ rfl
              have o1 := HBO.out.1 1 _ rfl
              have o2 := HBO.out.1 2 _ rfl
              have o3 := HBO.out.1 3 _ rfl
              have o4 := HBO.out.1 4 _ rfl
              have r0 := NZ2.out.1 0 _ rfl
              have r1 := NZ2.out.1 1 _ rfl
              have r2 := NZ2.out.1 2 _ rfl
              have r3 := NZ2.out.1 3 _ rfl
              have r4 := NZ2.out.1 4 _ rfl
              have q0 := NZ2.out.2 0
              have q1 := NZ2.out.2 1
              have q2 := NZ2.out.2 2
              have q3 := NZ2.out.2 3
              have q4 := NZ2.out.2 4
              rw [hn3]
              go_wp2
              clear o0 r0 q0 o1 r1 q1 o2 r2 q2 o3 r3 q3 o4 r4 q4
              have KZ := NZ2.out.set5 (.int .i64 f.t) (.int .i64 f.s) (.int .i64 f.sp) (.slice A1 f.wt.length c1) (.slice O3 (putS x f.sh).length d3)
              have k0 := KZ.1 0 _ rfl
              have k1 := KZ.1 1 _ rfl
              have k2 := KZ.1 2 _ rfl
              have k3 := KZ.1 3 _ rfl
              have k4 := KZ.1 4 _ rfl
              refine bodyPost_ret (v := .agg #[.int .i64 f.t, .int .i64 f.s, .int .i64 f.sp, .slice A1 f.wt.length c1, .slice O3 (putS x f.sh).length d3]) (by simp [results, Try.results59, go_sem, k0, k1, k2, k3, k4]) rfl ?_
              clear k0 k1 k2 k3 k4 KZ
              exact ⟨A1, c1, O3, d3, rfl, Ow.mk (K := IntK) (own_fin_old5 (L := w.heap.size) HA3.out (by omega) (by omega) _ _ _ _ _) hn (fun _ _ => trivial), Ow.mk (K := ShareK) (own_fin_old5 (L := w.heap.size) HO3.out (by omega) (by omega) _ _ _ _ _) (by show (putS x f.sh).length ≤ _; rw [← hn3]; omega) (fun _ _ => trivial), below_set5 HBT.out (by omega) _ _ _ _ _⟩
          · go_wp2
            go_quiet (fail)
            obtain ⟨n1, hn1⟩ : ∃ n, n = nq := ⟨_, rfl⟩
            subst hn1
            go_wp2
            go_quiet (fail)
            go_wp2
            obtain ⟨Q, hQ⟩ : ∃ Q, Hid (some (⟨(a.add (k * 3)).block, (a.add (k * 3)).off + 3, none⟩ : Addr) = Q) := ⟨_, Lib.hid rfl⟩
            have HQ := Lib.hid (show k + 1 < f.sh.length → Q = (some a).map (·.add ((k + 1) * 3)) from fun h0 => by rw [← hQ.out]; show _ = some (a.add ((k + 1) * 3)); rw [show (k + 1) * 3 = k * 3 + 3 by omega, add_split (by omega)])
            rw [hQ.out]
            have HAL2 := Lib.hid (HAL.out.drewN (n1 + nq))
            clear b4 x0
            generalize wr.drewN (n1 + nq) = ws at *
            replace NF := Lib.hid (HAL2.out.box NF.out)
            replace NX := Lib.hid (HAL2.out.box NX.out)
            replace NZ := Lib.hid (HAL2.out.box NZ.out)
            replace HBO := Lib.hid (HAL2.out.box HBO.out)
            replace HA1 := Lib.hid (HAL2.out.own HA1.out)
            replace HB := Lib.hid (show Below w.heap.size w ws from ⟨HAL2.out.os.trans HB.out.os, HAL2.out.tape.trans HB.out.tape, HAL2.out.output.trans HB.out.output, by rw [HAL2.out.heap]; exact HB.out.size, fun i hi => by rw [HAL2.out.heap]; exact HB.out.block i hi⟩)
            have hbo : w1.heap.size < ws.heap.size := by rw [HAL2.out.heap]; exact hbo0
            replace hbo1 := Nat.le_of_lt hbo
            clear HAL HAL2 GF GX HBr hbo0
            have KS : ∀ {w' : World}, Below w1.heap.size ws w' → (Below w1.heap.size ws w' ∧ (∀ o, w'.cell? ⟨w.heap.size, o, none⟩ = ws.cell? ⟨w.heap.size, o, none⟩) ∧ (∀ o, w'.cell? ⟨w.heap.size + 1, o, none⟩ = ws.cell? ⟨w.heap.size + 1, o, none⟩)) := fun h => ⟨h, fun o => h.cell (p := ⟨w.heap.size, o, none⟩) (by show w.heap.size < _; omega), fun o => h.cell (p := ⟨w.heap.size + 1, o, none⟩) (by show w.heap.size + 1 < _; omega)⟩
            have KS2 : ∀ {w' : World}, Below ws.heap.size ws w' → (Below w1.heap.size ws w' ∧ (∀ o, w'.cell? ⟨w.heap.size, o, none⟩ = ws.cell? ⟨w.heap.size, o, none⟩) ∧ (∀ o, w'.cell? ⟨w.heap.size + 1, o, none⟩ = ws.cell? ⟨w.heap.size + 1, o, none⟩)) := fun h => KS (h.mono hbo1)
            have b4 := NF.out.1 4 _ rfl
            have x0 := NX.out.1 0 _ rfl
            have x1 := NX.out.1 1 _ rfl
            have x2 := NX.out.1 2 _ rfl
            refine wp_region_noPanic ?_
            refine wp_region_held_drew (S := (fun w' => Below w1.heap.size ws w' ∧ (∀ o, w'.cell? ⟨w.heap.size, o, none⟩ = ws.cell? ⟨w.heap.size, o, none⟩) ∧ (∀ o, w'.cell? ⟨w.heap.size + 1, o, none⟩ = ws.cell? ⟨w.heap.size + 1, o, none⟩))) (by kernel_rfl) ?_ (fun hHeld => ?_)
            · ((try dsimp only); exact KS (Below.refl _ _).drew)
            have HX := Lib.hid (show Below ws.heap.size ws ws.drew from (Below.refl _ _).drew)
            have HBO := Lib.hid HBO.out.drew
            generalize ws.drew = ud at *
            refine take_yes (i := 1) (d := 47) (v := ?_) rfl rfl (by kernel_rfl) (by kernel_rfl) (by kernel_rfl) (fun _ _ _ h => h) (by kernel_rfl) ?_ hHeld ?_
            rotate_left
            · (intro w hSw; (try dsimp only at hSw); go_simp; try (with_reducible rfl))
            try simp only [Act.put, List.setIfInBounds_toArray, List.set_cons_zero, List.set_cons_succ]
            refine take_yes (i := 2) (d := 48) (v := ?_) rfl rfl (by kernel_rfl) (by kernel_rfl) (by kernel_rfl) (fun _ _ _ h => h) (by kernel_rfl) ?_ hHeld ?_
            rotate_left
            · (intro w hSw; (try dsimp only at hSw); go_simp; try (with_reducible rfl))
            try simp only [Act.put, List.setIfInBounds_toArray, List.set_cons_zero, List.set_cons_succ]
            refine take_yes (i := 3) (d := 49) (v := ?_) rfl rfl (by kernel_rfl) (by kernel_rfl) (by kernel_rfl) (fun _ _ _ h => h) (by kernel_rfl) ?_ hHeld ?_
            rotate_left
            · (intro w hSw; (try dsimp only at hSw); go_simp; try (with_reducible rfl))
            try simp only [Act.put, List.setIfInBounds_toArray, List.set_cons_zero, List.set_cons_succ]
            refine take_yes (i := 4) (d := 50) (v := ?_) rfl rfl (by kernel_rfl) (by kernel_rfl) (by kernel_rfl) (fun _ _ _ h => h) (by kernel_rfl) ?_ hHeld ?_
            rotate_left
            · (intro w hSw; (try dsimp only at hSw); go_simp; try (with_reducible rfl))
            try simp only [Act.put, List.setIfInBounds_toArray, List.set_cons_zero, List.set_cons_succ]
            refine take_yes (i := 6) (d := 52) (v := ?_) rfl rfl (by kernel_rfl) (by kernel_rfl) (by kernel_rfl) (fun _ _ _ h => h) (by kernel_rfl) ?_ hHeld ?_
            rotate_left
            · (intro w hSw; (try dsimp only at hSw); go_simp; try (with_reducible rfl))
            try simp only [Act.put, List.setIfInBounds_toArray, List.set_cons_zero, List.set_cons_succ]
            refine take_yes (i := 9) (d := 55) (v := ?_) rfl rfl (by kernel_rfl) (by kernel_rfl) (by kernel_rfl) (fun _ _ _ h => h) (by kernel_rfl) ?_ hHeld ?_
            rotate_left
            · (intro w hSw; (try dsimp only at hSw); go_simp; try (with_reducible rfl))
            try simp only [Act.put, List.setIfInBounds_toArray, List.set_cons_zero, List.set_cons_succ]
            refine wpAnyH_ready (rs := [0, 7]) (by kernel_rfl) (by simp) ?_
            refine AllReadyH.cons rfl (fun K hK => ?_) (AllReadyH.cons rfl (fun K hK => ?_) (AllReadyH.nil))
            · try go_simp
              (first | refine hK.out _ _ ?_ (fun hHeld1 => ?_) | (go_wp2_with fail; refine hK.out _ _ ?_ (fun hHeld1 => ?_)))
              · ((try dsimp only); exact KS2 (HX.out.trans ((below1 ud _).mono HX.out.size)))
              clear hK K hHeld
              have hHeld := hHeld1
              clear hHeld1
              try simp only [Act.put, List.setIfInBounds_toArray, List.set_cons_zero, List.set_cons_succ]
              have hsz := HX.out.size
              have hb := below1 ud (.cells #[] 43)
              have HZ := Lib.hid (own_nil_lit ud ws.heap.size ud.heap.size 43 3 rfl hsz)
              have hb := hb.mono hsz
              replace HX := Lib.hid (HX.out.trans hb)
              replace HBO := Lib.hid (HBO.out.below hb hbo)
              clear hb hsz
              generalize (ud.alloc (.cells #[] 43)) = y1 at *
              generalize ud.heap.size = gz at *
              refine wpAnyH_ready (rs := [5, 7]) (by kernel_rfl) (by simp) ?_
              refine AllReadyH.cons rfl (fun K hK => ?_) (AllReadyH.cons rfl (fun K hK => ?_) (AllReadyH.nil))
              · have hsz := HX.out.size
                refine step_append_lit elShare _ (by rfl) _ _ (by rfl) ws.heap.size gz (some a) k d (ShareK.row (f.sh.take k)) (by rfl) (by rfl) (by rw [Kd.row_len, List.length_take, Nat.min_eq_left (by omega)]; rfl) HZ.out (rows_takeK ShareK (HD.out.below (HB.out.trans (HX.out.mono (by omega))))) share_one hsz (by omega) ?_
                intro O1 d1 y2 own1 hb hq1
                have HO1 := Lib.hid own1
                have HF := Lib.hid hb
                have HBN := Lib.hid (HX.out.trans (hb.mono hsz))
                clear own1 hb hq1
                (first | refine hK.out _ _ ?_ (fun hHeld1 => ?_) | (go_wp2_with fail; refine hK.out _ _ ?_ (fun hHeld1 => ?_)))
                · ((try dsimp only); exact KS2 HBN.out)
                clear hK K hHeld
                have hHeld := hHeld1
                clear hHeld1
                try simp only [Act.put, List.setIfInBounds_toArray, List.set_cons_zero, List.set_cons_succ]
                replace HX := Lib.hid (HX.out.trans (HF.out.mono hsz))
                replace HBO := Lib.hid (HBO.out.below (HF.out.mono hsz) hbo)
                clear hsz
                refine wpAnyH_ready (rs := [7]) (by kernel_rfl) (by simp) ?_
                refine AllReadyH.cons rfl (fun K hK => ?_) (AllReadyH.nil)
                try go_simp
                (first | refine hK.out _ _ ?_ (fun hHeld1 => ?_) | (go_wp2_with fail; refine hK.out _ _ ?_ (fun hHeld1 => ?_)))
                · ((try dsimp only); exact KS2 (HX.out.trans ((below1 y2 _).mono HX.out.size)))
                clear hK K hHeld
                have hHeld := hHeld1
                clear hHeld1
                try simp only [Act.put, List.setIfInBounds_toArray, List.set_cons_zero, List.set_cons_succ]
                have hsz := HX.out.size
                have hb := below1 y2 (.cells #[.int .i64 x.m, .int .i64 x.t, .int .i64 x.s] 43)
                replace HO1 := Lib.hid (own_keep HO1.out hb)
                have HXC := Lib.hid (cells_encS y2 x 43 y2.heap.size rfl)
                have hb := hb.mono hsz
                replace HX := Lib.hid (HX.out.trans hb)
                replace HBO := Lib.hid (HBO.out.below hb hbo)
                clear hb hsz
                generalize (y2.alloc (.cells #[.int .i64 x.m, .int .i64 x.t, .int .i64 x.s] 43)) = y3 at *
                generalize y2.heap.size = gx at *
                refine wpAnyH_ready (rs := [8]) (by kernel_rfl) (by simp) ?_
                refine AllReadyH.cons rfl (fun K hK => ?_) (AllReadyH.nil)
                have hsz := HX.out.size
                refine step_append elShare _ (by rfl) _ _ (by rfl) ws.heap.size O1 (some ⟨gx, 0, none⟩) d1 k 1 1 (ShareK.row (f.sh.take k)) (ShareK.enc x) (by rfl) (by rfl) rfl HO1.out HXC.out (fun u hu => share_one (xs := [x]) u (by rw [Kd.row_one]; exact hu)) hsz (by omega) ?_
                intro O2 d2 y4 own1 hb
                have HO2 := Lib.hid own1
                have HF := Lib.hid hb
                have HBN := Lib.hid (HX.out.trans hb)
                clear own1 hb
                (first | refine hK.out _ _ ?_ (fun hHeld1 => ?_) | (go_wp2_with fail; refine hK.out _ _ ?_ (fun hHeld1 => ?_)))
                · ((try dsimp only); exact KS2 HBN.out)
                clear hK K hHeld
                have hHeld := hHeld1
                clear hHeld1
                try simp only [Act.put, List.setIfInBounds_toArray, List.set_cons_zero, List.set_cons_succ]
                replace HX := Lib.hid (HX.out.trans HF.out)
                replace HBO := Lib.hid (HBO.out.below HF.out hbo)
                clear hsz
                refine wpAnyH_ready (rs := [10]) (by kernel_rfl) (by simp) ?_
                refine AllReadyH.cons rfl (fun K hK => ?_) (AllReadyH.nil)
                have hsz := HX.out.size
                refine step_append elShare _ (by rfl) _ _ (by rfl) ws.heap.size O2 Q d2 (k + 1) (f.sh.length - k - 1) (d - k - 1) (ShareK.row (f.sh.take k) ++ ShareK.enc x) (ShareK.row (f.sh.drop (k + 1))) (by rfl) (by rfl) (by rw [Kd.row_len, List.length_drop]; show _ * 3 = _; omega) HO2.out (rows_dropK ShareK (HD.out.below (HB.out.trans (HX.out.mono (by omega)))) HQ.out) share_one hsz (by omega) ?_
                intro O3 d3 y5 own1 hb
                have HO3 := Lib.hid own1
                have HF := Lib.hid hb
                have HBN := Lib.hid (HX.out.trans hb)
                clear own1 hb
                (first | refine hK.out _ _ ?_ (fun hHeld1 => ?_) | (go_wp2_with fail; refine hK.out _ _ ?_ (fun hHeld1 => ?_)))
                · ((try dsimp only); exact KS2 HBN.out)
                clear hK K hHeld
                have hHeld := hHeld1
                clear hHeld1
                try simp only [Act.put, List.setIfInBounds_toArray, List.set_cons_zero, List.set_cons_succ]
                replace HX := Lib.hid (HX.out.trans HF.out)
                replace HBO := Lib.hid (HBO.out.below HF.out hbo)
                clear hsz
                have o4 := HBO.out.1 4 _ rfl
                have z4 := HBO.out.2 4
                refine take_yes (i := 11) (d := 57) (v := ?_) rfl rfl (by kernel_rfl) (by kernel_rfl) (by kernel_rfl) (fun _ _ _ h => h) (by kernel_rfl) ?_ hHeld ?_
                rotate_left
                · (intro w hSw; (try dsimp only at hSw); go_simp; try (with_reducible rfl))
                try simp only [Act.put, List.setIfInBounds_toArray, List.set_cons_zero, List.set_cons_succ]
                refine wpAnyH_ready (rs := [12]) (by kernel_rfl) (by simp) ?_
                refine AllReadyH.cons rfl (fun K hK => ?_) (AllReadyH.nil)
                try go_simp
                clear o4 z4
                (first | refine hK.out _ _ ?_ (fun hHeld1 => ?_) | (go_wp2_with fail; refine hK.out _ _ ?_ (fun hHeld1 => ?_)))
                · ((try dsimp only); exact KS ((HX.out.mono hbo1).setCell (Nat.le_refl _) _))
                clear hK K hHeld
                have hHeld := hHeld1
                clear hHeld1
                try simp only [Act.put, List.setIfInBounds_toArray, List.set_cons_zero, List.set_cons_succ]
                have HBN := Lib.hid hHeld.1
                replace HBO := Lib.hid (HBO.out.set (k := 4) (by simp) (.slice O3 (k + 1 + (f.sh.length - k - 1)) d3))
                replace HO3 := Lib.hid (ownsRow_setCell_below HO3.out (a := ⟨w1.heap.size, 4, none⟩) hbo (.slice O3 (k + 1 + (f.sh.length - k - 1)) d3))
                generalize y5.setCell ⟨w1.heap.size, 4, none⟩ (.slice O3 (k + 1 + (f.sh.length - k - 1)) d3) = y6 at *
                refine wpAnyH_done (by kernel_rfl) ?_ _
                refine NoPanic.normal ?_
                clear hHeld
                have hn3 : k + 1 + (f.sh.length - k - 1) = (putS x f.sh).length := by rw [HPT.out, List.length_append, List.length_cons, List.length_take, List.length_drop, Nat.min_eq_left (by omega)]; omega
                have HR3 := Lib.hid (show ShareK.row (f.sh.take k) ++ ShareK.enc x ++ ShareK.row (f.sh.drop (k + 1)) = ShareK.row (putS x f.sh) by rw [HPT.out, Kd.row_append, show x :: f.sh.drop (k + 1) = [x] ++ f.sh.drop (k + 1) from rfl, Kd.row_append, Kd.row_one, List.append_assoc])
                rw [HR3.out, hn3] at HO3
                rw [hn3] at HBO
                clear HR3
                have HBT := Lib.hid (HB.out.trans (HBN.out.mono (by omega)))
                have NZ2 := Lib.hid (NZ.out.below HBN.out (by omega))
                have HA3 := Lib.hid (own_under HA1.out HAU.out HBN.out (Nat.le_refl _))
                have hszf := HBT.out.size
                have o0 := HBO.out.1 0 _ rfl
                have o1 := HBO.out.1 1 _ rfl
                have o2 := HBO.out.1 2 _ rfl
                have o3 := HBO.out.1 3 _ rfl
                have o4 := HBO.out.1 4 _ rfl
                have r0 := NZ2.out.1 0 _ rfl
                have r1 := NZ2.out.1 1 _ rfl
                have r2 := NZ2.out.1 2 _ rfl
                have r3 := NZ2.out.1 3 _ rfl
                have r4 := NZ2.out.1 4 _ rfl
                have q0 := NZ2.out.2 0
                have q1 := NZ2.out.2 1
                have q2 := NZ2.out.2 2
                have q3 := NZ2.out.2 3
                have q4 := NZ2.out.2 4
                rw [hn3]
                go_wp2
                clear o0 r0 q0 o1 r1 q1 o2 r2 q2 o3 r3 q3 o4 r4 q4
                have KZ := NZ2.out.set5 (.int .i64 f.t) (.int .i64 f.s) (.int .i64 f.sp) (.slice A1 f.wt.length c1) (.slice O3 (putS x f.sh).length d3)
                have k0 := KZ.1 0 _ rfl
                have k1 := KZ.1 1 _ rfl
                have k2 := KZ.1 2 _ rfl
                have k3 := KZ.1 3 _ rfl
                have k4 := KZ.1 4 _ rfl
                refine bodyPost_ret (v := .agg #[.int .i64 f.t, .int .i64 f.s, .int .i64 f.sp, .slice A1 f.wt.length c1, .slice O3 (putS x f.sh).length d3]) (by simp [results, Try.results59, go_sem, k0, k1, k2, k3, k4]) rfl ?_
                clear k0 k1 k2 k3 k4 KZ
                exact ⟨A1, c1, O3, d3, rfl, Ow.mk (K := IntK) (own_fin_old5 (L := w.heap.size) HA3.out (by omega) (by omega) _ _ _ _ _) hn (fun _ _ => trivial), Ow.mk (K := ShareK) (own_fin_old5 (L := w.heap.size) HO3.out (by omega) (by omega) _ _ _ _ _) (by show (putS x f.sh).length ≤ _; rw [← hn3]; omega) (fun _ _ => trivial), below_set5 HBT.out (by omega) _ _ _ _ _⟩
              · try go_simp
                (first | refine hK.out _ _ ?_ (fun hHeld1 => ?_) | (go_wp2_with fail; refine hK.out _ _ ?_ (fun hHeld1 => ?_)))
                · ((try dsimp only); exact KS2 (HX.out.trans ((below1 y1 _).mono HX.out.size)))
                clear hK K hHeld
                have hHeld := hHeld1
                clear hHeld1
                try simp only [Act.put, List.setIfInBounds_toArray, List.set_cons_zero, List.set_cons_succ]
                have hsz := HX.out.size
                have hb := below1 y1 (.cells #[.int .i64 x.m, .int .i64 x.t, .int .i64 x.s] 43)
                replace HZ := Lib.hid (own_keep HZ.out hb)
                have HXC := Lib.hid (cells_encS y1 x 43 y1.heap.size rfl)
                have hb := hb.mono hsz
                replace HX := Lib.hid (HX.out.trans hb)
                replace HBO := Lib.hid (HBO.out.below hb hbo)
                clear hb hsz
                generalize (y1.alloc (.cells #[.int .i64 x.m, .int .i64 x.t, .int .i64 x.s] 43)) = y2 at *
                generalize y1.heap.size = gx at *
                refine wpAnyH_ready (rs := [5]) (by kernel_rfl) (by simp) ?_
                refine AllReadyH.cons rfl (fun K hK => ?_) (AllReadyH.nil)
                have hsz := HX.out.size
                refine step_append_lit elShare _ (by rfl) _ _ (by rfl) ws.heap.size gz (some a) k d (ShareK.row (f.sh.take k)) (by rfl) (by rfl) (by rw [Kd.row_len, List.length_take, Nat.min_eq_left (by omega)]; rfl) HZ.out (rows_takeK ShareK (HD.out.below (HB.out.trans (HX.out.mono (by omega))))) share_one hsz (by omega) ?_
                intro O1 d1 y3 own1 hb hq1
                have HO1 := Lib.hid own1
                have HF := Lib.hid hb
                have HBN := Lib.hid (HX.out.trans (hb.mono hsz))
                clear own1 hb hq1
                (first | refine hK.out _ _ ?_ (fun hHeld1 => ?_) | (go_wp2_with fail; refine hK.out _ _ ?_ (fun hHeld1 => ?_)))
                · ((try dsimp only); exact KS2 HBN.out)
                clear hK K hHeld
                have hHeld := hHeld1
                clear hHeld1
                try simp only [Act.put, List.setIfInBounds_toArray, List.set_cons_zero, List.set_cons_succ]
                replace HXC := Lib.hid (HXC.out.below HF.out)
                replace HX := Lib.hid (HX.out.trans (HF.out.mono hsz))
                replace HBO := Lib.hid (HBO.out.below (HF.out.mono hsz) hbo)
                clear hsz
                refine wpAnyH_ready (rs := [8]) (by kernel_rfl) (by simp) ?_
                refine AllReadyH.cons rfl (fun K hK => ?_) (AllReadyH.nil)
                have hsz := HX.out.size
                refine step_append elShare _ (by rfl) _ _ (by rfl) ws.heap.size O1 (some ⟨gx, 0, none⟩) d1 k 1 1 (ShareK.row (f.sh.take k)) (ShareK.enc x) (by rfl) (by rfl) rfl HO1.out HXC.out (fun u hu => share_one (xs := [x]) u (by rw [Kd.row_one]; exact hu)) hsz (by omega) ?_
                intro O2 d2 y4 own1 hb
                have HO2 := Lib.hid own1
                have HF := Lib.hid hb
                have HBN := Lib.hid (HX.out.trans hb)
                clear own1 hb
                (first | refine hK.out _ _ ?_ (fun hHeld1 => ?_) | (go_wp2_with fail; refine hK.out _ _ ?_ (fun hHeld1 => ?_)))
                · ((try dsimp only); exact KS2 HBN.out)
                clear hK K hHeld
                have hHeld := hHeld1
                clear hHeld1
                try simp only [Act.put, List.setIfInBounds_toArray, List.set_cons_zero, List.set_cons_succ]
                replace HX := Lib.hid (HX.out.trans HF.out)
                replace HBO := Lib.hid (HBO.out.below HF.out hbo)
                clear hsz
                refine wpAnyH_ready (rs := [10]) (by kernel_rfl) (by simp) ?_
                refine AllReadyH.cons rfl (fun K hK => ?_) (AllReadyH.nil)
                have hsz := HX.out.size
                refine step_append elShare _ (by rfl) _ _ (by rfl) ws.heap.size O2 Q d2 (k + 1) (f.sh.length - k - 1) (d - k - 1) (ShareK.row (f.sh.take k) ++ ShareK.enc x) (ShareK.row (f.sh.drop (k + 1))) (by rfl) (by rfl) (by rw [Kd.row_len, List.length_drop]; show _ * 3 = _; omega) HO2.out (rows_dropK ShareK (HD.out.below (HB.out.trans (HX.out.mono (by omega)))) HQ.out) share_one hsz (by omega) ?_
                intro O3 d3 y5 own1 hb
                have HO3 := Lib.hid own1
                have HF := Lib.hid hb
                have HBN := Lib.hid (HX.out.trans hb)
                clear own1 hb
                (first | refine hK.out _ _ ?_ (fun hHeld1 => ?_) | (go_wp2_with fail; refine hK.out _ _ ?_ (fun hHeld1 => ?_)))
                · ((try dsimp only); exact KS2 HBN.out)
                clear hK K hHeld
                have hHeld := hHeld1
                clear hHeld1
                try simp only [Act.put, List.setIfInBounds_toArray, List.set_cons_zero, List.set_cons_succ]
                replace HX := Lib.hid (HX.out.trans HF.out)
                replace HBO := Lib.hid (HBO.out.below HF.out hbo)
                clear hsz
                have o4 := HBO.out.1 4 _ rfl
                have z4 := HBO.out.2 4
                refine take_yes (i := 11) (d := 57) (v := ?_) rfl rfl (by kernel_rfl) (by kernel_rfl) (by kernel_rfl) (fun _ _ _ h => h) (by kernel_rfl) ?_ hHeld ?_
                rotate_left
                · (intro w hSw; (try dsimp only at hSw); go_simp; try (with_reducible rfl))
                try simp only [Act.put, List.setIfInBounds_toArray, List.set_cons_zero, List.set_cons_succ]
                refine wpAnyH_ready (rs := [12]) (by kernel_rfl) (by simp) ?_
                refine AllReadyH.cons rfl (fun K hK => ?_) (AllReadyH.nil)
                try go_simp
                clear o4 z4
                (first | refine hK.out _ _ ?_ (fun hHeld1 => ?_) | (go_wp2_with fail; refine hK.out _ _ ?_ (fun hHeld1 => ?_)))
                · ((try dsimp only); exact KS ((HX.out.mono hbo1).setCell (Nat.le_refl _) _))
                clear hK K hHeld
                have hHeld := hHeld1
                clear hHeld1
                try simp only [Act.put, List.setIfInBounds_toArray, List.set_cons_zero, List.set_cons_succ]
                have HBN := Lib.hid hHeld.1
                replace HBO := Lib.hid (HBO.out.set (k := 4) (by simp) (.slice O3 (k + 1 + (f.sh.length - k - 1)) d3))
                replace HO3 := Lib.hid (ownsRow_setCell_below HO3.out (a := ⟨w1.heap.size, 4, none⟩) hbo (.slice O3 (k + 1 + (f.sh.length - k - 1)) d3))
                generalize y5.setCell ⟨w1.heap.size, 4, none⟩ (.slice O3 (k + 1 + (f.sh.length - k - 1)) d3) = y6 at *
                refine wpAnyH_done (by kernel_rfl) ?_ _
                refine NoPanic.normal ?_
                clear hHeld
                have hn3 : k + 1 + (f.sh.length - k - 1) = (putS x f.sh).length := by rw [HPT.out, List.length_append, List.length_cons, List.length_take, List.length_drop, Nat.min_eq_left (by omega)]; omega
                have HR3 := Lib.hid (show ShareK.row (f.sh.take k) ++ ShareK.enc x ++ ShareK.row (f.sh.drop (k + 1)) = ShareK.row (putS x f.sh) by rw [HPT.out, Kd.row_append, show x :: f.sh.drop (k + 1) = [x] ++ f.sh.drop (k + 1) from rfl, Kd.row_append, Kd.row_one, List.append_assoc])
                rw [HR3.out, hn3] at HO3
                rw [hn3] at HBO
                clear HR3
                have HBT := Lib.hid (HB.out.trans (HBN.out.mono (by omega)))
                have NZ2 := Lib.hid (NZ.out.below HBN.out (by omega))
                have HA3 := Lib.hid (own_under HA1.out HAU.out HBN.out (Nat.le_refl _))
                have hszf := HBT.out.size
                have o0 := HBO.out.1 0 _ rfl
                have o1 := HBO.out.1 1 _ rfl
                have o2 := HBO.out.1 2 _ rfl
                have o3 := HBO.out.1 3 _ rfl
                have o4 := HBO.out.1 4 _ rfl
                have r0 := NZ2.out.1 0 _ rfl
                have r1 := NZ2.out.1 1 _ rfl
                have r2 := NZ2.out.1 2 _ rfl
                have r3 := NZ2.out.1 3 _ rfl
                have r4 := NZ2.out.1 4 _ rfl
                have q0 := NZ2.out.2 0
                have q1 := NZ2.out.2 1
                have q2 := NZ2.out.2 2
                have q3 := NZ2.out.2 3
                have q4 := NZ2.out.2 4
                rw [hn3]
                go_wp2
                clear o0 r0 q0 o1 r1 q1 o2 r2 q2 o3 r3 q3 o4 r4 q4
                have KZ := NZ2.out.set5 (.int .i64 f.t) (.int .i64 f.s) (.int .i64 f.sp) (.slice A1 f.wt.length c1) (.slice O3 (putS x f.sh).length d3)
                have k0 := KZ.1 0 _ rfl
                have k1 := KZ.1 1 _ rfl
                have k2 := KZ.1 2 _ rfl
                have k3 := KZ.1 3 _ rfl
                have k4 := KZ.1 4 _ rfl
                refine bodyPost_ret (v := .agg #[.int .i64 f.t, .int .i64 f.s, .int .i64 f.sp, .slice A1 f.wt.length c1, .slice O3 (putS x f.sh).length d3]) (by simp [results, Try.results59, go_sem, k0, k1, k2, k3, k4]) rfl ?_
                clear k0 k1 k2 k3 k4 KZ
                exact ⟨A1, c1, O3, d3, rfl, Ow.mk (K := IntK) (own_fin_old5 (L := w.heap.size) HA3.out (by omega) (by omega) _ _ _ _ _) hn (fun _ _ => trivial), Ow.mk (K := ShareK) (own_fin_old5 (L := w.heap.size) HO3.out (by omega) (by omega) _ _ _ _ _) (by show (putS x f.sh).length ≤ _; rw [← hn3]; omega) (fun _ _ => trivial), below_set5 HBT.out (by omega) _ _ _ _ _⟩
            · try go_simp
              (first | refine hK.out _ _ ?_ (fun hHeld1 => ?_) | (go_wp2_with fail; refine hK.out _ _ ?_ (fun hHeld1 => ?_)))
              · ((try dsimp only); exact KS2 (HX.out.trans ((below1 ud _).mono HX.out.size)))
              clear hK K hHeld
              have hHeld := hHeld1
              clear hHeld1
              try simp only [Act.put, List.setIfInBounds_toArray, List.set_cons_zero, List.set_cons_succ]
              have hsz := HX.out.size
              have hb := below1 ud (.cells #[.int .i64 x.m, .int .i64 x.t, .int .i64 x.s] 43)
              have HXC := Lib.hid (cells_encS ud x 43 ud.heap.size rfl)
              have hb := hb.mono hsz
              replace HX := Lib.hid (HX.out.trans hb)
              replace HBO := Lib.hid (HBO.out.below hb hbo)
              clear hb hsz
              generalize (ud.alloc (.cells #[.int .i64 x.m, .int .i64 x.t, .int .i64 x.s] 43)) = y1 at *
              generalize ud.heap.size = gx at *
              refine wpAnyH_ready (rs := [0]) (by kernel_rfl) (by simp) ?_
              refine AllReadyH.cons rfl (fun K hK => ?_) (AllReadyH.nil)
              try go_simp
              (first | refine hK.out _ _ ?_ (fun hHeld1 => ?_) | (go_wp2_with fail; refine hK.out _ _ ?_ (fun hHeld1 => ?_)))
              · ((try dsimp only); exact KS2 (HX.out.trans ((below1 y1 _).mono HX.out.size)))
              clear hK K hHeld
              have hHeld := hHeld1
              clear hHeld1
              try simp only [Act.put, List.setIfInBounds_toArray, List.set_cons_zero, List.set_cons_succ]
              have hsz := HX.out.size
              have hb := below1 y1 (.cells #[] 43)
              replace HXC := Lib.hid (HXC.out.below hb)
              have HZ := Lib.hid (own_nil_lit y1 ws.heap.size y1.heap.size 43 3 rfl hsz)
              have hb := hb.mono hsz
              replace HX := Lib.hid (HX.out.trans hb)
              replace HBO := Lib.hid (HBO.out.below hb hbo)
              clear hb hsz
              generalize (y1.alloc (.cells #[] 43)) = y2 at *
              generalize y1.heap.size = gz at *
              refine wpAnyH_ready (rs := [5]) (by kernel_rfl) (by simp) ?_
              refine AllReadyH.cons rfl (fun K hK => ?_) (AllReadyH.nil)
              have hsz := HX.out.size
              refine step_append_lit elShare _ (by rfl) _ _ (by rfl) ws.heap.size gz (some a) k d (ShareK.row (f.sh.take k)) (by rfl) (by rfl) (by rw [Kd.row_len, List.length_take, Nat.min_eq_left (by omega)]; rfl) HZ.out (rows_takeK ShareK (HD.out.below (HB.out.trans (HX.out.mono (by omega))))) share_one hsz (by omega) ?_
              intro O1 d1 y3 own1 hb hq1
              have HO1 := Lib.hid own1
              have HF := Lib.hid hb
              have HBN := Lib.hid (HX.out.trans (hb.mono hsz))
              clear own1 hb hq1
              (first | refine hK.out _ _ ?_ (fun hHeld1 => ?_) | (go_wp2_with fail; refine hK.out _ _ ?_ (fun hHeld1 => ?_)))
              · ((try dsimp only); exact KS2 HBN.out)
              clear hK K hHeld
              have hHeld := hHeld1
              clear hHeld1
              try simp only [Act.put, List.setIfInBounds_toArray, List.set_cons_zero, List.set_cons_succ]
              replace HXC := Lib.hid (HXC.out.below HF.out)
              replace HX := Lib.hid (HX.out.trans (HF.out.mono hsz))
              replace HBO := Lib.hid (HBO.out.below (HF.out.mono hsz) hbo)
              clear hsz
              refine wpAnyH_ready (rs := [8]) (by kernel_rfl) (by simp) ?_
              refine AllReadyH.cons rfl (fun K hK => ?_) (AllReadyH.nil)
              have hsz := HX.out.size
              refine step_append elShare _ (by rfl) _ _ (by rfl) ws.heap.size O1 (some ⟨gx, 0, none⟩) d1 k 1 1 (ShareK.row (f.sh.take k)) (ShareK.enc x) (by rfl) (by rfl) rfl HO1.out HXC.out (fun u hu => share_one (xs := [x]) u (by rw [Kd.row_one]; exact hu)) hsz (by omega) ?_
              intro O2 d2 y4 own1 hb
              have HO2 := Lib.hid own1
              have HF := Lib.hid hb
              have HBN := Lib.hid (HX.out.trans hb)
              clear own1 hb
              (first | refine hK.out _ _ ?_ (fun hHeld1 => ?_) | (go_wp2_with fail; refine hK.out _ _ ?_ (fun hHeld1 => ?_)))
              · ((try dsimp only); exact KS2 HBN.out)
              clear hK K hHeld
              have hHeld := hHeld1
              clear hHeld1
              try simp only [Act.put, List.setIfInBounds_toArray, List.set_cons_zero, List.set_cons_succ]
              replace HX := Lib.hid (HX.out.trans HF.out)
              replace HBO := Lib.hid (HBO.out.below HF.out hbo)
              clear hsz
              refine wpAnyH_ready (rs := [10]) (by kernel_rfl) (by simp) ?_
              refine AllReadyH.cons rfl (fun K hK => ?_) (AllReadyH.nil)
              have hsz := HX.out.size
              refine step_append elShare _ (by rfl) _ _ (by rfl) ws.heap.size O2 Q d2 (k + 1) (f.sh.length - k - 1) (d - k - 1) (ShareK.row (f.sh.take k) ++ ShareK.enc x) (ShareK.row (f.sh.drop (k + 1))) (by rfl) (by rfl) (by rw [Kd.row_len, List.length_drop]; show _ * 3 = _; omega) HO2.out (rows_dropK ShareK (HD.out.below (HB.out.trans (HX.out.mono (by omega)))) HQ.out) share_one hsz (by omega) ?_
              intro O3 d3 y5 own1 hb
              have HO3 := Lib.hid own1
              have HF := Lib.hid hb
              have HBN := Lib.hid (HX.out.trans hb)
              clear own1 hb
              (first | refine hK.out _ _ ?_ (fun hHeld1 => ?_) | (go_wp2_with fail; refine hK.out _ _ ?_ (fun hHeld1 => ?_)))
              · ((try dsimp only); exact KS2 HBN.out)
              clear hK K hHeld
              have hHeld := hHeld1
              clear hHeld1
              try simp only [Act.put, List.setIfInBounds_toArray, List.set_cons_zero, List.set_cons_succ]
              replace HX := Lib.hid (HX.out.trans HF.out)
              replace HBO := Lib.hid (HBO.out.below HF.out hbo)
              clear hsz
              have o4 := HBO.out.1 4 _ rfl
              have z4 := HBO.out.2 4
              refine take_yes (i := 11) (d := 57) (v := ?_) rfl rfl (by kernel_rfl) (by kernel_rfl) (by kernel_rfl) (fun _ _ _ h => h) (by kernel_rfl) ?_ hHeld ?_
              rotate_left
              · (intro w hSw; (try dsimp only at hSw); go_simp; try (with_reducible rfl))
              try simp only [Act.put, List.setIfInBounds_toArray, List.set_cons_zero, List.set_cons_succ]
              refine wpAnyH_ready (rs := [12]) (by kernel_rfl) (by simp) ?_
              refine AllReadyH.cons rfl (fun K hK => ?_) (AllReadyH.nil)
              try go_simp
              clear o4 z4
              (first | refine hK.out _ _ ?_ (fun hHeld1 => ?_) | (go_wp2_with fail; refine hK.out _ _ ?_ (fun hHeld1 => ?_)))
              · ((try dsimp only); exact KS ((HX.out.mono hbo1).setCell (Nat.le_refl _) _))
              clear hK K hHeld
              have hHeld := hHeld1
              clear hHeld1
              try simp only [Act.put, List.setIfInBounds_toArray, List.set_cons_zero, List.set_cons_succ]
              have HBN := Lib.hid hHeld.1
              replace HBO := Lib.hid (HBO.out.set (k := 4) (by simp) (.slice O3 (k + 1 + (f.sh.length - k - 1)) d3))
              replace HO3 := Lib.hid (ownsRow_setCell_below HO3.out (a := ⟨w1.heap.size, 4, none⟩) hbo (.slice O3 (k + 1 + (f.sh.length - k - 1)) d3))
              generalize y5.setCell ⟨w1.heap.size, 4, none⟩ (.slice O3 (k + 1 + (f.sh.length - k - 1)) d3) = y6 at *
              refine wpAnyH_done (by kernel_rfl) ?_ _
              refine NoPanic.normal ?_
              clear hHeld
              have hn3 : k + 1 + (f.sh.length - k - 1) = (putS x f.sh).length := by rw [HPT.out, List.length_append, List.length_cons, List.length_take, List.length_drop, Nat.min_eq_left (by omega)]; omega
              have HR3 := Lib.hid (show ShareK.row (f.sh.take k) ++ ShareK.enc x ++ ShareK.row (f.sh.drop (k + 1)) = ShareK.row (putS x f.sh) by rw [HPT.out, Kd.row_append, show x :: f.sh.drop (k + 1) = [x] ++ f.sh.drop (k + 1) from rfl, Kd.row_append, Kd.row_one, List.append_assoc])
              rw [HR3.out, hn3] at HO3
              rw [hn3] at HBO
              clear HR3
              have HBT := Lib.hid (HB.out.trans (HBN.out.mono (by omega)))
              have NZ2 := Lib.hid (NZ.out.below HBN.out (by omega))
              have HA3 := Lib.hid (own_under HA1.out HAU.out HBN.out (Nat.le_refl _))
              have hszf := HBT.out.size
              have o0 := HBO.out.1 0 _ rfl
              have o1 := HBO.out.1 1 _ rfl
              have o2 := HBO.out.1 2 _ rfl
              have o3 := HBO.out.1 3 _ rfl
              have o4 := HBO.out.1 4 _ rfl
              have r0 := NZ2.out.1 0 _ rfl
              have r1 := NZ2.out.1 1 _ rfl
              have r2 := NZ2.out.1 2 _ rfl
              have r3 := NZ2.out.1 3 _ rfl
              have r4 := NZ2.out.1 4 _ rfl
              have q0 := NZ2.out.2 0
              have q1 := NZ2.out.2 1
              have q2 := NZ2.out.2 2
              have q3 := NZ2.out.2 3
              have q4 := NZ2.out.2 4
              rw [hn3]
              go_wp2
              clear o0 r0 q0 o1 r1 q1 o2 r2 q2 o3 r3 q3 o4 r4 q4
              have KZ := NZ2.out.set5 (.int .i64 f.t) (.int .i64 f.s) (.int .i64 f.sp) (.slice A1 f.wt.length c1) (.slice O3 (putS x f.sh).length d3)
              have k0 := KZ.1 0 _ rfl
              have k1 := KZ.1 1 _ rfl
              have k2 := KZ.1 2 _ rfl
              have k3 := KZ.1 3 _ rfl
              have k4 := KZ.1 4 _ rfl
              refine bodyPost_ret (v := .agg #[.int .i64 f.t, .int .i64 f.s, .int .i64 f.sp, .slice A1 f.wt.length c1, .slice O3 (putS x f.sh).length d3]) (by simp [results, Try.results59, go_sem, k0, k1, k2, k3, k4]) rfl ?_
              clear k0 k1 k2 k3 k4 KZ
              exact ⟨A1, c1, O3, d3, rfl, Ow.mk (K := IntK) (own_fin_old5 (L := w.heap.size) HA3.out (by omega) (by omega) _ _ _ _ _) hn (fun _ _ => trivial), Ow.mk (K := ShareK) (own_fin_old5 (L := w.heap.size) HO3.out (by omega) (by omega) _ _ _ _ _) (by show (putS x f.sh).length ≤ _; rw [← hn3]; omega) (fun _ _ => trivial), below_set5 HBT.out (by omega) _ _ _ _ _⟩
        · have HPT := Lib.hid (HNEW.out HA2.out he)
          have he2 : (y.m == x.m) = false := by simp [he]
          clear hq HY HN HHIT HNEW
          go_wp2
          go_quiet (fail)
          obtain ⟨n1, hn1⟩ : ∃ n, n = nq := ⟨_, rfl⟩
          subst hn1
          go_wp2
          go_quiet (fail)
          go_wp2
          obtain ⟨Q, hQ⟩ : ∃ Q, Hid (some (a.add (k * 3)) = Q) := ⟨_, Lib.hid rfl⟩
          have HQ := Lib.hid (show k < f.sh.length → Q = (some a).map (·.add (k * 3)) from fun _ => hQ.out.symm)
          rw [hQ.out]
          have HAL2 := Lib.hid ((HAL.out.drewN n1).drewN nq)
          clear b4 x0
          generalize (wr.drewN n1).drewN nq = ws at *
          replace NF := Lib.hid (HAL2.out.box NF.out)
          replace NX := Lib.hid (HAL2.out.box NX.out)
          replace NZ := Lib.hid (HAL2.out.box NZ.out)
          replace HBO := Lib.hid (HAL2.out.box HBO.out)
          replace HA1 := Lib.hid (HAL2.out.own HA1.out)
          replace HB := Lib.hid (show Below w.heap.size w ws from ⟨HAL2.out.os.trans HB.out.os, HAL2.out.tape.trans HB.out.tape, HAL2.out.output.trans HB.out.output, by rw [HAL2.out.heap]; exact HB.out.size, fun i hi => by rw [HAL2.out.heap]; exact HB.out.block i hi⟩)
          have hbo : w1.heap.size < ws.heap.size := by rw [HAL2.out.heap]; exact hbo0
          replace hbo1 := Nat.le_of_lt hbo
          clear HAL HAL2 GF GX HBr hbo0
          have KS : ∀ {w' : World}, Below w1.heap.size ws w' → (Below w1.heap.size ws w' ∧ (∀ o, w'.cell? ⟨w.heap.size, o, none⟩ = ws.cell? ⟨w.heap.size, o, none⟩) ∧ (∀ o, w'.cell? ⟨w.heap.size + 1, o, none⟩ = ws.cell? ⟨w.heap.size + 1, o, none⟩)) := fun h => ⟨h, fun o => h.cell (p := ⟨w.heap.size, o, none⟩) (by show w.heap.size < _; omega), fun o => h.cell (p := ⟨w.heap.size + 1, o, none⟩) (by show w.heap.size + 1 < _; omega)⟩
          have KS2 : ∀ {w' : World}, Below ws.heap.size ws w' → (Below w1.heap.size ws w' ∧ (∀ o, w'.cell? ⟨w.heap.size, o, none⟩ = ws.cell? ⟨w.heap.size, o, none⟩) ∧ (∀ o, w'.cell? ⟨w.heap.size + 1, o, none⟩ = ws.cell? ⟨w.heap.size + 1, o, none⟩)) := fun h => KS (h.mono hbo1)
          have b4 := NF.out.1 4 _ rfl
          have x0 := NX.out.1 0 _ rfl
          have x1 := NX.out.1 1 _ rfl
          have x2 := NX.out.1 2 _ rfl
          refine wp_region_noPanic ?_
          refine wp_region_held_drew (S := (fun w' => Below w1.heap.size ws w' ∧ (∀ o, w'.cell? ⟨w.heap.size, o, none⟩ = ws.cell? ⟨w.heap.size, o, none⟩) ∧ (∀ o, w'.cell? ⟨w.heap.size + 1, o, none⟩ = ws.cell? ⟨w.heap.size + 1, o, none⟩))) (by kernel_rfl) ?_ (fun hHeld => ?_)
          · ((try dsimp only); exact KS (Below.refl _ _).drew)
          have HX := Lib.hid (show Below ws.heap.size ws ws.drew from (Below.refl _ _).drew)
          have HBO := Lib.hid HBO.out.drew
          generalize ws.drew = ud at *
          refine take_yes (i := 1) (d := 47) (v := ?_) rfl rfl (by kernel_rfl) (by kernel_rfl) (by kernel_rfl) (fun _ _ _ h => h) (by kernel_rfl) ?_ hHeld ?_
          rotate_left
          · (intro w hSw; (try dsimp only at hSw); go_simp; try (with_reducible rfl))
          try simp only [Act.put, List.setIfInBounds_toArray, List.set_cons_zero, List.set_cons_succ]
          refine take_yes (i := 2) (d := 48) (v := ?_) rfl rfl (by kernel_rfl) (by kernel_rfl) (by kernel_rfl) (fun _ _ _ h => h) (by kernel_rfl) ?_ hHeld ?_
          rotate_left
          · (intro w hSw; (try dsimp only at hSw); go_simp; try (with_reducible rfl))
          try simp only [Act.put, List.setIfInBounds_toArray, List.set_cons_zero, List.set_cons_succ]
          refine take_yes (i := 3) (d := 49) (v := ?_) rfl rfl (by kernel_rfl) (by kernel_rfl) (by kernel_rfl) (fun _ _ _ h => h) (by kernel_rfl) ?_ hHeld ?_
          rotate_left
          · (intro w hSw; (try dsimp only at hSw); go_simp; try (with_reducible rfl))
          try simp only [Act.put, List.setIfInBounds_toArray, List.set_cons_zero, List.set_cons_succ]
          refine take_yes (i := 4) (d := 50) (v := ?_) rfl rfl (by kernel_rfl) (by kernel_rfl) (by kernel_rfl) (fun _ _ _ h => h) (by kernel_rfl) ?_ hHeld ?_
          rotate_left
          · (intro w hSw; (try dsimp only at hSw); go_simp; try (with_reducible rfl))
          try simp only [Act.put, List.setIfInBounds_toArray, List.set_cons_zero, List.set_cons_succ]
          refine take_yes (i := 6) (d := 52) (v := ?_) rfl rfl (by kernel_rfl) (by kernel_rfl) (by kernel_rfl) (fun _ _ _ h => h) (by kernel_rfl) ?_ hHeld ?_
          rotate_left
          · (intro w hSw; (try dsimp only at hSw); go_simp; try (with_reducible rfl))
          try simp only [Act.put, List.setIfInBounds_toArray, List.set_cons_zero, List.set_cons_succ]
          refine take_yes (i := 9) (d := 55) (v := ?_) rfl rfl (by kernel_rfl) (by kernel_rfl) (by kernel_rfl) (fun _ _ _ h => h) (by kernel_rfl) ?_ hHeld ?_
          rotate_left
          · (intro w hSw; (try dsimp only at hSw); go_simp; try (with_reducible rfl))
          try simp only [Act.put, List.setIfInBounds_toArray, List.set_cons_zero, List.set_cons_succ]
          refine wpAnyH_ready (rs := [0, 7]) (by kernel_rfl) (by simp) ?_
          refine AllReadyH.cons rfl (fun K hK => ?_) (AllReadyH.cons rfl (fun K hK => ?_) (AllReadyH.nil))
          · try go_simp
            (first | refine hK.out _ _ ?_ (fun hHeld1 => ?_) | (go_wp2_with fail; refine hK.out _ _ ?_ (fun hHeld1 => ?_)))
            · ((try dsimp only); exact KS2 (HX.out.trans ((below1 ud _).mono HX.out.size)))
            clear hK K hHeld
            have hHeld := hHeld1
            clear hHeld1
            try simp only [Act.put, List.setIfInBounds_toArray, List.set_cons_zero, List.set_cons_succ]
            have hsz := HX.out.size
            have hb := below1 ud (.cells #[] 43)
            have HZ := Lib.hid (own_nil_lit ud ws.heap.size ud.heap.size 43 3 rfl hsz)
            have hb := hb.mono hsz
            replace HX := Lib.hid (HX.out.trans hb)
            replace HBO := Lib.hid (HBO.out.below hb hbo)
            clear hb hsz
            generalize (ud.alloc (.cells #[] 43)) = y1 at *
            generalize ud.heap.size = gz at *
            refine wpAnyH_ready (rs := [5, 7]) (by kernel_rfl) (by simp) ?_
            refine AllReadyH.cons rfl (fun K hK => ?_) (AllReadyH.cons rfl (fun K hK => ?_) (AllReadyH.nil))
            · have hsz := HX.out.size
              refine step_append_lit elShare _ (by rfl) _ _ (by rfl) ws.heap.size gz (some a) k d (ShareK.row (f.sh.take k)) (by rfl) (by rfl) (by rw [Kd.row_len, List.length_take, Nat.min_eq_left (by omega)]; rfl) HZ.out (rows_takeK ShareK (HD.out.below (HB.out.trans (HX.out.mono (by omega))))) share_one hsz (by omega) ?_
              intro O1 d1 y2 own1 hb hq1
              have HO1 := Lib.hid own1
              have HF := Lib.hid hb
              have HBN := Lib.hid (HX.out.trans (hb.mono hsz))
              clear own1 hb hq1
              (first | refine hK.out _ _ ?_ (fun hHeld1 => ?_) | (go_wp2_with fail; refine hK.out _ _ ?_ (fun hHeld1 => ?_)))
              · ((try dsimp only); exact KS2 HBN.out)
              clear hK K hHeld
              have hHeld := hHeld1
              clear hHeld1
              try simp only [Act.put, List.setIfInBounds_toArray, List.set_cons_zero, List.set_cons_succ]
              replace HX := Lib.hid (HX.out.trans (HF.out.mono hsz))
              replace HBO := Lib.hid (HBO.out.below (HF.out.mono hsz) hbo)
              clear hsz
              refine wpAnyH_ready (rs := [7]) (by kernel_rfl) (by simp) ?_
              refine AllReadyH.cons rfl (fun K hK => ?_) (AllReadyH.nil)
              try go_simp
              (first | refine hK.out _ _ ?_ (fun hHeld1 => ?_) | (go_wp2_with fail; refine hK.out _ _ ?_ (fun hHeld1 => ?_)))
              · ((try dsimp only); exact KS2 (HX.out.trans ((below1 y2 _).mono HX.out.size)))
              clear hK K hHeld
              have hHeld := hHeld1
              clear hHeld1
              try simp only [Act.put, List.setIfInBounds_toArray, List.set_cons_zero, List.set_cons_succ]
              have hsz := HX.out.size
              have hb := below1 y2 (.cells #[.int .i64 x.m, .int .i64 x.t, .int .i64 x.s] 43)
              replace HO1 := Lib.hid (own_keep HO1.out hb)
              have HXC := Lib.hid (cells_encS y2 x 43 y2.heap.size rfl)
              have hb := hb.mono hsz
              replace HX := Lib.hid (HX.out.trans hb)
              replace HBO := Lib.hid (HBO.out.below hb hbo)
              clear hb hsz
              generalize (y2.alloc (.cells #[.int .i64 x.m, .int .i64 x.t, .int .i64 x.s] 43)) = y3 at *
              generalize y2.heap.size = gx at *
              refine wpAnyH_ready (rs := [8]) (by kernel_rfl) (by simp) ?_
              refine AllReadyH.cons rfl (fun K hK => ?_) (AllReadyH.nil)
              have hsz := HX.out.size
              refine step_append elShare _ (by rfl) _ _ (by rfl) ws.heap.size O1 (some ⟨gx, 0, none⟩) d1 k 1 1 (ShareK.row (f.sh.take k)) (ShareK.enc x) (by rfl) (by rfl) rfl HO1.out HXC.out (fun u hu => share_one (xs := [x]) u (by rw [Kd.row_one]; exact hu)) hsz (by omega) ?_
              intro O2 d2 y4 own1 hb
              have HO2 := Lib.hid own1
              have HF := Lib.hid hb
              have HBN := Lib.hid (HX.out.trans hb)
              clear own1 hb
              (first | refine hK.out _ _ ?_ (fun hHeld1 => ?_) | (go_wp2_with fail; refine hK.out _ _ ?_ (fun hHeld1 => ?_)))
              · ((try dsimp only); exact KS2 HBN.out)
              clear hK K hHeld
              have hHeld := hHeld1
              clear hHeld1
              try simp only [Act.put, List.setIfInBounds_toArray, List.set_cons_zero, List.set_cons_succ]
              replace HX := Lib.hid (HX.out.trans HF.out)
              replace HBO := Lib.hid (HBO.out.below HF.out hbo)
              clear hsz
              refine wpAnyH_ready (rs := [10]) (by kernel_rfl) (by simp) ?_
              refine AllReadyH.cons rfl (fun K hK => ?_) (AllReadyH.nil)
              have hsz := HX.out.size
              refine step_append elShare _ (by rfl) _ _ (by rfl) ws.heap.size O2 Q d2 (k + 1) (f.sh.length - k) (d - k) (ShareK.row (f.sh.take k) ++ ShareK.enc x) (ShareK.row (f.sh.drop (k))) (by rfl) (by rfl) (by rw [Kd.row_len, List.length_drop]; show _ * 3 = _; omega) HO2.out (rows_dropK ShareK (HD.out.below (HB.out.trans (HX.out.mono (by omega)))) HQ.out) share_one hsz (by omega) ?_
              intro O3 d3 y5 own1 hb
              have HO3 := Lib.hid own1
              have HF := Lib.hid hb
              have HBN := Lib.hid (HX.out.trans hb)
              clear own1 hb
              (first | refine hK.out _ _ ?_ (fun hHeld1 => ?_) | (go_wp2_with fail; refine hK.out _ _ ?_ (fun hHeld1 => ?_)))
              · ((try dsimp only); exact KS2 HBN.out)
              clear hK K hHeld
              have hHeld := hHeld1
              clear hHeld1
              try simp only [Act.put, List.setIfInBounds_toArray, List.set_cons_zero, List.set_cons_succ]
              replace HX := Lib.hid (HX.out.trans HF.out)
              replace HBO := Lib.hid (HBO.out.below HF.out hbo)
              clear hsz
              have o4 := HBO.out.1 4 _ rfl
              have z4 := HBO.out.2 4
              refine take_yes (i := 11) (d := 57) (v := ?_) rfl rfl (by kernel_rfl) (by kernel_rfl) (by kernel_rfl) (fun _ _ _ h => h) (by kernel_rfl) ?_ hHeld ?_
              rotate_left
              · (intro w hSw; (try dsimp only at hSw); go_simp; try (with_reducible rfl))
              try simp only [Act.put, List.setIfInBounds_toArray, List.set_cons_zero, List.set_cons_succ]
              refine wpAnyH_ready (rs := [12]) (by kernel_rfl) (by simp) ?_
              refine AllReadyH.cons rfl (fun K hK => ?_) (AllReadyH.nil)
              try go_simp
              clear o4 z4
              (first | refine hK.out _ _ ?_ (fun hHeld1 => ?_) | (go_wp2_with fail; refine hK.out _ _ ?_ (fun hHeld1 => ?_)))
              · ((try dsimp only); exact KS ((HX.out.mono hbo1).setCell (Nat.le_refl _) _))
              clear hK K hHeld
              have hHeld := hHeld1
              clear hHeld1
              try simp only [Act.put, List.setIfInBounds_toArray, List.set_cons_zero, List.set_cons_succ]
              have HBN := Lib.hid hHeld.1
              replace HBO := Lib.hid (HBO.out.set (k := 4) (by simp) (.slice O3 (k + 1 + (f.sh.length - k)) d3))
              replace HO3 := Lib.hid (ownsRow_setCell_below HO3.out (a := ⟨w1.heap.size, 4, none⟩) hbo (.slice O3 (k + 1 + (f.sh.length - k)) d3))
              generalize y5.setCell ⟨w1.heap.size, 4, none⟩ (.slice O3 (k + 1 + (f.sh.length - k)) d3) = y6 at *
              refine wpAnyH_done (by kernel_rfl) ?_ _
              refine NoPanic.normal ?_
              clear hHeld
              have hn3 : k + 1 + (f.sh.length - k) = (putS x f.sh).length := by rw [HPT.out, List.length_append, List.length_cons, List.length_take, List.length_drop, Nat.min_eq_left (by omega)]; omega
              have HR3 := Lib.hid (show ShareK.row (f.sh.take k) ++ ShareK.enc x ++ ShareK.row (f.sh.drop (k)) = ShareK.row (putS x f.sh) by rw [HPT.out, Kd.row_append, show x :: f.sh.drop (k) = [x] ++ f.sh.drop (k) from rfl, Kd.row_append, Kd.row_one, List.append_assoc])
              rw [HR3.out, hn3] at HO3
              rw [hn3] at HBO
              clear HR3
              have HBT := Lib.hid (HB.out.trans (HBN.out.mono (by omega)))
              have NZ2 := Lib.hid (NZ.out.below HBN.out (by omega))
              have HA3 := Lib.hid (own_under HA1.out HAU.out HBN.out (Nat.le_refl _))
              have hszf := HBT.out.size
              have o0 := HBO.out.1 0 _ rfl
              have o1 := HBO.out.1 1 _ rfl
              have o2 := HBO.out.1 2 _ rfl
              have o3 := HBO.out.1 3 _ rfl
              have o4 := HBO.out.1 4 _ rfl
              have r0 := NZ2.out.1 0 _ rfl
              have r1 := NZ2.out.1 1 _ rfl
              have r2 := NZ2.out.1 2 _ rfl
              have r3 := NZ2.out.1 3 _ rfl
              have r4 := NZ2.out.1 4 _ rfl
              have q0 := NZ2.out.2 0
              have q1 := NZ2.out.2 1
              have q2 := NZ2.out.2 2
              have q3 := NZ2.out.2 3
              have q4 := NZ2.out.2 4
              rw [hn3]
              go_wp2
              clear o0 r0 q0 o1 r1 q1 o2 r2 q2 o3 r3 q3 o4 r4 q4
              have KZ := NZ2.out.set5 (.int .i64 f.t) (.int .i64 f.s) (.int .i64 f.sp) (.slice A1 f.wt.length c1) (.slice O3 (putS x f.sh).length d3)
              have k0 := KZ.1 0 _ rfl
              have k1 := KZ.1 1 _ rfl
              have k2 := KZ.1 2 _ rfl
              have k3 := KZ.1 3 _ rfl
              have k4 := KZ.1 4 _ rfl
              refine bodyPost_ret (v := .agg #[.int .i64 f.t, .int .i64 f.s, .int .i64 f.sp, .slice A1 f.wt.length c1, .slice O3 (putS x f.sh).length d3]) (by simp [results, Try.results59, go_sem, k0, k1, k2, k3, k4]) rfl ?_
              clear k0 k1 k2 k3 k4 KZ
              exact ⟨A1, c1, O3, d3, rfl, Ow.mk (K := IntK) (own_fin_old5 (L := w.heap.size) HA3.out (by omega) (by omega) _ _ _ _ _) hn (fun _ _ => trivial), Ow.mk (K := ShareK) (own_fin_old5 (L := w.heap.size) HO3.out (by omega) (by omega) _ _ _ _ _) (by show (putS x f.sh).length ≤ _; rw [← hn3]; omega) (fun _ _ => trivial), below_set5 HBT.out (by omega) _ _ _ _ _⟩
            · try go_simp
              (first | refine hK.out _ _ ?_ (fun hHeld1 => ?_) | (go_wp2_with fail; refine hK.out _ _ ?_ (fun hHeld1 => ?_)))
              · ((try dsimp only); exact KS2 (HX.out.trans ((below1 y1 _).mono HX.out.size)))
              clear hK K hHeld
              have hHeld := hHeld1
              clear hHeld1
              try simp only [Act.put, List.setIfInBounds_toArray, List.set_cons_zero, List.set_cons_succ]
              have hsz := HX.out.size
              have hb := below1 y1 (.cells #[.int .i64 x.m, .int .i64 x.t, .int .i64 x.s] 43)
              replace HZ := Lib.hid (own_keep HZ.out hb)
              have HXC := Lib.hid (cells_encS y1 x 43 y1.heap.size rfl)
              have hb := hb.mono hsz
              replace HX := Lib.hid (HX.out.trans hb)
              replace HBO := Lib.hid (HBO.out.below hb hbo)
              clear hb hsz
              generalize (y1.alloc (.cells #[.int .i64 x.m, .int .i64 x.t, .int .i64 x.s] 43)) = y2 at *
              generalize y1.heap.size = gx at *
              refine wpAnyH_ready (rs := [5]) (by kernel_rfl) (by simp) ?_
              refine AllReadyH.cons rfl (fun K hK => ?_) (AllReadyH.nil)
              have hsz := HX.out.size
              refine step_append_lit elShare _ (by rfl) _ _ (by rfl) ws.heap.size gz (some a) k d (ShareK.row (f.sh.take k)) (by rfl) (by rfl) (by rw [Kd.row_len, List.length_take, Nat.min_eq_left (by omega)]; rfl) HZ.out (rows_takeK ShareK (HD.out.below (HB.out.trans (HX.out.mono (by omega))))) share_one hsz (by omega) ?_
              intro O1 d1 y3 own1 hb hq1
              have HO1 := Lib.hid own1
              have HF := Lib.hid hb
              have HBN := Lib.hid (HX.out.trans (hb.mono hsz))
              clear own1 hb hq1
              (first | refine hK.out _ _ ?_ (fun hHeld1 => ?_) | (go_wp2_with fail; refine hK.out _ _ ?_ (fun hHeld1 => ?_)))
              · ((try dsimp only); exact KS2 HBN.out)
              clear hK K hHeld
              have hHeld := hHeld1
              clear hHeld1
              try simp only [Act.put, List.setIfInBounds_toArray, List.set_cons_zero, List.set_cons_succ]
              replace HXC := Lib.hid (HXC.out.below HF.out)
              replace HX := Lib.hid (HX.out.trans (HF.out.mono hsz))
              replace HBO := Lib.hid (HBO.out.below (HF.out.mono hsz) hbo)
              clear hsz
              refine wpAnyH_ready (rs := [8]) (by kernel_rfl) (by simp) ?_
              refine AllReadyH.cons rfl (fun K hK => ?_) (AllReadyH.nil)
              have hsz := HX.out.size
              refine step_append elShare _ (by rfl) _ _ (by rfl) ws.heap.size O1 (some ⟨gx, 0, none⟩) d1 k 1 1 (ShareK.row (f.sh.take k)) (ShareK.enc x) (by rfl) (by rfl) rfl HO1.out HXC.out (fun u hu => share_one (xs := [x]) u (by rw [Kd.row_one]; exact hu)) hsz (by omega) ?_
              intro O2 d2 y4 own1 hb
              have HO2 := Lib.hid own1
              have HF := Lib.hid hb
              have HBN := Lib.hid (HX.out.trans hb)
              clear own1 hb
              (first | refine hK.out _ _ ?_ (fun hHeld1 => ?_) | (go_wp2_with fail; refine hK.out _ _ ?_ (fun hHeld1 => ?_)))
              · ((try dsimp only); exact KS2 HBN.out)
              clear hK K hHeld
              have hHeld := hHeld1
              clear hHeld1
              try simp only [Act.put, List.setIfInBounds_toArray, List.set_cons_zero, List.set_cons_succ]
              replace HX := Lib.hid (HX.out.trans HF.out)
              replace HBO := Lib.hid (HBO.out.below HF.out hbo)
              clear hsz
              refine wpAnyH_ready (rs := [10]) (by kernel_rfl) (by simp) ?_
              refine AllReadyH.cons rfl (fun K hK => ?_) (AllReadyH.nil)
              have hsz := HX.out.size
              refine step_append elShare _ (by rfl) _ _ (by rfl) ws.heap.size O2 Q d2 (k + 1) (f.sh.length - k) (d - k) (ShareK.row (f.sh.take k) ++ ShareK.enc x) (ShareK.row (f.sh.drop (k))) (by rfl) (by rfl) (by rw [Kd.row_len, List.length_drop]; show _ * 3 = _; omega) HO2.out (rows_dropK ShareK (HD.out.below (HB.out.trans (HX.out.mono (by omega)))) HQ.out) share_one hsz (by omega) ?_
              intro O3 d3 y5 own1 hb
              have HO3 := Lib.hid own1
              have HF := Lib.hid hb
              have HBN := Lib.hid (HX.out.trans hb)
              clear own1 hb
              (first | refine hK.out _ _ ?_ (fun hHeld1 => ?_) | (go_wp2_with fail; refine hK.out _ _ ?_ (fun hHeld1 => ?_)))
              · ((try dsimp only); exact KS2 HBN.out)
              clear hK K hHeld
              have hHeld := hHeld1
              clear hHeld1
              try simp only [Act.put, List.setIfInBounds_toArray, List.set_cons_zero, List.set_cons_succ]
              replace HX := Lib.hid (HX.out.trans HF.out)
              replace HBO := Lib.hid (HBO.out.below HF.out hbo)
              clear hsz
              have o4 := HBO.out.1 4 _ rfl
              have z4 := HBO.out.2 4
              refine take_yes (i := 11) (d := 57) (v := ?_) rfl rfl (by kernel_rfl) (by kernel_rfl) (by kernel_rfl) (fun _ _ _ h => h) (by kernel_rfl) ?_ hHeld ?_
              rotate_left
              · (intro w hSw; (try dsimp only at hSw); go_simp; try (with_reducible rfl))
              try simp only [Act.put, List.setIfInBounds_toArray, List.set_cons_zero, List.set_cons_succ]
              refine wpAnyH_ready (rs := [12]) (by kernel_rfl) (by simp) ?_
              refine AllReadyH.cons rfl (fun K hK => ?_) (AllReadyH.nil)
              try go_simp
              clear o4 z4
              (first | refine hK.out _ _ ?_ (fun hHeld1 => ?_) | (go_wp2_with fail; refine hK.out _ _ ?_ (fun hHeld1 => ?_)))
              · ((try dsimp only); exact KS ((HX.out.mono hbo1).setCell (Nat.le_refl _) _))
              clear hK K hHeld
              have hHeld := hHeld1
              clear hHeld1
              try simp only [Act.put, List.setIfInBounds_toArray, List.set_cons_zero, List.set_cons_succ]
              have HBN := Lib.hid hHeld.1
              replace HBO := Lib.hid (HBO.out.set (k := 4) (by simp) (.slice O3 (k + 1 + (f.sh.length - k)) d3))
              replace HO3 := Lib.hid (ownsRow_setCell_below HO3.out (a := ⟨w1.heap.size, 4, none⟩) hbo (.slice O3 (k + 1 + (f.sh.length - k)) d3))
              generalize y5.setCell ⟨w1.heap.size, 4, none⟩ (.slice O3 (k + 1 + (f.sh.length - k)) d3) = y6 at *
              refine wpAnyH_done (by kernel_rfl) ?_ _
              refine NoPanic.normal ?_
              clear hHeld
              have hn3 : k + 1 + (f.sh.length - k) = (putS x f.sh).length := by rw [HPT.out, List.length_append, List.length_cons, List.length_take, List.length_drop, Nat.min_eq_left (by omega)]; omega
              have HR3 := Lib.hid (show ShareK.row (f.sh.take k) ++ ShareK.enc x ++ ShareK.row (f.sh.drop (k)) = ShareK.row (putS x f.sh) by rw [HPT.out, Kd.row_append, show x :: f.sh.drop (k) = [x] ++ f.sh.drop (k) from rfl, Kd.row_append, Kd.row_one, List.append_assoc])
              rw [HR3.out, hn3] at HO3
              rw [hn3] at HBO
              clear HR3
              have HBT := Lib.hid (HB.out.trans (HBN.out.mono (by omega)))
              have NZ2 := Lib.hid (NZ.out.below HBN.out (by omega))
              have HA3 := Lib.hid (own_under HA1.out HAU.out HBN.out (Nat.le_refl _))
              have hszf := HBT.out.size
              have o0 := HBO.out.1 0 _ rfl
              have o1 := HBO.out.1 1 _ rfl
              have o2 := HBO.out.1 2 _ rfl
              have o3 := HBO.out.1 3 _ rfl
              have o4 := HBO.out.1 4 _ rfl
              have r0 := NZ2.out.1 0 _ rfl
              have r1 := NZ2.out.1 1 _ rfl
              have r2 := NZ2.out.1 2 _ rfl
              have r3 := NZ2.out.1 3 _ rfl
              have r4 := NZ2.out.1 4 _ rfl
              have q0 := NZ2.out.2 0
              have q1 := NZ2.out.2 1
              have q2 := NZ2.out.2 2
              have q3 := NZ2.out.2 3
              have q4 := NZ2.out.2 4
              rw [hn3]
              go_wp2
              clear o0 r0 q0 o1 r1 q1 o2 r2 q2 o3 r3 q3 o4 r4 q4
              have KZ := NZ2.out.set5 (.int .i64 f.t) (.int .i64 f.s) (.int .i64 f.sp) (.slice A1 f.wt.length c1) (.slice O3 (putS x f.sh).length d3)
              have k0 := KZ.1 0 _ rfl
              have k1 := KZ.1 1 _ rfl
              have k2 := KZ.1 2 _ rfl
              have k3 := KZ.1 3 _ rfl
              have k4 := KZ.1 4 _ rfl
              refine bodyPost_ret (v := .agg #[.int .i64 f.t, .int .i64 f.s, .int .i64 f.sp, .slice A1 f.wt.length c1, .slice O3 (putS x f.sh).length d3]) (by simp [results, Try.results59, go_sem, k0, k1, k2, k3, k4]) rfl ?_
              clear k0 k1 k2 k3 k4 KZ
              exact ⟨A1, c1, O3, d3, rfl, Ow.mk (K := IntK) (own_fin_old5 (L := w.heap.size) HA3.out (by omega) (by omega) _ _ _ _ _) hn (fun _ _ => trivial), Ow.mk (K := ShareK) (own_fin_old5 (L := w.heap.size) HO3.out (by omega) (by omega) _ _ _ _ _) (by show (putS x f.sh).length ≤ _; rw [← hn3]; omega) (fun _ _ => trivial), below_set5 HBT.out (by omega) _ _ _ _ _⟩
          · try go_simp
            (first | refine hK.out _ _ ?_ (fun hHeld1 => ?_) | (go_wp2_with fail; refine hK.out _ _ ?_ (fun hHeld1 => ?_)))
            · ((try dsimp only); exact KS2 (HX.out.trans ((below1 ud _).mono HX.out.size)))
            clear hK K hHeld
            have hHeld := hHeld1
            clear hHeld1
            try simp only [Act.put, List.setIfInBounds_toArray, List.set_cons_zero, List.set_cons_succ]
            have hsz := HX.out.size
            have hb := below1 ud (.cells #[.int .i64 x.m, .int .i64 x.t, .int .i64 x.s] 43)
            have HXC := Lib.hid (cells_encS ud x 43 ud.heap.size rfl)
            have hb := hb.mono hsz
            replace HX := Lib.hid (HX.out.trans hb)
            replace HBO := Lib.hid (HBO.out.below hb hbo)
            clear hb hsz
            generalize (ud.alloc (.cells #[.int .i64 x.m, .int .i64 x.t, .int .i64 x.s] 43)) = y1 at *
            generalize ud.heap.size = gx at *
            refine wpAnyH_ready (rs := [0]) (by kernel_rfl) (by simp) ?_
            refine AllReadyH.cons rfl (fun K hK => ?_) (AllReadyH.nil)
            try go_simp
            (first | refine hK.out _ _ ?_ (fun hHeld1 => ?_) | (go_wp2_with fail; refine hK.out _ _ ?_ (fun hHeld1 => ?_)))
            · ((try dsimp only); exact KS2 (HX.out.trans ((below1 y1 _).mono HX.out.size)))
            clear hK K hHeld
            have hHeld := hHeld1
            clear hHeld1
            try simp only [Act.put, List.setIfInBounds_toArray, List.set_cons_zero, List.set_cons_succ]
            have hsz := HX.out.size
            have hb := below1 y1 (.cells #[] 43)
            replace HXC := Lib.hid (HXC.out.below hb)
            have HZ := Lib.hid (own_nil_lit y1 ws.heap.size y1.heap.size 43 3 rfl hsz)
            have hb := hb.mono hsz
            replace HX := Lib.hid (HX.out.trans hb)
            replace HBO := Lib.hid (HBO.out.below hb hbo)
            clear hb hsz
            generalize (y1.alloc (.cells #[] 43)) = y2 at *
            generalize y1.heap.size = gz at *
            refine wpAnyH_ready (rs := [5]) (by kernel_rfl) (by simp) ?_
            refine AllReadyH.cons rfl (fun K hK => ?_) (AllReadyH.nil)
            have hsz := HX.out.size
            refine step_append_lit elShare _ (by rfl) _ _ (by rfl) ws.heap.size gz (some a) k d (ShareK.row (f.sh.take k)) (by rfl) (by rfl) (by rw [Kd.row_len, List.length_take, Nat.min_eq_left (by omega)]; rfl) HZ.out (rows_takeK ShareK (HD.out.below (HB.out.trans (HX.out.mono (by omega))))) share_one hsz (by omega) ?_
            intro O1 d1 y3 own1 hb hq1
            have HO1 := Lib.hid own1
            have HF := Lib.hid hb
            have HBN := Lib.hid (HX.out.trans (hb.mono hsz))
            clear own1 hb hq1
            (first | refine hK.out _ _ ?_ (fun hHeld1 => ?_) | (go_wp2_with fail; refine hK.out _ _ ?_ (fun hHeld1 => ?_)))
            · ((try dsimp only); exact KS2 HBN.out)
            clear hK K hHeld
            have hHeld := hHeld1
            clear hHeld1
            try simp only [Act.put, List.setIfInBounds_toArray, List.set_cons_zero, List.set_cons_succ]
            replace HXC := Lib.hid (HXC.out.below HF.out)
            replace HX := Lib.hid (HX.out.trans (HF.out.mono hsz))
            replace HBO := Lib.hid (HBO.out.below (HF.out.mono hsz) hbo)
            clear hsz
            refine wpAnyH_ready (rs := [8]) (by kernel_rfl) (by simp) ?_
            refine AllReadyH.cons rfl (fun K hK => ?_) (AllReadyH.nil)
            have hsz := HX.out.size
            refine step_append elShare _ (by rfl) _ _ (by rfl) ws.heap.size O1 (some ⟨gx, 0, none⟩) d1 k 1 1 (ShareK.row (f.sh.take k)) (ShareK.enc x) (by rfl) (by rfl) rfl HO1.out HXC.out (fun u hu => share_one (xs := [x]) u (by rw [Kd.row_one]; exact hu)) hsz (by omega) ?_
            intro O2 d2 y4 own1 hb
            have HO2 := Lib.hid own1
            have HF := Lib.hid hb
            have HBN := Lib.hid (HX.out.trans hb)
            clear own1 hb
            (first | refine hK.out _ _ ?_ (fun hHeld1 => ?_) | (go_wp2_with fail; refine hK.out _ _ ?_ (fun hHeld1 => ?_)))
            · ((try dsimp only); exact KS2 HBN.out)
            clear hK K hHeld
            have hHeld := hHeld1
            clear hHeld1
            try simp only [Act.put, List.setIfInBounds_toArray, List.set_cons_zero, List.set_cons_succ]
            replace HX := Lib.hid (HX.out.trans HF.out)
            replace HBO := Lib.hid (HBO.out.below HF.out hbo)
            clear hsz
            refine wpAnyH_ready (rs := [10]) (by kernel_rfl) (by simp) ?_
            refine AllReadyH.cons rfl (fun K hK => ?_) (AllReadyH.nil)
            have hsz := HX.out.size
            refine step_append elShare _ (by rfl) _ _ (by rfl) ws.heap.size O2 Q d2 (k + 1) (f.sh.length - k) (d - k) (ShareK.row (f.sh.take k) ++ ShareK.enc x) (ShareK.row (f.sh.drop (k))) (by rfl) (by rfl) (by rw [Kd.row_len, List.length_drop]; show _ * 3 = _; omega) HO2.out (rows_dropK ShareK (HD.out.below (HB.out.trans (HX.out.mono (by omega)))) HQ.out) share_one hsz (by omega) ?_
            intro O3 d3 y5 own1 hb
            have HO3 := Lib.hid own1
            have HF := Lib.hid hb
            have HBN := Lib.hid (HX.out.trans hb)
            clear own1 hb
            (first | refine hK.out _ _ ?_ (fun hHeld1 => ?_) | (go_wp2_with fail; refine hK.out _ _ ?_ (fun hHeld1 => ?_)))
            · ((try dsimp only); exact KS2 HBN.out)
            clear hK K hHeld
            have hHeld := hHeld1
            clear hHeld1
            try simp only [Act.put, List.setIfInBounds_toArray, List.set_cons_zero, List.set_cons_succ]
            replace HX := Lib.hid (HX.out.trans HF.out)
            replace HBO := Lib.hid (HBO.out.below HF.out hbo)
            clear hsz
            have o4 := HBO.out.1 4 _ rfl
            have z4 := HBO.out.2 4
            refine take_yes (i := 11) (d := 57) (v := ?_) rfl rfl (by kernel_rfl) (by kernel_rfl) (by kernel_rfl) (fun _ _ _ h => h) (by kernel_rfl) ?_ hHeld ?_
            rotate_left
            · (intro w hSw; (try dsimp only at hSw); go_simp; try (with_reducible rfl))
            try simp only [Act.put, List.setIfInBounds_toArray, List.set_cons_zero, List.set_cons_succ]
            refine wpAnyH_ready (rs := [12]) (by kernel_rfl) (by simp) ?_
            refine AllReadyH.cons rfl (fun K hK => ?_) (AllReadyH.nil)
            try go_simp
            clear o4 z4
            (first | refine hK.out _ _ ?_ (fun hHeld1 => ?_) | (go_wp2_with fail; refine hK.out _ _ ?_ (fun hHeld1 => ?_)))
            · ((try dsimp only); exact KS ((HX.out.mono hbo1).setCell (Nat.le_refl _) _))
            clear hK K hHeld
            have hHeld := hHeld1
            clear hHeld1
            try simp only [Act.put, List.setIfInBounds_toArray, List.set_cons_zero, List.set_cons_succ]
            have HBN := Lib.hid hHeld.1
            replace HBO := Lib.hid (HBO.out.set (k := 4) (by simp) (.slice O3 (k + 1 + (f.sh.length - k)) d3))
            replace HO3 := Lib.hid (ownsRow_setCell_below HO3.out (a := ⟨w1.heap.size, 4, none⟩) hbo (.slice O3 (k + 1 + (f.sh.length - k)) d3))
            generalize y5.setCell ⟨w1.heap.size, 4, none⟩ (.slice O3 (k + 1 + (f.sh.length - k)) d3) = y6 at *
            refine wpAnyH_done (by kernel_rfl) ?_ _
            refine NoPanic.normal ?_
            clear hHeld
            have hn3 : k + 1 + (f.sh.length - k) = (putS x f.sh).length := by rw [HPT.out, List.length_append, List.length_cons, List.length_take, List.length_drop, Nat.min_eq_left (by omega)]; omega
            have HR3 := Lib.hid (show ShareK.row (f.sh.take k) ++ ShareK.enc x ++ ShareK.row (f.sh.drop (k)) = ShareK.row (putS x f.sh) by rw [HPT.out, Kd.row_append, show x :: f.sh.drop (k) = [x] ++ f.sh.drop (k) from rfl, Kd.row_append, Kd.row_one, List.append_assoc])
            rw [HR3.out, hn3] at HO3
            rw [hn3] at HBO
            clear HR3
            have HBT := Lib.hid (HB.out.trans (HBN.out.mono (by omega)))
            have NZ2 := Lib.hid (NZ.out.below HBN.out (by omega))
            have HA3 := Lib.hid (own_under HA1.out HAU.out HBN.out (Nat.le_refl _))
            have hszf := HBT.out.size
            have o0 := HBO.out.1 0 _ rfl
            have o1 := HBO.out.1 1 _ rfl
            have o2 := HBO.out.1 2 _ rfl
            have o3 := HBO.out.1 3 _ rfl
            have o4 := HBO.out.1 4 _ rfl
            have r0 := NZ2.out.1 0 _ rfl
            have r1 := NZ2.out.1 1 _ rfl
            have r2 := NZ2.out.1 2 _ rfl
            have r3 := NZ2.out.1 3 _ rfl
            have r4 := NZ2.out.1 4 _ rfl
            have q0 := NZ2.out.2 0
            have q1 := NZ2.out.2 1
            have q2 := NZ2.out.2 2
            have q3 := NZ2.out.2 3
            have q4 := NZ2.out.2 4
            rw [hn3]
            go_wp2
            clear o0 r0 q0 o1 r1 q1 o2 r2 q2 o3 r3 q3 o4 r4 q4
            have KZ := NZ2.out.set5 (.int .i64 f.t) (.int .i64 f.s) (.int .i64 f.sp) (.slice A1 f.wt.length c1) (.slice O3 (putS x f.sh).length d3)
            have k0 := KZ.1 0 _ rfl
            have k1 := KZ.1 1 _ rfl
            have k2 := KZ.1 2 _ rfl
            have k3 := KZ.1 3 _ rfl
            have k4 := KZ.1 4 _ rfl
            refine bodyPost_ret (v := .agg #[.int .i64 f.t, .int .i64 f.s, .int .i64 f.sp, .slice A1 f.wt.length c1, .slice O3 (putS x f.sh).length d3]) (by simp [results, Try.results59, go_sem, k0, k1, k2, k3, k4]) rfl ?_
            clear k0 k1 k2 k3 k4 KZ
            exact ⟨A1, c1, O3, d3, rfl, Ow.mk (K := IntK) (own_fin_old5 (L := w.heap.size) HA3.out (by omega) (by omega) _ _ _ _ _) hn (fun _ _ => trivial), Ow.mk (K := ShareK) (own_fin_old5 (L := w.heap.size) HO3.out (by omega) (by omega) _ _ _ _ _) (by show (putS x f.sh).length ≤ _; rw [← hn3]; omega) (fun _ _ => trivial), below_set5 HBT.out (by omega) _ _ _ _ _⟩
    · obtain rfl : k = f.sh.length := by omega
      have HA2 := Lib.hid (hq.out.trans cntS_end)
      have HPT := Lib.hid (putS_new (x := x) (l := f.sh) HA2.out (Nat.le_refl _) (fun h => absurd h (by omega))).1
      obtain ⟨Q, e2⟩ : ∃ Q, (if d = f.sh.length then D else D.map (·.add (f.sh.length * 3))) = Q := ⟨_, rfl⟩
      have HQ := Lib.hid (show f.sh.length < f.sh.length → Q = D.map (·.add (f.sh.length * 3)) from fun h => absurd h (by omega))
      clear hq hlt
      go_wp2
      go_quiet (fail)
      obtain ⟨n1, hn1⟩ : ∃ n, n = nq := ⟨_, rfl⟩
      subst hn1
      go_wp2
      go_quiet (fail)
      go_wp2
      have HAL2 := Lib.hid ((HAL.out.drewN n1).drewN nq)
      clear b4 x0
      generalize (wr.drewN n1).drewN nq = ws at *
      replace NF := Lib.hid (HAL2.out.box NF.out)
      replace NX := Lib.hid (HAL2.out.box NX.out)
      replace NZ := Lib.hid (HAL2.out.box NZ.out)
      replace HBO := Lib.hid (HAL2.out.box HBO.out)
      replace HA1 := Lib.hid (HAL2.out.own HA1.out)
      replace HB := Lib.hid (show Below w.heap.size w ws from ⟨HAL2.out.os.trans HB.out.os, HAL2.out.tape.trans HB.out.tape, HAL2.out.output.trans HB.out.output, by rw [HAL2.out.heap]; exact HB.out.size, fun i hi => by rw [HAL2.out.heap]; exact HB.out.block i hi⟩)
      have hbo : w1.heap.size < ws.heap.size := by rw [HAL2.out.heap]; exact hbo0
      replace hbo1 := Nat.le_of_lt hbo
      clear HAL HAL2 GF GX HBr hbo0
      have KS : ∀ {w' : World}, Below w1.heap.size ws w' → (Below w1.heap.size ws w' ∧ (∀ o, w'.cell? ⟨w.heap.size, o, none⟩ = ws.cell? ⟨w.heap.size, o, none⟩) ∧ (∀ o, w'.cell? ⟨w.heap.size + 1, o, none⟩ = ws.cell? ⟨w.heap.size + 1, o, none⟩)) := fun h => ⟨h, fun o => h.cell (p := ⟨w.heap.size, o, none⟩) (by show w.heap.size < _; omega), fun o => h.cell (p := ⟨w.heap.size + 1, o, none⟩) (by show w.heap.size + 1 < _; omega)⟩
      have KS2 : ∀ {w' : World}, Below ws.heap.size ws w' → (Below w1.heap.size ws w' ∧ (∀ o, w'.cell? ⟨w.heap.size, o, none⟩ = ws.cell? ⟨w.heap.size, o, none⟩) ∧ (∀ o, w'.cell? ⟨w.heap.size + 1, o, none⟩ = ws.cell? ⟨w.heap.size + 1, o, none⟩)) := fun h => KS (h.mono hbo1)
      have b4 := NF.out.1 4 _ rfl
      have x0 := NX.out.1 0 _ rfl
      have x1 := NX.out.1 1 _ rfl
      have x2 := NX.out.1 2 _ rfl
      refine wp_region_noPanic ?_
      refine wp_region_held_drew (S := (fun w' => Below w1.heap.size ws w' ∧ (∀ o, w'.cell? ⟨w.heap.size, o, none⟩ = ws.cell? ⟨w.heap.size, o, none⟩) ∧ (∀ o, w'.cell? ⟨w.heap.size + 1, o, none⟩ = ws.cell? ⟨w.heap.size + 1, o, none⟩))) (by kernel_rfl) ?_ (fun hHeld => ?_)
      · ((try dsimp only); exact KS (Below.refl _ _).drew)
      have HX := Lib.hid (show Below ws.heap.size ws ws.drew from (Below.refl _ _).drew)
      have HBO := Lib.hid HBO.out.drew
      generalize ws.drew = ud at *
      refine take_yes (i := 1) (d := 47) (v := ?_) rfl rfl (by kernel_rfl) (by kernel_rfl) (by kernel_rfl) (fun _ _ _ h => h) (by kernel_rfl) ?_ hHeld ?_
      rotate_left
      · (intro w hSw; (try dsimp only at hSw); go_simp; try (with_reducible rfl))
      try simp only [Act.put, List.setIfInBounds_toArray, List.set_cons_zero, List.set_cons_succ]
      refine take_yes (i := 2) (d := 48) (v := ?_) rfl rfl (by kernel_rfl) (by kernel_rfl) (by kernel_rfl) (fun _ _ _ h => h) (by kernel_rfl) ?_ hHeld ?_
      rotate_left
      · (intro w hSw; (try dsimp only at hSw); go_simp; try (with_reducible rfl))
      try simp only [Act.put, List.setIfInBounds_toArray, List.set_cons_zero, List.set_cons_succ]
      refine take_yes (i := 3) (d := 49) (v := ?_) rfl rfl (by kernel_rfl) (by kernel_rfl) (by kernel_rfl) (fun _ _ _ h => h) (by kernel_rfl) ?_ hHeld ?_
      rotate_left
      · (intro w hSw; (try dsimp only at hSw); go_simp; try (with_reducible rfl))
      try simp only [Act.put, List.setIfInBounds_toArray, List.set_cons_zero, List.set_cons_succ]
      refine take_yes (i := 4) (d := 50) (v := ?_) rfl rfl (by kernel_rfl) (by kernel_rfl) (by kernel_rfl) (fun _ _ _ h => h) (by kernel_rfl) ?_ hHeld ?_
      rotate_left
      · (intro w hSw; (try dsimp only at hSw); go_simp; try (with_reducible rfl))
      try simp only [Act.put, List.setIfInBounds_toArray, List.set_cons_zero, List.set_cons_succ]
      refine take_yes (i := 6) (d := 52) (v := ?_) rfl rfl (by kernel_rfl) (by kernel_rfl) (by kernel_rfl) (fun _ _ _ h => h) (by kernel_rfl) ?_ hHeld ?_
      rotate_left
      · (intro w hSw; (try dsimp only at hSw); go_simp; try (with_reducible rfl))
      try simp only [Act.put, List.setIfInBounds_toArray, List.set_cons_zero, List.set_cons_succ]
      refine take_yes (i := 9) (d := 55) (v := ?_) rfl rfl (by kernel_rfl) (by kernel_rfl) (by kernel_rfl) (fun _ _ _ h => h) (by kernel_rfl) ?_ hHeld ?_
      rotate_left
      · (intro w hSw; (try dsimp only at hSw); go_simp; try (with_reducible rfl))
      try simp only [Act.put, List.setIfInBounds_toArray, List.set_cons_zero, List.set_cons_succ]
      refine wpAnyH_ready (rs := [0, 7]) (by kernel_rfl) (by simp) ?_
      refine AllReadyH.cons rfl (fun K hK => ?_) (AllReadyH.cons rfl (fun K hK => ?_) (AllReadyH.nil))
      · try go_simp
        (first | refine hK.out _ _ ?_ (fun hHeld1 => ?_) | (go_wp2_with fail; refine hK.out _ _ ?_ (fun hHeld1 => ?_)))
        · ((try dsimp only); exact KS2 (HX.out.trans ((below1 ud _).mono HX.out.size)))
        clear hK K hHeld
        have hHeld := hHeld1
        clear hHeld1
        try simp only [Act.put, List.setIfInBounds_toArray, List.set_cons_zero, List.set_cons_succ]
        have hsz := HX.out.size
        have hb := below1 ud (.cells #[] 43)
        have HZ := Lib.hid (own_nil_lit ud ws.heap.size ud.heap.size 43 3 rfl hsz)
        have hb := hb.mono hsz
        replace HX := Lib.hid (HX.out.trans hb)
        replace HBO := Lib.hid (HBO.out.below hb hbo)
        clear hb hsz
        generalize (ud.alloc (.cells #[] 43)) = y1 at *
        generalize ud.heap.size = gz at *
        refine wpAnyH_ready (rs := [5, 7]) (by kernel_rfl) (by simp) ?_
        refine AllReadyH.cons rfl (fun K hK => ?_) (AllReadyH.cons rfl (fun K hK => ?_) (AllReadyH.nil))
        · have hsz := HX.out.size
          refine step_append_lit elShare _ (by rfl) _ _ (by rfl) ws.heap.size gz D f.sh.length d (ShareK.row (f.sh.take f.sh.length)) (by rfl) (by rfl) (by rw [Kd.row_len, List.length_take, Nat.min_eq_left (by omega)]; rfl) HZ.out (rows_takeK ShareK (HD.out.below (HB.out.trans (HX.out.mono (by omega))))) share_one hsz (by omega) ?_
          intro O1 d1 y2 own1 hb hq1
          have HO1 := Lib.hid own1
          have HF := Lib.hid hb
          have HBN := Lib.hid (HX.out.trans (hb.mono hsz))
          clear own1 hb hq1
          (first | refine hK.out _ _ ?_ (fun hHeld1 => ?_) | (go_wp2_with fail; refine hK.out _ _ ?_ (fun hHeld1 => ?_)))
          · ((try dsimp only); exact KS2 HBN.out)
          clear hK K hHeld
          have hHeld := hHeld1
          clear hHeld1
          try simp only [Act.put, List.setIfInBounds_toArray, List.set_cons_zero, List.set_cons_succ]
          replace HX := Lib.hid (HX.out.trans (HF.out.mono hsz))
          replace HBO := Lib.hid (HBO.out.below (HF.out.mono hsz) hbo)
          clear hsz
          refine wpAnyH_ready (rs := [7]) (by kernel_rfl) (by simp) ?_
          refine AllReadyH.cons rfl (fun K hK => ?_) (AllReadyH.nil)
          try go_simp
          (first | refine hK.out _ _ ?_ (fun hHeld1 => ?_) | (go_wp2_with fail; refine hK.out _ _ ?_ (fun hHeld1 => ?_)))
          · ((try dsimp only); exact KS2 (HX.out.trans ((below1 y2 _).mono HX.out.size)))
          clear hK K hHeld
          have hHeld := hHeld1
          clear hHeld1
          try simp only [Act.put, List.setIfInBounds_toArray, List.set_cons_zero, List.set_cons_succ]
          have hsz := HX.out.size
          have hb := below1 y2 (.cells #[.int .i64 x.m, .int .i64 x.t, .int .i64 x.s] 43)
          replace HO1 := Lib.hid (own_keep HO1.out hb)
          have HXC := Lib.hid (cells_encS y2 x 43 y2.heap.size rfl)
          have hb := hb.mono hsz
          replace HX := Lib.hid (HX.out.trans hb)
          replace HBO := Lib.hid (HBO.out.below hb hbo)
          clear hb hsz
          generalize (y2.alloc (.cells #[.int .i64 x.m, .int .i64 x.t, .int .i64 x.s] 43)) = y3 at *
          generalize y2.heap.size = gx at *
          refine wpAnyH_ready (rs := [8]) (by kernel_rfl) (by simp) ?_
          refine AllReadyH.cons rfl (fun K hK => ?_) (AllReadyH.nil)
          have hsz := HX.out.size
          refine step_append elShare _ (by rfl) _ _ (by rfl) ws.heap.size O1 (some ⟨gx, 0, none⟩) d1 f.sh.length 1 1 (ShareK.row (f.sh.take f.sh.length)) (ShareK.enc x) (by rfl) (by rfl) rfl HO1.out HXC.out (fun u hu => share_one (xs := [x]) u (by rw [Kd.row_one]; exact hu)) hsz (by omega) ?_
          intro O2 d2 y4 own1 hb
          have HO2 := Lib.hid own1
          have HF := Lib.hid hb
          have HBN := Lib.hid (HX.out.trans hb)
          clear own1 hb
          (first | refine hK.out _ _ ?_ (fun hHeld1 => ?_) | (go_wp2_with fail; refine hK.out _ _ ?_ (fun hHeld1 => ?_)))
          · ((try dsimp only); exact KS2 HBN.out)
          clear hK K hHeld
          have hHeld := hHeld1
          clear hHeld1
          try simp only [Act.put, List.setIfInBounds_toArray, List.set_cons_zero, List.set_cons_succ]
          replace HX := Lib.hid (HX.out.trans HF.out)
          replace HBO := Lib.hid (HBO.out.below HF.out hbo)
          clear hsz
          refine wpAnyH_ready (rs := [10]) (by kernel_rfl) (by simp) ?_
          refine AllReadyH.cons rfl (fun K hK => ?_) (AllReadyH.nil)
          have hsz := HX.out.size
          refine step_append elShare _ (by rfl) _ _ (by rfl) ws.heap.size O2 Q d2 (f.sh.length + 1) (0) (d - f.sh.length) (ShareK.row (f.sh.take f.sh.length) ++ ShareK.enc x) (ShareK.row (f.sh.drop (f.sh.length))) (by rfl) (by rfl) (by rw [Kd.row_len, List.length_drop]; show _ * 3 = _; omega) HO2.out (rows_dropK ShareK (HD.out.below (HB.out.trans (HX.out.mono (by omega)))) HQ.out) share_one hsz (by omega) ?_
          intro O3 d3 y5 own1 hb
          have HO3 := Lib.hid own1
          have HF := Lib.hid hb
          have HBN := Lib.hid (HX.out.trans hb)
          clear own1 hb
          (first | refine hK.out _ _ ?_ (fun hHeld1 => ?_) | (go_wp2_with fail; refine hK.out _ _ ?_ (fun hHeld1 => ?_)))
          · ((try dsimp only); exact KS2 HBN.out)
          clear hK K hHeld
          have hHeld := hHeld1
          clear hHeld1
          try simp only [Act.put, List.setIfInBounds_toArray, List.set_cons_zero, List.set_cons_succ]
          replace HX := Lib.hid (HX.out.trans HF.out)
          replace HBO := Lib.hid (HBO.out.below HF.out hbo)
          clear hsz
          have o4 := HBO.out.1 4 _ rfl
          have z4 := HBO.out.2 4
          refine take_yes (i := 11) (d := 57) (v := ?_) rfl rfl (by kernel_rfl) (by kernel_rfl) (by kernel_rfl) (fun _ _ _ h => h) (by kernel_rfl) ?_ hHeld ?_
          rotate_left
          · (intro w hSw; (try dsimp only at hSw); go_simp; try (with_reducible rfl))
          try simp only [Act.put, List.setIfInBounds_toArray, List.set_cons_zero, List.set_cons_succ]
          refine wpAnyH_ready (rs := [12]) (by kernel_rfl) (by simp) ?_
          refine AllReadyH.cons rfl (fun K hK => ?_) (AllReadyH.nil)
          try go_simp
          clear o4 z4
          (first | refine hK.out _ _ ?_ (fun hHeld1 => ?_) | (go_wp2_with fail; refine hK.out _ _ ?_ (fun hHeld1 => ?_)))
          · ((try dsimp only); exact KS ((HX.out.mono hbo1).setCell (Nat.le_refl _) _))
          clear hK K hHeld
          have hHeld := hHeld1
          clear hHeld1
          try simp only [Act.put, List.setIfInBounds_toArray, List.set_cons_zero, List.set_cons_succ]
          have HBN := Lib.hid hHeld.1
          replace HBO := Lib.hid (HBO.out.set (k := 4) (by simp) (.slice O3 (f.sh.length + 1 + (0)) d3))
          replace HO3 := Lib.hid (ownsRow_setCell_below HO3.out (a := ⟨w1.heap.size, 4, none⟩) hbo (.slice O3 (f.sh.length + 1 + (0)) d3))
          generalize y5.setCell ⟨w1.heap.size, 4, none⟩ (.slice O3 (f.sh.length + 1 + (0)) d3) = y6 at *
          refine wpAnyH_done (by kernel_rfl) ?_ _
          refine NoPanic.normal ?_
          clear hHeld
          have hn3 : f.sh.length + 1 + (0) = (putS x f.sh).length := by rw [HPT.out, List.length_append, List.length_cons, List.length_take, List.length_drop, Nat.min_eq_left (by omega)]; omega
          have HR3 := Lib.hid (show ShareK.row (f.sh.take f.sh.length) ++ ShareK.enc x ++ ShareK.row (f.sh.drop (f.sh.length)) = ShareK.row (putS x f.sh) by rw [HPT.out, Kd.row_append, show x :: f.sh.drop (f.sh.length) = [x] ++ f.sh.drop (f.sh.length) from rfl, Kd.row_append, Kd.row_one, List.append_assoc])
          rw [HR3.out, hn3] at HO3
          rw [hn3] at HBO
          clear HR3
          have HBT := Lib.hid (HB.out.trans (HBN.out.mono (by omega)))
          have NZ2 := Lib.hid (NZ.out.below HBN.out (by omega))
          have HA3 := Lib.hid (own_under HA1.out HAU.out HBN.out (Nat.le_refl _))
          have hszf := HBT.out.size
          have o0 := HBO.out.1 0 _ rfl
          have o1 := HBO.out.1 1 _ rfl
          have o2 := HBO.out.1 2 _ rfl
          have o3 := HBO.out.1 3 _ rfl
          have o4 := HBO.out.1 4 _ rfl
          have r0 := NZ2.out.1 0 _ rfl
          have r1 := NZ2.out.1 1 _ rfl
          have r2 := NZ2.out.1 2 _ rfl
          have r3 := NZ2.out.1 3 _ rfl
          have r4 := NZ2.out.1 4 _ rfl
          have q0 := NZ2.out.2 0
          have q1 := NZ2.out.2 1
          have q2 := NZ2.out.2 2
          have q3 := NZ2.out.2 3
          have q4 := NZ2.out.2 4
          rw [hn3]
          go_wp2
          clear o0 r0 q0 o1 r1 q1 o2 r2 q2 o3 r3 q3 o4 r4 q4
          have KZ := NZ2.out.set5 (.int .i64 f.t) (.int .i64 f.s) (.int .i64 f.sp) (.slice A1 f.wt.length c1) (.slice O3 (putS x f.sh).length d3)
          have k0 := KZ.1 0 _ rfl
          have k1 := KZ.1 1 _ rfl
          have k2 := KZ.1 2 _ rfl
          have k3 := KZ.1 3 _ rfl
          have k4 := KZ.1 4 _ rfl
          refine bodyPost_ret (v := .agg #[.int .i64 f.t, .int .i64 f.s, .int .i64 f.sp, .slice A1 f.wt.length c1, .slice O3 (putS x f.sh).length d3]) (by simp [results, Try.results59, go_sem, k0, k1, k2, k3, k4]) rfl ?_
          clear k0 k1 k2 k3 k4 KZ
          exact ⟨A1, c1, O3, d3, rfl, Ow.mk (K := IntK) (own_fin_old5 (L := w.heap.size) HA3.out (by omega) (by omega) _ _ _ _ _) hn (fun _ _ => trivial), Ow.mk (K := ShareK) (own_fin_old5 (L := w.heap.size) HO3.out (by omega) (by omega) _ _ _ _ _) (by show (putS x f.sh).length ≤ _; rw [← hn3]; omega) (fun _ _ => trivial), below_set5 HBT.out (by omega) _ _ _ _ _⟩
        · try go_simp
          (first | refine hK.out _ _ ?_ (fun hHeld1 => ?_) | (go_wp2_with fail; refine hK.out _ _ ?_ (fun hHeld1 => ?_)))
          · ((try dsimp only); exact KS2 (HX.out.trans ((below1 y1 _).mono HX.out.size)))
          clear hK K hHeld
          have hHeld := hHeld1
          clear hHeld1
          try simp only [Act.put, List.setIfInBounds_toArray, List.set_cons_zero, List.set_cons_succ]
          have hsz := HX.out.size
          have hb := below1 y1 (.cells #[.int .i64 x.m, .int .i64 x.t, .int .i64 x.s] 43)
          replace HZ := Lib.hid (own_keep HZ.out hb)
          have HXC := Lib.hid (cells_encS y1 x 43 y1.heap.size rfl)
          have hb := hb.mono hsz
          replace HX := Lib.hid (HX.out.trans hb)
          replace HBO := Lib.hid (HBO.out.below hb hbo)
          clear hb hsz
          generalize (y1.alloc (.cells #[.int .i64 x.m, .int .i64 x.t, .int .i64 x.s] 43)) = y2 at *
          generalize y1.heap.size = gx at *
          refine wpAnyH_ready (rs := [5]) (by kernel_rfl) (by simp) ?_
          refine AllReadyH.cons rfl (fun K hK => ?_) (AllReadyH.nil)
          have hsz := HX.out.size
          refine step_append_lit elShare _ (by rfl) _ _ (by rfl) ws.heap.size gz D f.sh.length d (ShareK.row (f.sh.take f.sh.length)) (by rfl) (by rfl) (by rw [Kd.row_len, List.length_take, Nat.min_eq_left (by omega)]; rfl) HZ.out (rows_takeK ShareK (HD.out.below (HB.out.trans (HX.out.mono (by omega))))) share_one hsz (by omega) ?_
          intro O1 d1 y3 own1 hb hq1
          have HO1 := Lib.hid own1
          have HF := Lib.hid hb
          have HBN := Lib.hid (HX.out.trans (hb.mono hsz))
          clear own1 hb hq1
          (first | refine hK.out _ _ ?_ (fun hHeld1 => ?_) | (go_wp2_with fail; refine hK.out _ _ ?_ (fun hHeld1 => ?_)))
          · ((try dsimp only); exact KS2 HBN.out)
          clear hK K hHeld
          have hHeld := hHeld1
          clear hHeld1
          try simp only [Act.put, List.setIfInBounds_toArray, List.set_cons_zero, List.set_cons_succ]
          replace HXC := Lib.hid (HXC.out.below HF.out)
          replace HX := Lib.hid (HX.out.trans (HF.out.mono hsz))
          replace HBO := Lib.hid (HBO.out.below (HF.out.mono hsz) hbo)
          clear hsz
          refine wpAnyH_ready (rs := [8]) (by kernel_rfl) (by simp) ?_
          refine AllReadyH.cons rfl (fun K hK => ?_) (AllReadyH.nil)
          have hsz := HX.out.size
          refine step_append elShare _ (by rfl) _ _ (by rfl) ws.heap.size O1 (some ⟨gx, 0, none⟩) d1 f.sh.length 1 1 (ShareK.row (f.sh.take f.sh.length)) (ShareK.enc x) (by rfl) (by rfl) rfl HO1.out HXC.out (fun u hu => share_one (xs := [x]) u (by rw [Kd.row_one]; exact hu)) hsz (by omega) ?_
          intro O2 d2 y4 own1 hb
          have HO2 := Lib.hid own1
          have HF := Lib.hid hb
          have HBN := Lib.hid (HX.out.trans hb)
          clear own1 hb
          (first | refine hK.out _ _ ?_ (fun hHeld1 => ?_) | (go_wp2_with fail; refine hK.out _ _ ?_ (fun hHeld1 => ?_)))
          · ((try dsimp only); exact KS2 HBN.out)
          clear hK K hHeld
          have hHeld := hHeld1
          clear hHeld1
          try simp only [Act.put, List.setIfInBounds_toArray, List.set_cons_zero, List.set_cons_succ]
          replace HX := Lib.hid (HX.out.trans HF.out)
          replace HBO := Lib.hid (HBO.out.below HF.out hbo)
          clear hsz
          refine wpAnyH_ready (rs := [10]) (by kernel_rfl) (by simp) ?_
          refine AllReadyH.cons rfl (fun K hK => ?_) (AllReadyH.nil)
          have hsz := HX.out.size
          refine step_append elShare _ (by rfl) _ _ (by rfl) ws.heap.size O2 Q d2 (f.sh.length + 1) (0) (d - f.sh.length) (ShareK.row (f.sh.take f.sh.length) ++ ShareK.enc x) (ShareK.row (f.sh.drop (f.sh.length))) (by rfl) (by rfl) (by rw [Kd.row_len, List.length_drop]; show _ * 3 = _; omega) HO2.out (rows_dropK ShareK (HD.out.below (HB.out.trans (HX.out.mono (by omega)))) HQ.out) share_one hsz (by omega) ?_
          intro O3 d3 y5 own1 hb
          have HO3 := Lib.hid own1
          have HF := Lib.hid hb
          have HBN := Lib.hid (HX.out.trans hb)
          clear own1 hb
          (first | refine hK.out _ _ ?_ (fun hHeld1 => ?_) | (go_wp2_with fail; refine hK.out _ _ ?_ (fun hHeld1 => ?_)))
          · ((try dsimp only); exact KS2 HBN.out)
          clear hK K hHeld
          have hHeld := hHeld1
          clear hHeld1
          try simp only [Act.put, List.setIfInBounds_toArray, List.set_cons_zero, List.set_cons_succ]
          replace HX := Lib.hid (HX.out.trans HF.out)
          replace HBO := Lib.hid (HBO.out.below HF.out hbo)
          clear hsz
          have o4 := HBO.out.1 4 _ rfl
          have z4 := HBO.out.2 4
          refine take_yes (i := 11) (d := 57) (v := ?_) rfl rfl (by kernel_rfl) (by kernel_rfl) (by kernel_rfl) (fun _ _ _ h => h) (by kernel_rfl) ?_ hHeld ?_
          rotate_left
          · (intro w hSw; (try dsimp only at hSw); go_simp; try (with_reducible rfl))
          try simp only [Act.put, List.setIfInBounds_toArray, List.set_cons_zero, List.set_cons_succ]
          refine wpAnyH_ready (rs := [12]) (by kernel_rfl) (by simp) ?_
          refine AllReadyH.cons rfl (fun K hK => ?_) (AllReadyH.nil)
          try go_simp
          clear o4 z4
          (first | refine hK.out _ _ ?_ (fun hHeld1 => ?_) | (go_wp2_with fail; refine hK.out _ _ ?_ (fun hHeld1 => ?_)))
          · ((try dsimp only); exact KS ((HX.out.mono hbo1).setCell (Nat.le_refl _) _))
          clear hK K hHeld
          have hHeld := hHeld1
          clear hHeld1
          try simp only [Act.put, List.setIfInBounds_toArray, List.set_cons_zero, List.set_cons_succ]
          have HBN := Lib.hid hHeld.1
          replace HBO := Lib.hid (HBO.out.set (k := 4) (by simp) (.slice O3 (f.sh.length + 1 + (0)) d3))
          replace HO3 := Lib.hid (ownsRow_setCell_below HO3.out (a := ⟨w1.heap.size, 4, none⟩) hbo (.slice O3 (f.sh.length + 1 + (0)) d3))
          generalize y5.setCell ⟨w1.heap.size, 4, none⟩ (.slice O3 (f.sh.length + 1 + (0)) d3) = y6 at *
          refine wpAnyH_done (by kernel_rfl) ?_ _
          refine NoPanic.normal ?_
          clear hHeld
          have hn3 : f.sh.length + 1 + (0) = (putS x f.sh).length := by rw [HPT.out, List.length_append, List.length_cons, List.length_take, List.length_drop, Nat.min_eq_left (by omega)]; omega
          have HR3 := Lib.hid (show ShareK.row (f.sh.take f.sh.length) ++ ShareK.enc x ++ ShareK.row (f.sh.drop (f.sh.length)) = ShareK.row (putS x f.sh) by rw [HPT.out, Kd.row_append, show x :: f.sh.drop (f.sh.length) = [x] ++ f.sh.drop (f.sh.length) from rfl, Kd.row_append, Kd.row_one, List.append_assoc])
          rw [HR3.out, hn3] at HO3
          rw [hn3] at HBO
          clear HR3
          have HBT := Lib.hid (HB.out.trans (HBN.out.mono (by omega)))
          have NZ2 := Lib.hid (NZ.out.below HBN.out (by omega))
          have HA3 := Lib.hid (own_under HA1.out HAU.out HBN.out (Nat.le_refl _))
          have hszf := HBT.out.size
          have o0 := HBO.out.1 0 _ rfl
          have o1 := HBO.out.1 1 _ rfl
          have o2 := HBO.out.1 2 _ rfl
          have o3 := HBO.out.1 3 _ rfl
          have o4 := HBO.out.1 4 _ rfl
          have r0 := NZ2.out.1 0 _ rfl
          have r1 := NZ2.out.1 1 _ rfl
          have r2 := NZ2.out.1 2 _ rfl
          have r3 := NZ2.out.1 3 _ rfl
          have r4 := NZ2.out.1 4 _ rfl
          have q0 := NZ2.out.2 0
          have q1 := NZ2.out.2 1
          have q2 := NZ2.out.2 2
          have q3 := NZ2.out.2 3
          have q4 := NZ2.out.2 4
          rw [hn3]
          go_wp2
          clear o0 r0 q0 o1 r1 q1 o2 r2 q2 o3 r3 q3 o4 r4 q4
          have KZ := NZ2.out.set5 (.int .i64 f.t) (.int .i64 f.s) (.int .i64 f.sp) (.slice A1 f.wt.length c1) (.slice O3 (putS x f.sh).length d3)
          have k0 := KZ.1 0 _ rfl
          have k1 := KZ.1 1 _ rfl
          have k2 := KZ.1 2 _ rfl
          have k3 := KZ.1 3 _ rfl
          have k4 := KZ.1 4 _ rfl
          refine bodyPost_ret (v := .agg #[.int .i64 f.t, .int .i64 f.s, .int .i64 f.sp, .slice A1 f.wt.length c1, .slice O3 (putS x f.sh).length d3]) (by simp [results, Try.results59, go_sem, k0, k1, k2, k3, k4]) rfl ?_
          clear k0 k1 k2 k3 k4 KZ
          exact ⟨A1, c1, O3, d3, rfl, Ow.mk (K := IntK) (own_fin_old5 (L := w.heap.size) HA3.out (by omega) (by omega) _ _ _ _ _) hn (fun _ _ => trivial), Ow.mk (K := ShareK) (own_fin_old5 (L := w.heap.size) HO3.out (by omega) (by omega) _ _ _ _ _) (by show (putS x f.sh).length ≤ _; rw [← hn3]; omega) (fun _ _ => trivial), below_set5 HBT.out (by omega) _ _ _ _ _⟩
      · try go_simp
        (first | refine hK.out _ _ ?_ (fun hHeld1 => ?_) | (go_wp2_with fail; refine hK.out _ _ ?_ (fun hHeld1 => ?_)))
        · ((try dsimp only); exact KS2 (HX.out.trans ((below1 ud _).mono HX.out.size)))
        clear hK K hHeld
        have hHeld := hHeld1
        clear hHeld1
        try simp only [Act.put, List.setIfInBounds_toArray, List.set_cons_zero, List.set_cons_succ]
        have hsz := HX.out.size
        have hb := below1 ud (.cells #[.int .i64 x.m, .int .i64 x.t, .int .i64 x.s] 43)
        have HXC := Lib.hid (cells_encS ud x 43 ud.heap.size rfl)
        have hb := hb.mono hsz
        replace HX := Lib.hid (HX.out.trans hb)
        replace HBO := Lib.hid (HBO.out.below hb hbo)
        clear hb hsz
        generalize (ud.alloc (.cells #[.int .i64 x.m, .int .i64 x.t, .int .i64 x.s] 43)) = y1 at *
        generalize ud.heap.size = gx at *
        refine wpAnyH_ready (rs := [0]) (by kernel_rfl) (by simp) ?_
        refine AllReadyH.cons rfl (fun K hK => ?_) (AllReadyH.nil)
        try go_simp
        (first | refine hK.out _ _ ?_ (fun hHeld1 => ?_) | (go_wp2_with fail; refine hK.out _ _ ?_ (fun hHeld1 => ?_)))
        · ((try dsimp only); exact KS2 (HX.out.trans ((below1 y1 _).mono HX.out.size)))
        clear hK K hHeld
        have hHeld := hHeld1
        clear hHeld1
        try simp only [Act.put, List.setIfInBounds_toArray, List.set_cons_zero, List.set_cons_succ]
        have hsz := HX.out.size
        have hb := below1 y1 (.cells #[] 43)
        replace HXC := Lib.hid (HXC.out.below hb)
        have HZ := Lib.hid (own_nil_lit y1 ws.heap.size y1.heap.size 43 3 rfl hsz)
        have hb := hb.mono hsz
        replace HX := Lib.hid (HX.out.trans hb)
        replace HBO := Lib.hid (HBO.out.below hb hbo)
        clear hb hsz
        generalize (y1.alloc (.cells #[] 43)) = y2 at *
        generalize y1.heap.size = gz at *
        refine wpAnyH_ready (rs := [5]) (by kernel_rfl) (by simp) ?_
        refine AllReadyH.cons rfl (fun K hK => ?_) (AllReadyH.nil)
        have hsz := HX.out.size
        refine step_append_lit elShare _ (by rfl) _ _ (by rfl) ws.heap.size gz D f.sh.length d (ShareK.row (f.sh.take f.sh.length)) (by rfl) (by rfl) (by rw [Kd.row_len, List.length_take, Nat.min_eq_left (by omega)]; rfl) HZ.out (rows_takeK ShareK (HD.out.below (HB.out.trans (HX.out.mono (by omega))))) share_one hsz (by omega) ?_
        intro O1 d1 y3 own1 hb hq1
        have HO1 := Lib.hid own1
        have HF := Lib.hid hb
        have HBN := Lib.hid (HX.out.trans (hb.mono hsz))
        clear own1 hb hq1
        (first | refine hK.out _ _ ?_ (fun hHeld1 => ?_) | (go_wp2_with fail; refine hK.out _ _ ?_ (fun hHeld1 => ?_)))
        · ((try dsimp only); exact KS2 HBN.out)
        clear hK K hHeld
        have hHeld := hHeld1
        clear hHeld1
        try simp only [Act.put, List.setIfInBounds_toArray, List.set_cons_zero, List.set_cons_succ]
        replace HXC := Lib.hid (HXC.out.below HF.out)
        replace HX := Lib.hid (HX.out.trans (HF.out.mono hsz))
        replace HBO := Lib.hid (HBO.out.below (HF.out.mono hsz) hbo)
        clear hsz
        refine wpAnyH_ready (rs := [8]) (by kernel_rfl) (by simp) ?_
        refine AllReadyH.cons rfl (fun K hK => ?_) (AllReadyH.nil)
        have hsz := HX.out.size
        refine step_append elShare _ (by rfl) _ _ (by rfl) ws.heap.size O1 (some ⟨gx, 0, none⟩) d1 f.sh.length 1 1 (ShareK.row (f.sh.take f.sh.length)) (ShareK.enc x) (by rfl) (by rfl) rfl HO1.out HXC.out (fun u hu => share_one (xs := [x]) u (by rw [Kd.row_one]; exact hu)) hsz (by omega) ?_
        intro O2 d2 y4 own1 hb
        have HO2 := Lib.hid own1
        have HF := Lib.hid hb
        have HBN := Lib.hid (HX.out.trans hb)
        clear own1 hb
        (first | refine hK.out _ _ ?_ (fun hHeld1 => ?_) | (go_wp2_with fail; refine hK.out _ _ ?_ (fun hHeld1 => ?_)))
        · ((try dsimp only); exact KS2 HBN.out)
        clear hK K hHeld
        have hHeld := hHeld1
        clear hHeld1
        try simp only [Act.put, List.setIfInBounds_toArray, List.set_cons_zero, List.set_cons_succ]
        replace HX := Lib.hid (HX.out.trans HF.out)
        replace HBO := Lib.hid (HBO.out.below HF.out hbo)
        clear hsz
        refine wpAnyH_ready (rs := [10]) (by kernel_rfl) (by simp) ?_
        refine AllReadyH.cons rfl (fun K hK => ?_) (AllReadyH.nil)
        have hsz := HX.out.size
        refine step_append elShare _ (by rfl) _ _ (by rfl) ws.heap.size O2 Q d2 (f.sh.length + 1) (0) (d - f.sh.length) (ShareK.row (f.sh.take f.sh.length) ++ ShareK.enc x) (ShareK.row (f.sh.drop (f.sh.length))) (by rfl) (by rfl) (by rw [Kd.row_len, List.length_drop]; show _ * 3 = _; omega) HO2.out (rows_dropK ShareK (HD.out.below (HB.out.trans (HX.out.mono (by omega)))) HQ.out) share_one hsz (by omega) ?_
        intro O3 d3 y5 own1 hb
        have HO3 := Lib.hid own1
        have HF := Lib.hid hb
        have HBN := Lib.hid (HX.out.trans hb)
        clear own1 hb
        (first | refine hK.out _ _ ?_ (fun hHeld1 => ?_) | (go_wp2_with fail; refine hK.out _ _ ?_ (fun hHeld1 => ?_)))
        · ((try dsimp only); exact KS2 HBN.out)
        clear hK K hHeld
        have hHeld := hHeld1
        clear hHeld1
        try simp only [Act.put, List.setIfInBounds_toArray, List.set_cons_zero, List.set_cons_succ]
        replace HX := Lib.hid (HX.out.trans HF.out)
        replace HBO := Lib.hid (HBO.out.below HF.out hbo)
        clear hsz
        have o4 := HBO.out.1 4 _ rfl
        have z4 := HBO.out.2 4
        refine take_yes (i := 11) (d := 57) (v := ?_) rfl rfl (by kernel_rfl) (by kernel_rfl) (by kernel_rfl) (fun _ _ _ h => h) (by kernel_rfl) ?_ hHeld ?_
        rotate_left
        · (intro w hSw; (try dsimp only at hSw); go_simp; try (with_reducible rfl))
        try simp only [Act.put, List.setIfInBounds_toArray, List.set_cons_zero, List.set_cons_succ]
        refine wpAnyH_ready (rs := [12]) (by kernel_rfl) (by simp) ?_
        refine AllReadyH.cons rfl (fun K hK => ?_) (AllReadyH.nil)
        try go_simp
        clear o4 z4
        (first | refine hK.out _ _ ?_ (fun hHeld1 => ?_) | (go_wp2_with fail; refine hK.out _ _ ?_ (fun hHeld1 => ?_)))
        · ((try dsimp only); exact KS ((HX.out.mono hbo1).setCell (Nat.le_refl _) _))
        clear hK K hHeld
        have hHeld := hHeld1
        clear hHeld1
        try simp only [Act.put, List.setIfInBounds_toArray, List.set_cons_zero, List.set_cons_succ]
        have HBN := Lib.hid hHeld.1
        replace HBO := Lib.hid (HBO.out.set (k := 4) (by simp) (.slice O3 (f.sh.length + 1 + (0)) d3))
        replace HO3 := Lib.hid (ownsRow_setCell_below HO3.out (a := ⟨w1.heap.size, 4, none⟩) hbo (.slice O3 (f.sh.length + 1 + (0)) d3))
        generalize y5.setCell ⟨w1.heap.size, 4, none⟩ (.slice O3 (f.sh.length + 1 + (0)) d3) = y6 at *
        refine wpAnyH_done (by kernel_rfl) ?_ _
        refine NoPanic.normal ?_
        clear hHeld
        have hn3 : f.sh.length + 1 + (0) = (putS x f.sh).length := by rw [HPT.out, List.length_append, List.length_cons, List.length_take, List.length_drop, Nat.min_eq_left (by omega)]; omega
        have HR3 := Lib.hid (show ShareK.row (f.sh.take f.sh.length) ++ ShareK.enc x ++ ShareK.row (f.sh.drop (f.sh.length)) = ShareK.row (putS x f.sh) by rw [HPT.out, Kd.row_append, show x :: f.sh.drop (f.sh.length) = [x] ++ f.sh.drop (f.sh.length) from rfl, Kd.row_append, Kd.row_one, List.append_assoc])
        rw [HR3.out, hn3] at HO3
        rw [hn3] at HBO
        clear HR3
        have HBT := Lib.hid (HB.out.trans (HBN.out.mono (by omega)))
        have NZ2 := Lib.hid (NZ.out.below HBN.out (by omega))
        have HA3 := Lib.hid (own_under HA1.out HAU.out HBN.out (Nat.le_refl _))
        have hszf := HBT.out.size
        have o0 := HBO.out.1 0 _ rfl
        have o1 := HBO.out.1 1 _ rfl
        have o2 := HBO.out.1 2 _ rfl
        have o3 := HBO.out.1 3 _ rfl
        have o4 := HBO.out.1 4 _ rfl
        have r0 := NZ2.out.1 0 _ rfl
        have r1 := NZ2.out.1 1 _ rfl
        have r2 := NZ2.out.1 2 _ rfl
        have r3 := NZ2.out.1 3 _ rfl
        have r4 := NZ2.out.1 4 _ rfl
        have q0 := NZ2.out.2 0
        have q1 := NZ2.out.2 1
        have q2 := NZ2.out.2 2
        have q3 := NZ2.out.2 3
        have q4 := NZ2.out.2 4
        rw [hn3]
        go_wp2
        clear o0 r0 q0 o1 r1 q1 o2 r2 q2 o3 r3 q3 o4 r4 q4
        have KZ := NZ2.out.set5 (.int .i64 f.t) (.int .i64 f.s) (.int .i64 f.sp) (.slice A1 f.wt.length c1) (.slice O3 (putS x f.sh).length d3)
        have k0 := KZ.1 0 _ rfl
        have k1 := KZ.1 1 _ rfl
        have k2 := KZ.1 2 _ rfl
        have k3 := KZ.1 3 _ rfl
        have k4 := KZ.1 4 _ rfl
        refine bodyPost_ret (v := .agg #[.int .i64 f.t, .int .i64 f.s, .int .i64 f.sp, .slice A1 f.wt.length c1, .slice O3 (putS x f.sh).length d3]) (by simp [results, Try.results59, go_sem, k0, k1, k2, k3, k4]) rfl ?_
        clear k0 k1 k2 k3 k4 KZ
        exact ⟨A1, c1, O3, d3, rfl, Ow.mk (K := IntK) (own_fin_old5 (L := w.heap.size) HA3.out (by omega) (by omega) _ _ _ _ _) hn (fun _ _ => trivial), Ow.mk (K := ShareK) (own_fin_old5 (L := w.heap.size) HO3.out (by omega) (by omega) _ _ _ _ _) (by show (putS x f.sh).length ≤ _; rw [← hn3]; omega) (fun _ _ => trivial), below_set5 HBT.out (by omega) _ _ _ _ _⟩
end Go.Proofs.Ytbpikbcnpmplfaa
