/- The walk of the law FnSections: it returns true. Conditions: none. -/
import Derived.Test.YtifahgdalgjgfaaSeE
import Derived.Test.YtifahgdalgjgfaaSeP
import Derived.Test.YtifahgdalgjgfaaByt
import Derived.Deep.DrawnRows
import Derived.Deep.Cut
import Derived.Deep.CutRange
import Derived.Deep.DeepCutAuto
namespace Go.Proofs.Ytifahgdalgjgfaa.fnSections
open Go.RowKit
set_option linter.unusedVariables false
set_option linter.unusedSimpArgs false
attribute [local go_sem ↓] Go.wp_at_zero Go.wp_at_succ
set_option maxRecDepth 100000 in
set_option maxHeartbeats 16000000 in
theorem walk (A : Option Addr) (c : Nat) (xs : List Int) (w : World) (hx : xs.length ≤ c ∧ Cells w A (ByteK.row xs) ∧ xs.length ≤ maxLen ∧ ∀ x ∈ xs, ByteK.fit x) :
    Calls Try.prog 6 #[.slice A xs.length c] w fun e w' => e = .returned (.bool true) ∧ Below w.heap.size w w' := by
  have S := Lib.hid (Lst.mk (Below.refl w.heap.size w) (bytesC_of hx.2.1 hx.2.2.2))
  clear hx
  by_cases hbig : 65536 < xs.length
  · have hd : decide (65536 < xs.length) = true := decide_eq_true hbig
    go_enter Try.func6, Try.ntmps6
    go_wp2_with fail
    refine (rBig_any A _ c w).mono ?_
    rintro e w1 ⟨rfl, hb⟩
    rw [hd]
    go_wp2
    go_ret
    exact ⟨rfl, hb⟩
  have hd : decide (65536 < xs.length) = false := decide_eq_false hbig
  have hxl : xs.length ≤ 65536 := by omega
  clear hbig
  go_enter Try.func6, Try.ntmps6
  go_wp2_with fail
  refine (rBig_any A _ c w).mono ?_
  rintro e v1 ⟨rfl, hb⟩
  replace S := Lib.hid (S.out.call hb)
  rw [hd]
  clear hd hb
  have hlo := S.out.sz
  go_wp2_with fail
  refine (DrawCutSection_any A _ c v1 S.out.bytes hxl).mono ?_
  rintro e v2 ⟨Pa, pa, xa, i, rfl, r1, hla, hb⟩
  replace S := Lib.hid (S.out.call hb)
  have Ra := Lib.hid (OwD.low r1 hlo)
  clear hb r1 hlo
  have hlo := S.out.sz
  go_wp2_with fail
  refine (CutSection_any _ _ xa i _ Ra.out.rd.cells Ra.out.rd.1 Ra.out.rd.2.2.1 Ra.out.rd.2.2.2).mono ?_
  rintro e v3 ⟨Pg, pg, rfl, r1, hb⟩
  replace S := Lib.hid (S.out.call hb)
  replace Ra := Lib.hid (Ra.out.call hb)
  have Rg := Lib.hid (OwD.low (show OwD SectionK 78 _ v3 Pg pg (cutL xa i) from r1) hlo)
  clear hb r1 hlo
  obtain ⟨g, Hg⟩ : ∃ zz0, Hid (cutL xa i = zz0) := ⟨_, Lib.hid rfl⟩
  rw [Hg.out] at Rg ⊢
  have hlo := S.out.sz
  go_wp2_with fail
  refine (sCutSection_any _ _ xa i _ Ra.out.rd.cells Ra.out.rd.1 Ra.out.rd.2.2.1 Ra.out.rd.2.2.2).mono ?_
  rintro e v4 ⟨Ph, ph, rfl, r1, hb⟩
  replace S := Lib.hid (S.out.call hb)
  replace Ra := Lib.hid (Ra.out.call hb)
  replace Rg := Lib.hid (Rg.out.call hb)
  have Rh := Lib.hid (OwD.low (show OwD SectionK 78 _ v4 Ph ph (cutL xa i) from r1) hlo)
  clear hb r1 hlo
  rw [Hg.out] at Rh ⊢
  have kb : (askB xa i != askB xa i) = false := by simp
  go_wp2_with fail
  refine (rSections_same Rg.out.rd Rh.out.rd).mono ?_
  rintro e v5 ⟨rfl, hb⟩
  replace S := Lib.hid (S.out.call hb)
  replace Ra := Lib.hid (Ra.out.call hb)
  replace Rg := Lib.hid (Rg.out.call hb)
  replace Rh := Lib.hid (Rh.out.call hb)
  clear hb
  clear Rh
  go_wp2_with fail
  refine (PartOf_any _ _ xa i _ Ra.out.rd.cells Ra.out.rd.2.2.1 Ra.out.rd.2.2.2).mono ?_
  rintro e v6 ⟨rfl, hb⟩
  replace S := Lib.hid (S.out.call hb)
  replace Ra := Lib.hid (Ra.out.call hb)
  replace Rg := Lib.hid (Rg.out.call hb)
  clear hb
  go_wp2_with fail
  refine (sPartOf_any _ _ xa i _ Ra.out.rd.cells Ra.out.rd.2.2.1 Ra.out.rd.2.2.2).mono ?_
  rintro e v7 ⟨rfl, hb⟩
  replace S := Lib.hid (S.out.call hb)
  replace Ra := Lib.hid (Ra.out.call hb)
  replace Rg := Lib.hid (Rg.out.call hb)
  clear hb
  obtain ⟨po, Hpo⟩ : ∃ z, Hid (poI xa i = z) := ⟨_, Lib.hid rfl⟩
  rw [Hpo.out]
  have kp : (po != po) = false := by simp
  go_upto_region 12 with fail
  go_cut [6, 8, 10, 12, 107] (fun u1 u2 u3 u4 s wx => s = .bool false ∧ Hid (Lst w wx A xs.length))
  case first => as_aux_lemma =>
    rcases Bool.eq_false_or_eq_true (askB xa i) with hk | hk
    · rw [hk]
      obtain ⟨h1, h2⟩ := cut_law hk
      rw [Hg.out, Hpo.out] at h1
      rw [Hg.out] at h2
      have ha8 := Ra.out.rd.2.2.1
      have hg8 := Rg.out.rd.2.2.1
      have q1 : IntKind.i64.wrap ((xa.length : Int) - po) = (xa.length : Int) - po := by rw [IntKind.wrap_i64]; omega
      have q2 : IntKind.i64.wrap ((xa.length : Int) - po - 1) = (xa.length : Int) - po - 1 := by rw [IntKind.wrap_i64]; omega
      have k2 : ((g.length : Int) != (xa.length : Int) - po - 1) = false := by simp; omega
      have T2 := Lib.hid h2
      clear h1 h2 ha8 hg8 hk kb kp
      go_wp2_with fail
      refine (IsDocument_any _ _ g  _ Rg.out.rd.cells Rg.out.rd.2.2.1 Rg.out.rd.2.2.2).mono ?_
      rintro e v8 ⟨rfl, hb⟩
      replace S := Lib.hid (S.out.call hb)
      replace Ra := Lib.hid (Ra.out.call hb)
      replace Rg := Lib.hid (Rg.out.call hb)
      clear hb
      rw [T2.out]
      go_wp2_with fail
      go_meet
      exact ⟨rfl, S⟩
    · rw [hk]
      go_wp2_with fail
      go_meet
      exact ⟨rfl, S⟩
  case rest =>
    clear S Ra Rg kb kp Hpo Hg
    obtain ⟨W, rfl⟩ : ∃ W, W = wc := ⟨_, rfl⟩
    obtain ⟨rfl, S⟩ := hcut
    have hlo := S.out.sz
    go_wp2_with fail
    refine (DrawAddSection_any A _ c W S.out.bytes hxl).mono ?_
    rintro e v9 ⟨Pb, pb, xb, k, x, rfl, hfx, r1, hlb, hb⟩
    replace S := Lib.hid (S.out.call hb)
    have Rb := Lib.hid (OwD.low r1 hlo)
    clear hb r1 hlo
    have HFX := Lib.hid hfx
    clear hfx
    have Bx := Lib.hid (BT.new v9 #[.int .i64 x.d, .string x.t] 78 v9.heap.size rfl)
    have hbl := below1 v9 (.cells #[.int .i64 x.d, .string x.t] 78)
    replace S := Lib.hid (S.out.call hbl)
    replace Rb := Lib.hid (Rb.out.call hbl)
    clear hbl
    go_upto_region 15 with fail
    generalize (v9.alloc (.cells #[.int .i64 x.d, .string x.t] 78)) = v10 at *
    generalize v9.heap.size = bx at *
    have hlo := S.out.sz
    go_wp2_with (refine wpList_load_mid rfl 78 _ rfl bx 0 rfl [.int .i64 x.d, .string x.t] _ Bx.out.rng Try.underlying78 rfl (by kernel_rfl) ?_)
    refine (AddSection_any _ _ xb k x _ Rb.out.rd.cells Rb.out.rd.1 Rb.out.rd.2.2.1 Rb.out.rd.2.2.2 HFX.out).mono ?_
    rintro e v11 ⟨Pg, pg, rfl, r1, hb⟩
    replace S := Lib.hid (S.out.call hb)
    replace Rb := Lib.hid (Rb.out.call hb)
    replace Bx := Lib.hid (Bx.out.call hb)
    have Rg := Lib.hid (OwD.low (show OwD SectionK 78 _ v11 Pg pg (asL xb k x) from r1) hlo)
    clear hb r1 hlo
    obtain ⟨g2, Hg2⟩ : ∃ zz0, Hid (asL xb k x = zz0) := ⟨_, Lib.hid rfl⟩
    rw [Hg2.out] at Rg ⊢
    have hlo := S.out.sz
    go_wp2_with (refine wpList_load_mid rfl 78 _ rfl bx 0 rfl [.int .i64 x.d, .string x.t] _ Bx.out.rng Try.underlying78 rfl (by kernel_rfl) ?_)
    refine (sAddSection_any _ _ xb k x _ Rb.out.rd.cells Rb.out.rd.1 Rb.out.rd.2.2.1 Rb.out.rd.2.2.2 HFX.out).mono ?_
    rintro e v12 ⟨Ph, ph, rfl, r1, hb⟩
    replace S := Lib.hid (S.out.call hb)
    replace Rb := Lib.hid (Rb.out.call hb)
    replace Bx := Lib.hid (Bx.out.call hb)
    replace Rg := Lib.hid (Rg.out.call hb)
    have Rh := Lib.hid (OwD.low (show OwD SectionK 78 _ v12 Ph ph (asL xb k x) from r1) hlo)
    clear hb r1 hlo
    rw [Hg2.out] at Rh ⊢
    have kb : (asB xb k x != asB xb k x) = false := by simp
    go_upto_region 17 with fail
    go_cut [17, 19, 152] (fun u1 u2 s wx => s = .bool false ∧ Hid (Lst w wx A xs.length))
    case first => as_aux_lemma =>
      rcases Bool.eq_false_or_eq_true (asB xb k x) with hk | hk
      · rw [hk]
        obtain ⟨h1, n, rfl, hn, hx⟩ := add_law hk
        have T1 := Lib.hid (show docB g2 = true by rw [← Hg2.out]; exact h1)
        obtain ⟨hn2, hx2⟩ : ∃ h : n < g2.length, g2[n] = x := by (have e := Hg2.out); subst e; exact ⟨hn, hx⟩
        obtain ⟨a, ha, hc0, hc1⟩ := section_at Rg.out.rd.cells hn2
        rw [hx2] at hc0 hc1
        subst ha
        have i1 : (n : Int) < (g2.length : Int) := by omega
        clear h1 hn hx hx2 hn2
        have x0 := Bx.out.box.1 0 _ rfl
        have x1 := Bx.out.box.1 1 _ rfl
        clear hk kb
        have hbd := (Below.refl v12.heap.size v12).drew
        refine wp_region_noPanic ?_
        refine wp_region_held_drew (S := (fun w' => w'.cell? (a.add (n * 2)) = some (.int .i64 x.d) ∧ w'.cell? ⟨(a.add (n * 2)).block, (a.add (n * 2)).off + 1, none⟩ = some (.string x.t) ∧ w'.cell? ⟨bx, 0, none⟩ = some (.int .i64 x.d) ∧ w'.cell? ⟨bx, 1, none⟩ = some (.string x.t))) (by kernel_rfl) ?_ (fun hHeld => ?_)
        · ((try dsimp only); exact ⟨hc0, hc1, x0, x1⟩)
        replace S := Lib.hid (S.out.call hbd)
        replace Rb := Lib.hid (Rb.out.call hbd)
        replace Bx := Lib.hid (Bx.out.call hbd)
        replace Rg := Lib.hid (Rg.out.call hbd)
        replace Rh := Lib.hid (Rh.out.call hbd)
        clear hbd
        generalize v12.drew = ud at *
        refine take_yes (i := 0) (d := 128) (v := ?_) rfl rfl (by kernel_rfl) (by kernel_rfl) (by kernel_rfl) (fun _ _ _ h => h) (by kernel_rfl) ?_ hHeld ?_
        rotate_left
        · (intro w hSw; (try dsimp only at hSw); go_simp; try (with_reducible rfl))
        try simp only [Act.put, List.setIfInBounds_toArray, List.set_cons_zero, List.set_cons_succ]
        refine take_yes (i := 1) (d := 129) (v := ?_) rfl rfl (by kernel_rfl) (by kernel_rfl) (by kernel_rfl) (fun _ _ _ h => h) (by kernel_rfl) ?_ hHeld ?_
        rotate_left
        · (intro w hSw; (try dsimp only at hSw); go_simp; try (with_reducible rfl))
        try simp only [Act.put, List.setIfInBounds_toArray, List.set_cons_zero, List.set_cons_succ]
        refine take_yes (i := 2) (d := 130) (v := ?_) rfl rfl (by kernel_rfl) (by kernel_rfl) (by kernel_rfl) (fun _ _ _ h => h) (by kernel_rfl) ?_ hHeld ?_
        rotate_left
        · (intro w hSw; (try dsimp only at hSw); go_simp; try (with_reducible rfl))
        try simp only [Act.put, List.setIfInBounds_toArray, List.set_cons_zero, List.set_cons_succ]
        refine take_yes (i := 3) (d := 131) (v := ?_) rfl rfl (by kernel_rfl) (by kernel_rfl) (by kernel_rfl) (fun _ _ _ h => h) (by kernel_rfl) ?_ hHeld ?_
        rotate_left
        · (intro w hSw; (try dsimp only at hSw); go_simp; try (with_reducible rfl))
        try simp only [Act.put, List.setIfInBounds_toArray, List.set_cons_zero, List.set_cons_succ]
        refine take_yes (i := 4) (d := 132) (v := ?_) rfl rfl (by kernel_rfl) (by kernel_rfl) (by kernel_rfl) (fun _ _ _ h => h) (by kernel_rfl) ?_ hHeld ?_
        rotate_left
        · (intro w hSw; (try dsimp only at hSw); go_simp; try (with_reducible rfl))
        try simp only [Act.put, List.setIfInBounds_toArray, List.set_cons_zero, List.set_cons_succ]
        refine take_yes (i := 5) (d := 133) (v := ?_) rfl rfl (by kernel_rfl) (by kernel_rfl) (by kernel_rfl) (fun _ _ _ h => h) (by kernel_rfl) ?_ hHeld ?_
        rotate_left
        · (intro w hSw; (try dsimp only at hSw); go_simp; try (with_reducible rfl))
        try simp only [Act.put, List.setIfInBounds_toArray, List.set_cons_zero, List.set_cons_succ]
        refine wpAnyH_ready (rs := [6]) (by kernel_rfl) (by simp) ?_
        refine AllReadyH.cons rfl (fun K hK => ?_) (AllReadyH.nil)
        go_simp
        (go_at_call 54; refine (rSections_same Rg.out.rd Rh.out.rd).mono ?_; rintro e v13 ⟨rfl, hb⟩; have HBX := Lib.hid hb; clear hb)
        (first | refine hK.out _ _ ?_ (fun hHeld1 => ?_) | (go_wp2_with fail; refine hK.out _ _ ?_ (fun hHeld1 => ?_)))
        · ((try dsimp only); exact ⟨(HBX.out.cell (World.block_lt_of_cell? _ _ hHeld.1)).trans hHeld.1, (HBX.out.cell (World.block_lt_of_cell? _ _ hHeld.2.1)).trans hHeld.2.1, (HBX.out.cell (World.block_lt_of_cell? _ _ hHeld.2.2.1)).trans hHeld.2.2.1, (HBX.out.cell (World.block_lt_of_cell? _ _ hHeld.2.2.2)).trans hHeld.2.2.2⟩)
        clear hK K hHeld
        have hHeld := hHeld1
        clear hHeld1
        try simp only [Act.put, List.setIfInBounds_toArray, List.set_cons_zero, List.set_cons_succ]
        replace S := Lib.hid (S.out.call HBX.out)
        replace Rb := Lib.hid (Rb.out.call HBX.out)
        replace Bx := Lib.hid (Bx.out.call HBX.out)
        replace Rg := Lib.hid (Rg.out.call HBX.out)
        replace Rh := Lib.hid (Rh.out.call HBX.out)
        clear HBX
        refine take_yes (i := 7) (d := 135) (v := ?_) rfl rfl (by kernel_rfl) (by kernel_rfl) (by kernel_rfl) (fun _ _ _ h => h) (by kernel_rfl) ?_ hHeld ?_
        rotate_left
        · (intro w hSw; (try dsimp only at hSw); go_simp; try (with_reducible rfl))
        try simp only [Act.put, List.setIfInBounds_toArray, List.set_cons_zero, List.set_cons_succ]
        refine take_yes (i := 8) (d := 136) (v := ?_) rfl rfl (by kernel_rfl) (by kernel_rfl) (by kernel_rfl) (fun _ _ _ h => h) (by kernel_rfl) ?_ hHeld ?_
        rotate_left
        · (intro w hSw; (try dsimp only at hSw); go_simp; try (with_reducible rfl))
        try simp only [Act.put, List.setIfInBounds_toArray, List.set_cons_zero, List.set_cons_succ]
        refine take_yes (i := 9) (d := 137) (v := ?_) rfl rfl (by kernel_rfl) (by kernel_rfl) (by kernel_rfl) (fun _ _ _ h => h) (by kernel_rfl) ?_ hHeld ?_
        rotate_left
        · (intro w hSw; (try dsimp only at hSw); go_simp; try (with_reducible rfl))
        try simp only [Act.put, List.setIfInBounds_toArray, List.set_cons_zero, List.set_cons_succ]
        refine take_yes (i := 10) (d := 138) (v := ?_) rfl rfl (by kernel_rfl) (by kernel_rfl) (by kernel_rfl) (fun _ _ _ h => h) (by kernel_rfl) ?_ hHeld ?_
        rotate_left
        · (intro w hSw; (try dsimp only at hSw); go_simp; try (with_reducible rfl))
        try simp only [Act.put, List.setIfInBounds_toArray, List.set_cons_zero, List.set_cons_succ]
        refine take_yes (i := 11) (d := 139) (v := ?_) rfl rfl (by kernel_rfl) (by kernel_rfl) (by kernel_rfl) (fun _ _ _ h => h) (by kernel_rfl) ?_ hHeld ?_
        rotate_left
        · (intro w hSw; (try dsimp only at hSw); go_simp; try (with_reducible rfl))
        try simp only [Act.put, List.setIfInBounds_toArray, List.set_cons_zero, List.set_cons_succ]
        refine take_yes (i := 12) (d := 140) (v := ?_) rfl rfl (by kernel_rfl) (by kernel_rfl) (by kernel_rfl) (fun _ _ _ h => h) (by kernel_rfl) ?_ hHeld ?_
        rotate_left
        · (intro w hSw; (try dsimp only at hSw); go_simp; try (with_reducible rfl))
        try simp only [Act.put, List.setIfInBounds_toArray, List.set_cons_zero, List.set_cons_succ]
        refine take_yes (i := 13) (d := 141) (v := ?_) rfl rfl (by kernel_rfl) (by kernel_rfl) (by kernel_rfl) (fun _ _ _ h => h) (by kernel_rfl) ?_ hHeld ?_
        rotate_left
        · (intro w hSw; (try dsimp only at hSw); go_simp; try (with_reducible rfl))
        try simp only [Act.put, List.setIfInBounds_toArray, List.set_cons_zero, List.set_cons_succ]
        refine take_yes (i := 14) (d := 142) (v := ?_) rfl rfl (by kernel_rfl) (by kernel_rfl) (by kernel_rfl) (fun _ _ _ h => h) (by kernel_rfl) ?_ hHeld ?_
        rotate_left
        · (intro w hSw; (try dsimp only at hSw); go_simp; try (with_reducible rfl))
        try simp only [Act.put, List.setIfInBounds_toArray, List.set_cons_zero, List.set_cons_succ]
        refine take_yes (i := 15) (d := 143) (v := ?_) rfl rfl (by kernel_rfl) (by kernel_rfl) (by kernel_rfl) (fun _ _ _ h => h) (by kernel_rfl) ?_ hHeld ?_
        rotate_left
        · (intro w hSw; (try dsimp only at hSw); go_simp; try (with_reducible rfl))
        try simp only [Act.put, List.setIfInBounds_toArray, List.set_cons_zero, List.set_cons_succ]
        refine take_yes (i := 16) (d := 144) (v := ?_) rfl rfl (by kernel_rfl) (by kernel_rfl) (by kernel_rfl) (fun _ _ _ h => h) (by kernel_rfl) ?_ hHeld ?_
        rotate_left
        · (intro w hSw; (try dsimp only at hSw); go_simp; try (with_reducible rfl))
        try simp only [Act.put, List.setIfInBounds_toArray, List.set_cons_zero, List.set_cons_succ]
        refine take_yes (i := 17) (d := 145) (v := ?_) rfl rfl (by kernel_rfl) (by kernel_rfl) (by kernel_rfl) (fun _ _ _ h => h) (by kernel_rfl) ?_ hHeld ?_
        rotate_left
        · (intro w hSw; (try dsimp only at hSw); go_simp; try (with_reducible rfl))
        try simp only [Act.put, List.setIfInBounds_toArray, List.set_cons_zero, List.set_cons_succ]
        refine take_yes (i := 18) (d := 146) (v := ?_) rfl rfl (by kernel_rfl) (by kernel_rfl) (by kernel_rfl) (fun _ _ _ h => h) (by kernel_rfl) ?_ hHeld ?_
        rotate_left
        · (intro w hSw; (try dsimp only at hSw); go_simp; try (with_reducible rfl))
        try simp only [Act.put, List.setIfInBounds_toArray, List.set_cons_zero, List.set_cons_succ]
        refine take_yes (i := 19) (d := 147) (v := ?_) rfl rfl (by kernel_rfl) (by kernel_rfl) (by kernel_rfl) (fun _ _ _ h => h) (by kernel_rfl) ?_ hHeld ?_
        rotate_left
        · (intro w hSw; (try dsimp only at hSw); go_simp; try (with_reducible rfl))
        try simp only [Act.put, List.setIfInBounds_toArray, List.set_cons_zero, List.set_cons_succ]
        refine wpAnyH_ready (rs := [20]) (by kernel_rfl) (by simp) ?_
        refine AllReadyH.cons rfl (fun K hK => ?_) (AllReadyH.nil)
        go_simp
        (go_at_call 57; refine (IsDocument_any _ _ g2 _ Rg.out.rd.cells Rg.out.rd.2.2.1 Rg.out.rd.2.2.2).mono ?_; rintro e v14 ⟨rfl, hb⟩; rw [T1.out]; have HBX := Lib.hid hb; clear hb)
        (first | refine hK.out _ _ ?_ (fun hHeld1 => ?_) | (go_wp2_with fail; refine hK.out _ _ ?_ (fun hHeld1 => ?_)))
        · ((try dsimp only); exact ⟨(HBX.out.cell (World.block_lt_of_cell? _ _ hHeld.1)).trans hHeld.1, (HBX.out.cell (World.block_lt_of_cell? _ _ hHeld.2.1)).trans hHeld.2.1, (HBX.out.cell (World.block_lt_of_cell? _ _ hHeld.2.2.1)).trans hHeld.2.2.1, (HBX.out.cell (World.block_lt_of_cell? _ _ hHeld.2.2.2)).trans hHeld.2.2.2⟩)
        clear hK K hHeld
        have hHeld := hHeld1
        clear hHeld1
        try simp only [Act.put, List.setIfInBounds_toArray, List.set_cons_zero, List.set_cons_succ]
        replace S := Lib.hid (S.out.call HBX.out)
        replace Rb := Lib.hid (Rb.out.call HBX.out)
        replace Bx := Lib.hid (Bx.out.call HBX.out)
        replace Rg := Lib.hid (Rg.out.call HBX.out)
        replace Rh := Lib.hid (Rh.out.call HBX.out)
        clear HBX
        refine take_yes (i := 21) (d := 149) (v := ?_) rfl rfl (by kernel_rfl) (by kernel_rfl) (by kernel_rfl) (fun _ _ _ h => h) (by kernel_rfl) ?_ hHeld ?_
        rotate_left
        · (intro w hSw; (try dsimp only at hSw); go_simp; try (with_reducible rfl))
        try simp only [Act.put, List.setIfInBounds_toArray, List.set_cons_zero, List.set_cons_succ]
        refine take_yes (i := 22) (d := 150) (v := ?_) rfl rfl (by kernel_rfl) (by kernel_rfl) (by kernel_rfl) (fun _ _ _ h => h) (by kernel_rfl) ?_ hHeld ?_
        rotate_left
        · (intro w hSw; (try dsimp only at hSw); go_simp; try (with_reducible rfl))
        try simp only [Act.put, List.setIfInBounds_toArray, List.set_cons_zero, List.set_cons_succ]
        refine take_yes (i := 23) (d := 151) (v := ?_) rfl rfl (by kernel_rfl) (by kernel_rfl) (by kernel_rfl) (fun _ _ _ h => h) (by kernel_rfl) ?_ hHeld ?_
        rotate_left
        · (intro w hSw; (try dsimp only at hSw); go_simp; try (with_reducible rfl))
        try simp only [Act.put, List.setIfInBounds_toArray, List.set_cons_zero, List.set_cons_succ]
        refine take_yes (i := 24) (d := 152) (v := ?_) rfl rfl (by kernel_rfl) (by kernel_rfl) (by kernel_rfl) (fun _ _ _ h => h) (by kernel_rfl) ?_ hHeld ?_
        rotate_left
        · (intro w hSw; (try dsimp only at hSw); go_simp; try (with_reducible rfl))
        try simp only [Act.put, List.setIfInBounds_toArray, List.set_cons_zero, List.set_cons_succ]
        refine wpAnyH_done (by kernel_rfl) ?_ _
        refine NoPanic.normal ?_
        clear hHeld
        go_wp2_with fail
        go_meet
        exact ⟨rfl, S⟩
      · rw [hk]
        clear hk kb
        have hbd := (Below.refl v12.heap.size v12).drew
        refine wp_region_noPanic ?_
        refine wp_region_held_drew (S := (fun w' => Below 0 w' w')) (by kernel_rfl) ?_ (fun hHeld => ?_)
        · ((try dsimp only); exact Below.refl 0 _)
        replace S := Lib.hid (S.out.call hbd)
        replace Rb := Lib.hid (Rb.out.call hbd)
        replace Bx := Lib.hid (Bx.out.call hbd)
        replace Rg := Lib.hid (Rg.out.call hbd)
        replace Rh := Lib.hid (Rh.out.call hbd)
        clear hbd
        generalize v12.drew = ud at *
        refine take_yes (i := 0) (d := 128) (v := ?_) rfl rfl (by kernel_rfl) (by kernel_rfl) (by kernel_rfl) (fun _ _ _ h => h) (by kernel_rfl) ?_ hHeld ?_
        rotate_left
        · (intro w hSw; (try dsimp only at hSw); go_simp; try (with_reducible rfl))
        try simp only [Act.put, List.setIfInBounds_toArray, List.set_cons_zero, List.set_cons_succ]
        refine take_yes (i := 1) (d := 129) (v := ?_) rfl rfl (by kernel_rfl) (by kernel_rfl) (by kernel_rfl) (fun _ _ _ h => h) (by kernel_rfl) ?_ hHeld ?_
        rotate_left
        · (intro w hSw; (try dsimp only at hSw); go_simp; try (with_reducible rfl))
        try simp only [Act.put, List.setIfInBounds_toArray, List.set_cons_zero, List.set_cons_succ]
        refine take_yes (i := 2) (d := 130) (v := ?_) rfl rfl (by kernel_rfl) (by kernel_rfl) (by kernel_rfl) (fun _ _ _ h => h) (by kernel_rfl) ?_ hHeld ?_
        rotate_left
        · (intro w hSw; (try dsimp only at hSw); go_simp; try (with_reducible rfl))
        try simp only [Act.put, List.setIfInBounds_toArray, List.set_cons_zero, List.set_cons_succ]
        refine take_yes (i := 3) (d := 131) (v := ?_) rfl rfl (by kernel_rfl) (by kernel_rfl) (by kernel_rfl) (fun _ _ _ h => h) (by kernel_rfl) ?_ hHeld ?_
        rotate_left
        · (intro w hSw; (try dsimp only at hSw); go_simp; try (with_reducible rfl))
        try simp only [Act.put, List.setIfInBounds_toArray, List.set_cons_zero, List.set_cons_succ]
        refine take_yes (i := 4) (d := 132) (v := ?_) rfl rfl (by kernel_rfl) (by kernel_rfl) (by kernel_rfl) (fun _ _ _ h => h) (by kernel_rfl) ?_ hHeld ?_
        rotate_left
        · (intro w hSw; (try dsimp only at hSw); go_simp; try (with_reducible rfl))
        try simp only [Act.put, List.setIfInBounds_toArray, List.set_cons_zero, List.set_cons_succ]
        refine take_yes (i := 5) (d := 133) (v := ?_) rfl rfl (by kernel_rfl) (by kernel_rfl) (by kernel_rfl) (fun _ _ _ h => h) (by kernel_rfl) ?_ hHeld ?_
        rotate_left
        · (intro w hSw; (try dsimp only at hSw); go_simp; try (with_reducible rfl))
        try simp only [Act.put, List.setIfInBounds_toArray, List.set_cons_zero, List.set_cons_succ]
        refine wpAnyH_ready (rs := [6]) (by kernel_rfl) (by simp) ?_
        refine AllReadyH.cons rfl (fun K hK => ?_) (AllReadyH.nil)
        go_simp
        (go_at_call 54; refine (rSections_same Rg.out.rd Rh.out.rd).mono ?_; rintro e v15 ⟨rfl, hb⟩; have HBX := Lib.hid hb; clear hb)
        (first | refine hK.out _ _ ?_ (fun hHeld1 => ?_) | (go_wp2_with fail; refine hK.out _ _ ?_ (fun hHeld1 => ?_)))
        · ((try dsimp only); exact Below.refl 0 _)
        clear hK K hHeld
        have hHeld := hHeld1
        clear hHeld1
        try simp only [Act.put, List.setIfInBounds_toArray, List.set_cons_zero, List.set_cons_succ]
        replace S := Lib.hid (S.out.call HBX.out)
        replace Rb := Lib.hid (Rb.out.call HBX.out)
        replace Bx := Lib.hid (Bx.out.call HBX.out)
        replace Rg := Lib.hid (Rg.out.call HBX.out)
        replace Rh := Lib.hid (Rh.out.call HBX.out)
        clear HBX
        refine take_yes (i := 7) (d := 135) (v := ?_) rfl rfl (by kernel_rfl) (by kernel_rfl) (by kernel_rfl) (fun _ _ _ h => h) (by kernel_rfl) ?_ hHeld ?_
        rotate_left
        · (intro w hSw; (try dsimp only at hSw); go_simp; try (with_reducible rfl))
        try simp only [Act.put, List.setIfInBounds_toArray, List.set_cons_zero, List.set_cons_succ]
        refine take_yes (i := 8) (d := 136) (v := ?_) rfl rfl (by kernel_rfl) (by kernel_rfl) (by kernel_rfl) (fun _ _ _ h => h) (by kernel_rfl) ?_ hHeld ?_
        rotate_left
        · (intro w hSw; (try dsimp only at hSw); go_simp; try (with_reducible rfl))
        try simp only [Act.put, List.setIfInBounds_toArray, List.set_cons_zero, List.set_cons_succ]
        refine take_yes (i := 9) (d := 137) (v := ?_) rfl rfl (by kernel_rfl) (by kernel_rfl) (by kernel_rfl) (fun _ _ _ h => h) (by kernel_rfl) ?_ hHeld ?_
        rotate_left
        · (intro w hSw; (try dsimp only at hSw); go_simp; try (with_reducible rfl))
        try simp only [Act.put, List.setIfInBounds_toArray, List.set_cons_zero, List.set_cons_succ]
        refine take_yes (i := 10) (d := 138) (v := ?_) rfl rfl (by kernel_rfl) (by kernel_rfl) (by kernel_rfl) (fun _ _ _ h => h) (by kernel_rfl) ?_ hHeld ?_
        rotate_left
        · (intro w hSw; (try dsimp only at hSw); go_simp; try (with_reducible rfl))
        try simp only [Act.put, List.setIfInBounds_toArray, List.set_cons_zero, List.set_cons_succ]
        refine take_yes (i := 11) (d := 139) (v := ?_) rfl rfl (by kernel_rfl) (by kernel_rfl) (by kernel_rfl) (fun _ _ _ h => h) (by kernel_rfl) ?_ hHeld ?_
        rotate_left
        · (intro w hSw; (try dsimp only at hSw); go_simp; try (with_reducible rfl))
        try simp only [Act.put, List.setIfInBounds_toArray, List.set_cons_zero, List.set_cons_succ]
        refine take_no (i := 12) (d := 140) rfl rfl (by kernel_rfl) (by kernel_rfl) (by kernel_rfl) (fun _ _ _ h => h) (by kernel_rfl) hHeld ?_
        try simp only [Act.put, List.setIfInBounds_toArray, List.set_cons_zero, List.set_cons_succ]
        refine take_no (i := 13) (d := 141) rfl rfl (by kernel_rfl) (by kernel_rfl) (by kernel_rfl) (fun _ _ _ h => h) (by kernel_rfl) hHeld ?_
        try simp only [Act.put, List.setIfInBounds_toArray, List.set_cons_zero, List.set_cons_succ]
        refine take_no (i := 14) (d := 142) rfl rfl (by kernel_rfl) (by kernel_rfl) (by kernel_rfl) (fun _ _ _ h => h) (by kernel_rfl) hHeld ?_
        try simp only [Act.put, List.setIfInBounds_toArray, List.set_cons_zero, List.set_cons_succ]
        refine take_no (i := 15) (d := 143) rfl rfl (by kernel_rfl) (by kernel_rfl) (by kernel_rfl) (fun _ _ _ h => h) (by kernel_rfl) hHeld ?_
        try simp only [Act.put, List.setIfInBounds_toArray, List.set_cons_zero, List.set_cons_succ]
        refine take_no (i := 16) (d := 144) rfl rfl (by kernel_rfl) (by kernel_rfl) (by kernel_rfl) (fun _ _ _ h => h) (by kernel_rfl) hHeld ?_
        try simp only [Act.put, List.setIfInBounds_toArray, List.set_cons_zero, List.set_cons_succ]
        refine take_no (i := 17) (d := 145) rfl rfl (by kernel_rfl) (by kernel_rfl) (by kernel_rfl) (fun _ _ _ h => h) (by kernel_rfl) hHeld ?_
        try simp only [Act.put, List.setIfInBounds_toArray, List.set_cons_zero, List.set_cons_succ]
        refine take_no (i := 18) (d := 146) rfl rfl (by kernel_rfl) (by kernel_rfl) (by kernel_rfl) (fun _ _ _ h => h) (by kernel_rfl) hHeld ?_
        try simp only [Act.put, List.setIfInBounds_toArray, List.set_cons_zero, List.set_cons_succ]
        refine take_no (i := 19) (d := 147) rfl rfl (by kernel_rfl) (by kernel_rfl) (by kernel_rfl) (fun _ _ _ h => h) (by kernel_rfl) hHeld ?_
        try simp only [Act.put, List.setIfInBounds_toArray, List.set_cons_zero, List.set_cons_succ]
        refine take_no (i := 20) (d := 148) rfl rfl (by kernel_rfl) (by kernel_rfl) (by kernel_rfl) (fun _ _ _ h => h) (by kernel_rfl) hHeld ?_
        try simp only [Act.put, List.setIfInBounds_toArray, List.set_cons_zero, List.set_cons_succ]
        refine take_no (i := 21) (d := 149) rfl rfl (by kernel_rfl) (by kernel_rfl) (by kernel_rfl) (fun _ _ _ h => h) (by kernel_rfl) hHeld ?_
        try simp only [Act.put, List.setIfInBounds_toArray, List.set_cons_zero, List.set_cons_succ]
        refine take_no (i := 22) (d := 150) rfl rfl (by kernel_rfl) (by kernel_rfl) (by kernel_rfl) (fun _ _ _ h => h) (by kernel_rfl) hHeld ?_
        try simp only [Act.put, List.setIfInBounds_toArray, List.set_cons_zero, List.set_cons_succ]
        refine take_yes (i := 23) (d := 151) (v := ?_) rfl rfl (by kernel_rfl) (by kernel_rfl) (by kernel_rfl) (fun _ _ _ h => h) (by kernel_rfl) ?_ hHeld ?_
        rotate_left
        · (intro w hSw; (try dsimp only at hSw); go_simp; try (with_reducible rfl))
        try simp only [Act.put, List.setIfInBounds_toArray, List.set_cons_zero, List.set_cons_succ]
        refine take_yes (i := 24) (d := 152) (v := ?_) rfl rfl (by kernel_rfl) (by kernel_rfl) (by kernel_rfl) (fun _ _ _ h => h) (by kernel_rfl) ?_ hHeld ?_
        rotate_left
        · (intro w hSw; (try dsimp only at hSw); go_simp; try (with_reducible rfl))
        try simp only [Act.put, List.setIfInBounds_toArray, List.set_cons_zero, List.set_cons_succ]
        refine wpAnyH_done (by kernel_rfl) ?_ _
        refine NoPanic.normal ?_
        clear hHeld
        go_wp2_with fail
        go_meet
        exact ⟨rfl, S⟩
    case rest =>
      clear S Rb Rg Rh Bx kb HFX
      obtain ⟨W2, rfl⟩ : ∃ W, W = wc := ⟨_, rfl⟩
      obtain ⟨rfl, S⟩ := hcut
      have hlo := S.out.sz
      go_wp2_with fail
      refine (DrawShiftSection_any A _ c W2 S.out.bytes hxl).mono ?_
      rintro e v16 ⟨Pd, pd, xd, n, q, rfl, r1, hld, hb⟩
      replace S := Lib.hid (S.out.call hb)
      have Rd := Lib.hid (OwD.low r1 hlo)
      clear hb r1 hlo
      have hlo := S.out.sz
      go_wp2_with fail
      refine (ShiftSection_any _ _ xd n q _ Rd.out.rd.cells Rd.out.rd.1 Rd.out.rd.2.2.1 Rd.out.rd.2.2.2).mono ?_
      rintro e v17 ⟨Pg, pg, rfl, r1, hb⟩
      replace S := Lib.hid (S.out.call hb)
      replace Rd := Lib.hid (Rd.out.call hb)
      have Rg := Lib.hid (OwD.low (show OwD SectionK 78 _ v17 Pg pg (shL xd n q) from r1) hlo)
      clear hb r1 hlo
      obtain ⟨g3, Hg3⟩ : ∃ zz0, Hid (shL xd n q = zz0) := ⟨_, Lib.hid rfl⟩
      rw [Hg3.out] at Rg ⊢
      have hlo := S.out.sz
      go_wp2_with fail
      refine (sShiftSection_any _ _ xd n q _ Rd.out.rd.cells Rd.out.rd.1 Rd.out.rd.2.2.1 Rd.out.rd.2.2.2).mono ?_
      rintro e v18 ⟨Ph, ph, rfl, r1, hb⟩
      replace S := Lib.hid (S.out.call hb)
      replace Rd := Lib.hid (Rd.out.call hb)
      replace Rg := Lib.hid (Rg.out.call hb)
      have Rh := Lib.hid (OwD.low (show OwD SectionK 78 _ v18 Ph ph (shL xd n q) from r1) hlo)
      clear hb r1 hlo
      rw [Hg3.out] at Rh ⊢
      have kb : (shB xd n q != shB xd n q) = false := by simp
      go_wp2_with fail
      refine (rSections_same Rg.out.rd Rh.out.rd).mono ?_
      rintro e v19 ⟨rfl, hb⟩
      replace S := Lib.hid (S.out.call hb)
      replace Rd := Lib.hid (Rd.out.call hb)
      replace Rg := Lib.hid (Rg.out.call hb)
      replace Rh := Lib.hid (Rh.out.call hb)
      clear hb
      clear Rh
      clear kb
      go_upto_if 182 with fail
      go_cut [24, 26] (fun u1 u2 wx => Hid (Lst w wx A xs.length))
      case first => as_aux_lemma =>
        rcases Bool.eq_false_or_eq_true (shB xd n q) with hk | hk
        · rw [hk]
          obtain ⟨m, rfl, hm, h1, h2, h3, h4, h5, ⟨r1, r2, r3, r4⟩, h6⟩ := shift_law hk
          rw [Hg3.out] at h2 h3 h4 h5 h6
          obtain ⟨po, Hpo⟩ : ∃ z, Hid (poI xd (m : Int) = z) := ⟨_, Lib.hid rfl⟩
          obtain ⟨pq, Hpq⟩ : ∃ z, Hid (poI g3 (m : Int) = z) := ⟨_, Lib.hid rfl⟩
          rw [Hpo.out, Hpq.out] at h3 h6
          have T1 := Lib.hid h1
          have T2 := Lib.hid h2
          have T4 := Lib.hid h4
          have T5 := Lib.hid h5
          have T6 := Lib.hid h6
          have HM := Lib.hid hm
          clear h1 h2 h4 h5 h6 hk hm
          go_wp2_with fail
          refine (PartOf_any _ _ xd m _ Rd.out.rd.cells Rd.out.rd.2.2.1 Rd.out.rd.2.2.2).mono ?_
          rintro e v20 ⟨rfl, hb⟩
          replace S := Lib.hid (S.out.call hb)
          replace Rd := Lib.hid (Rd.out.call hb)
          replace Rg := Lib.hid (Rg.out.call hb)
          clear hb
          rw [T1.out, Hpo.out]
          go_wp2_with fail
          refine (PartOf_any _ _ g3 m _ Rg.out.rd.cells Rg.out.rd.2.2.1 Rg.out.rd.2.2.2).mono ?_
          rintro e v21 ⟨rfl, hb⟩
          replace S := Lib.hid (S.out.call hb)
          replace Rd := Lib.hid (Rd.out.call hb)
          replace Rg := Lib.hid (Rg.out.call hb)
          clear hb
          rw [T2.out, Hpq.out]
          obtain ⟨a, ha, hc0, _⟩ := sec_cell Rd.out.rd.cells HM.out
          obtain ⟨a2, ha2, hd0, _⟩ := sec_cell Rg.out.rd.cells (show m < g3.length by rw [T4.out]; exact HM.out)
          subst ha
          subst ha2
          rw [T5.out] at hd0
          obtain ⟨d, hdd⟩ : ∃ d, dAt xd m = d := ⟨_, rfl⟩
          rw [hdd] at hc0 hd0 r1 r2
          clear hdd
          have q3 : IntKind.i64.wrap (d + q) = d + q := by rw [IntKind.wrap_i64]; omega
          have q4 : IntKind.i64.wrap (-q) = -q := by rw [IntKind.wrap_i64]; omega
          have kl : decide (pq < po) = false := decide_eq_false (by omega)
          have i1 : (m : Int) < (xd.length : Int) := by (have := HM.out; omega)
          have i2 : (m : Int) < (g3.length : Int) := by rw [T4.out]; (have := HM.out; omega)
          go_wp2_with fail
          go_quiet (fail)
          have hbd := below_drewN (Below.refl v21.heap.size v21) nq
          replace S := Lib.hid (S.out.call hbd)
          replace Rd := Lib.hid (Rd.out.call hbd)
          replace Rg := Lib.hid (Rg.out.call hbd)
          clear hbd
          generalize (v21.drewN nq) = v22 at *
          clear hc0 hd0 i1 i2 q3 kl r1 r2 r3 r4
          by_cases he : pq = po
          · have ke : (pq == po) = true := by simp [he]
            obtain ⟨h7, h8⟩ := T6.out he
            have T7 := Lib.hid h7
            have T8 := Lib.hid h8
            clear h7 h8 he h3
            have hlo := S.out.sz
            go_wp2_with fail
            refine (ShiftSection_any _ _ g3 m (-q) _ Rg.out.rd.cells Rg.out.rd.1 Rg.out.rd.2.2.1 Rg.out.rd.2.2.2).mono ?_
            rintro e v23 ⟨Ph, ph, rfl, r1, hb⟩
            replace S := Lib.hid (S.out.call hb)
            replace Rd := Lib.hid (Rd.out.call hb)
            replace Rg := Lib.hid (Rg.out.call hb)
            have Rh := Lib.hid (OwD.low (show OwD SectionK 78 _ v23 Ph ph (shL g3 m (-q)) from r1) hlo)
            clear hb r1 hlo
            rw [T8.out] at Rh ⊢
            rw [T7.out]
            go_wp2_with fail
            refine (rSections_same Rh.out.rd Rd.out.rd).mono ?_
            rintro e v24 ⟨rfl, hb⟩
            replace S := Lib.hid (S.out.call hb)
            replace Rd := Lib.hid (Rd.out.call hb)
            replace Rg := Lib.hid (Rg.out.call hb)
            replace Rh := Lib.hid (Rh.out.call hb)
            clear hb
            go_wp2_with fail
            go_meet
            exact S
          · have ke : (pq == po) = false := by simp [he]
            go_wp2_with fail
            go_meet
            exact S
        · rw [hk]
          go_wp2_with fail
          go_meet
          exact S
      case rest =>
        clear S Rd Rg
        obtain ⟨W3, rfl⟩ : ∃ W, W = wc := ⟨_, rfl⟩
        have S := hcut
        clear hcut
        have hlo := S.out.sz
        go_wp2_with fail
        refine (DrawBelongsTo_any A _ c W3 S.out.bytes hxl).mono ?_
        rintro e v25 ⟨Pu, pu, xu, m, rfl, r1, hlu, hb⟩
        replace S := Lib.hid (S.out.call hb)
        have Ru := Lib.hid (OwD.low r1 hlo)
        clear hb r1 hlo
        go_wp2_with fail
        refine (BelongsTo_any _ _ xu m _ Ru.out.rd.cells Ru.out.rd.2.2.1 Ru.out.rd.2.2.2).mono ?_
        rintro e v26 ⟨rfl, hb⟩
        replace S := Lib.hid (S.out.call hb)
        replace Ru := Lib.hid (Ru.out.call hb)
        clear hb
        go_wp2_with fail
        refine (sBelongsTo_any _ _ xu m _ Ru.out.rd.cells Ru.out.rd.2.2.1 Ru.out.rd.2.2.2).mono ?_
        rintro e v27 ⟨rfl, hb⟩
        replace S := Lib.hid (S.out.call hb)
        replace Ru := Lib.hid (Ru.out.call hb)
        clear hb
        obtain ⟨z1, hz1⟩ : ∃ z, upI xu m = z := ⟨_, rfl⟩
        obtain ⟨z2, hz2⟩ : ∃ z, upB xu m = z := ⟨_, rfl⟩
        rw [hz1, hz2]
        have k1 : (z1 == z1) = true := by simp
        have k2 : (z2 == z2) = true := by simp
        clear hz1 hz2
        go_wp2_with (go_ret; exact ⟨rfl, S.out.on⟩)
end Go.Proofs.Ytifahgdalgjgfaa.fnSections
