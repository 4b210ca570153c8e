/- The walk of the law FnFloor: it returns true. Conditions: none. -/
import Derived.Test.YtbpikbcnpmplfaaFt2
import Derived.Test.YtbpikbcnpmplfaaDr9
import Derived.Test.YtbpikbcnpmplfaaLst
import Derived.Test.YtbpikbcnpmplfaaByt
import Derived.Deep.DrawnRows
import Derived.Deep.Cut
import Derived.Deep.CutRange
import Derived.Deep.DeepCutAuto
namespace Go.Proofs.Ytbpikbcnpmplfaa.fnFloor
open Go.RowKit
set_option linter.unusedVariables false
set_option linter.unusedSimpArgs false
attribute [local go_sem ↓] Go.wp_at_zero Go.wp_at_succ
set_option maxRecDepth 100000 in
set_option maxHeartbeats 16000000 in
theorem walk (A : Option Addr) (c : Nat) (xs : List Int) (w : World) (hx : xs.length ≤ c ∧ Cells w A (ByteK.row xs) ∧ xs.length ≤ maxLen ∧ ∀ x ∈ xs, ByteK.fit x) :
    Calls Try.prog 6 #[.slice A xs.length c] w fun e w' => e = .returned (.bool true) ∧ Below w.heap.size w w' := by
  have S := Lib.hid (Lst.mk (Below.refl w.heap.size w) (bytesC_of hx.2.1 hx.2.2.2))
  clear hx
  by_cases hbig : 65536 < xs.length
  · have hd : decide (65536 < xs.length) = true := decide_eq_true hbig
    go_enter Try.func6, Try.ntmps6
    go_wp2_with fail
    refine (vBig_any A _ c w).mono ?_
    rintro e w1 ⟨rfl, hb⟩
    rw [hd]
    go_wp2
    go_ret
    exact ⟨rfl, hb⟩
  have hd : decide (65536 < xs.length) = false := decide_eq_false hbig
  have hxl : xs.length ≤ 65536 := by omega
  clear hbig
  go_enter Try.func6, Try.ntmps6
  go_wp2_with fail
  refine (vBig_any A _ c w).mono ?_
  rintro e v1 ⟨rfl, hb⟩
  replace S := Lib.hid (S.out.call hb)
  rw [hd]
  clear hd hb
  have hlo := S.out.sz
  go_wp2_with fail
  refine (DrawAskFloor_any A _ c v1 S.out.bytes hxl).mono ?_
  rintro e v2 ⟨Pf, pf, Df, df, f, m, rfl, ⟨ow1, ow2⟩, hlf1, hlf2, hb⟩
  replace S := Lib.hid (S.out.call hb)
  clear hb
  have Of1 := Lib.hid (OwD.low (show OwD IntK 3 _ v2 Pf pf f.wt from ow1) hlo)
  have Of2 := Lib.hid (OwD.low (show OwD ShareK 43 _ v2 Df df f.sh from ow2) hlo)
  clear ow1 ow2 hlo
  have hqf := S.out.sz
  have Bf := Lib.hid (BT.new v2 #[.int .i64 f.t, .int .i64 f.s, .int .i64 f.sp, .slice Pf f.wt.length pf, .slice Df f.sh.length df] 29 v2.heap.size rfl)
  have hbl := below1 v2 (.cells #[.int .i64 f.t, .int .i64 f.s, .int .i64 f.sp, .slice Pf f.wt.length pf, .slice Df f.sh.length df] 29)
  replace S := Lib.hid (S.out.call hbl)
  replace Of1 := Lib.hid (Of1.out.call hbl)
  replace Of2 := Lib.hid (Of2.out.call hbl)
  clear hbl
  go_upto_region 4 with fail
  generalize (v2.alloc (.cells #[.int .i64 f.t, .int .i64 f.s, .int .i64 f.sp, .slice Pf f.wt.length pf, .slice Df f.sh.length df] 29)) = v3 at *
  generalize v2.heap.size = qf at *
  have hlo := S.out.sz
  go_wp2_with (refine wpList_load_mid rfl 29 _ rfl qf 0 rfl [.int .i64 f.t, .int .i64 f.s, .int .i64 f.sp, .slice Pf f.wt.length pf, .slice Df f.sh.length df] _ Bf.out.rng Try.underlying29 rfl (by kernel_rfl) ?_)
  refine (iAskFloor ⟨Of1.out.rd, Of2.out.rd⟩ m).mono ?_
  rintro e v4 ⟨Pg, pg, Dg, dg, rfl, ow1, ow2, hb⟩
  replace S := Lib.hid (S.out.call hb)
  replace Of1 := Lib.hid (Of1.out.call hb)
  replace Of2 := Lib.hid (Of2.out.call hb)
  replace Bf := Lib.hid (Bf.out.call hb)
  clear hb
  have Og1 := Lib.hid (OwD.low (show OwD IntK 3 _ v4 Pg pg (asF f m).wt from ow1) hlo)
  have Og2 := Lib.hid (OwD.low (show OwD ShareK 43 _ v4 Dg dg (asF f m).sh from ow2) hlo)
  clear ow1 ow2 hlo
  obtain ⟨g, Hg⟩ : ∃ zz0, Hid (asF f m = zz0) := ⟨_, Lib.hid rfl⟩
  rw [Hg.out] at Og1 Og2 ⊢
  have hqg := S.out.sz
  have hqf_qg := Bf.out.lt
  have Bg := Lib.hid (BT.new v4 #[.int .i64 g.t, .int .i64 g.s, .int .i64 g.sp, .slice Pg g.wt.length pg, .slice Dg g.sh.length dg] 29 v4.heap.size rfl)
  have hbl := below1 v4 (.cells #[.int .i64 g.t, .int .i64 g.s, .int .i64 g.sp, .slice Pg g.wt.length pg, .slice Dg g.sh.length dg] 29)
  replace S := Lib.hid (S.out.call hbl)
  replace Of1 := Lib.hid (Of1.out.call hbl)
  replace Of2 := Lib.hid (Of2.out.call hbl)
  replace Bf := Lib.hid (Bf.out.call hbl)
  replace Og1 := Lib.hid (Og1.out.call hbl)
  replace Og2 := Lib.hid (Og2.out.call hbl)
  clear hbl
  go_upto_region 5 with fail
  generalize (v4.alloc (.cells #[.int .i64 g.t, .int .i64 g.s, .int .i64 g.sp, .slice Pg g.wt.length pg, .slice Dg g.sh.length dg] 29)) = v5 at *
  generalize v4.heap.size = qg at *
  have hlo := S.out.sz
  go_wp2_with (refine wpList_load_mid rfl 29 _ rfl qf 0 rfl [.int .i64 f.t, .int .i64 f.s, .int .i64 f.sp, .slice Pf f.wt.length pf, .slice Df f.sh.length df] _ Bf.out.rng Try.underlying29 rfl (by kernel_rfl) ?_)
  refine (rAskFloor ⟨Of1.out.rd, Of2.out.rd⟩ m).mono ?_
  rintro e v6 ⟨Ph, ph, Dh, dh, rfl, ow1, ow2, hb⟩
  replace S := Lib.hid (S.out.call hb)
  replace Of1 := Lib.hid (Of1.out.call hb)
  replace Of2 := Lib.hid (Of2.out.call hb)
  replace Bf := Lib.hid (Bf.out.call hb)
  replace Og1 := Lib.hid (Og1.out.call hb)
  replace Og2 := Lib.hid (Og2.out.call hb)
  replace Bg := Lib.hid (Bg.out.call hb)
  clear hb
  have Oh1 := Lib.hid (OwD.low (show OwD IntK 3 _ v6 Ph ph (asF f m).wt from ow1) hlo)
  have Oh2 := Lib.hid (OwD.low (show OwD ShareK 43 _ v6 Dh dh (asF f m).sh from ow2) hlo)
  clear ow1 ow2 hlo
  rw [Hg.out] at Oh1 Oh2 ⊢
  have hqh := S.out.sz
  have hqf_qh := Bf.out.lt
  have hqg_qh := Bg.out.lt
  have Bh := Lib.hid (BT.new v6 #[.int .i64 g.t, .int .i64 g.s, .int .i64 g.sp, .slice Ph g.wt.length ph, .slice Dh g.sh.length dh] 29 v6.heap.size rfl)
  have hbl := below1 v6 (.cells #[.int .i64 g.t, .int .i64 g.s, .int .i64 g.sp, .slice Ph g.wt.length ph, .slice Dh g.sh.length dh] 29)
  replace S := Lib.hid (S.out.call hbl)
  replace Of1 := Lib.hid (Of1.out.call hbl)
  replace Of2 := Lib.hid (Of2.out.call hbl)
  replace Bf := Lib.hid (Bf.out.call hbl)
  replace Og1 := Lib.hid (Og1.out.call hbl)
  replace Og2 := Lib.hid (Og2.out.call hbl)
  replace Bg := Lib.hid (Bg.out.call hbl)
  replace Oh1 := Lib.hid (Oh1.out.call hbl)
  replace Oh2 := Lib.hid (Oh2.out.call hbl)
  clear hbl
  go_upto_region 6 with fail
  generalize (v6.alloc (.cells #[.int .i64 g.t, .int .i64 g.s, .int .i64 g.sp, .slice Ph g.wt.length ph, .slice Dh g.sh.length dh] 29)) = v7 at *
  generalize v6.heap.size = qh at *
  have kb : (asB f m != asB f m) = false := by simp
  have kv : (vldF f != vldF f) = false := by simp
  have bg0 := Bg.out.box.1 0 _ rfl
  have bg1 := Bg.out.box.1 1 _ rfl
  have bg2 := Bg.out.box.1 2 _ rfl
  have bg3 := Bg.out.box.1 3 _ rfl
  have bg4 := Bg.out.box.1 4 _ rfl
  have bh0 := Bh.out.box.1 0 _ rfl
  have bh1 := Bh.out.box.1 1 _ rfl
  have bh2 := Bh.out.box.1 2 _ rfl
  have bh3 := Bh.out.box.1 3 _ rfl
  have bh4 := Bh.out.box.1 4 _ rfl
  have bf0 := Bf.out.box.1 0 _ rfl
  have bf1 := Bf.out.box.1 1 _ rfl
  have bf2 := Bf.out.box.1 2 _ rfl
  have bf3 := Bf.out.box.1 3 _ rfl
  have bf4 := Bf.out.box.1 4 _ rfl
  have zf := Bf.out.lt
  have zg := Bg.out.lt
  have zh := Bh.out.lt
  go_region_held3 (fun w' => Below v7.heap.size v7 w' ∧ (∀ b o, b < v7.heap.size → w'.cell? ⟨b, o, none⟩ = v7.cell? ⟨b, o, none⟩))
    ((first | (refine mkS ?_; assumption) | (refine drewS ?_; assumption) | (refine mkS ?_; go_grown)))
    (first
      | (go_at_call 18; refine (vFloor_same ⟨Og1.out.rd.below (S1 (by assumption)) (Nat.le_refl _), Og2.out.rd.below (S1 (by assumption)) (Nat.le_refl _)⟩ ⟨Oh1.out.rd.below (S1 (by assumption)) (Nat.le_refl _), Oh2.out.rd.below (S1 (by assumption)) (Nat.le_refl _)⟩).mono ?_; rintro e w' ⟨rfl, hb⟩; obtain ⟨hB, hzz⟩ := callS (by assumption) (Nat.le_refl _) hb; clear hb)
      | (go_at_call 19; refine (IsValidFloor_abs (Of1.out.rd.below (S1 (by assumption)) (Nat.le_refl _)) (Of2.out.rd.below (S1 (by assumption)) (Nat.le_refl _))).mono ?_; rintro e w' ⟨rfl, hb⟩; obtain ⟨hB, hzz⟩ := callS (by assumption) (Nat.le_refl _) hb; clear hb)
      | (go_at_call 33; refine (sIsValidFloor_abs (Of1.out.rd.below (S1 (by assumption)) (Nat.le_refl _)) (Of2.out.rd.below (S1 (by assumption)) (Nat.le_refl _))).mono ?_; rintro e v8 ⟨rfl, hb⟩; obtain ⟨hB, hzz⟩ := callS (by assumption) (Nat.le_refl _) hb; have HBz := Lib.hid hB; clear hb))
  have hb := HBz.out
  replace S := Lib.hid (S.out.call hb)
  replace Of1 := Lib.hid (Of1.out.call hb)
  replace Of2 := Lib.hid (Of2.out.call hb)
  replace Bf := Lib.hid (Bf.out.call hb)
  replace Og1 := Lib.hid (Og1.out.call hb)
  replace Og2 := Lib.hid (Og2.out.call hb)
  replace Bg := Lib.hid (Bg.out.call hb)
  replace Oh1 := Lib.hid (Oh1.out.call hb)
  replace Oh2 := Lib.hid (Oh2.out.call hb)
  replace Bh := Lib.hid (Bh.out.call hb)
  clear hb HBz kb kv bg0 bg1 bg2 bg3 bg4 bh0 bh1 bh2 bh3 bh4 bf0 bf1 bf2 bf3 bf4 zf zg zh
  clear Bh Oh1 Oh2
  go_upto_if 79 with fail
  go_cut [6, 8] (fun u v wx => Hid (Lst w wx A xs.length))
  case first => as_aux_lemma =>
    rcases Bool.eq_false_or_eq_true (asB f m) with hk | hk
    · rw [hk]
      obtain ⟨h1, h2, h3, h4, h5, h6, h7⟩ := as_law hk
      rw [Hg.out] at h1 h2 h3 h4 h5 h6 h7
      have T1 := Lib.hid h1
      have T2 := Lib.hid h2
      have T3 := Lib.hid h3
      have T4 := Lib.hid h4
      have T5 := Lib.hid h5
      clear h1 h2 h3 h4 h5 hk
      have hlo := S.out.sz
      go_wp2_with (refine wpList_load_mid rfl 29 _ rfl qg 0 rfl [.int .i64 g.t, .int .i64 g.s, .int .i64 g.sp, .slice Pg g.wt.length pg, .slice Dg g.sh.length dg] _ Bg.out.rng Try.underlying29 rfl (by kernel_rfl) ?_)
      refine (SpeakingOrder_any Pg Dg pg dg g v8 Og1.out.rd.cells Og1.out.rd.2.2.1 Og1.out.rd.1 Og2.out.rd.cells Og2.out.rd.2.2.1).mono ?_
      rintro e v9 ⟨Q, Qc, rfl, oo, hb⟩
      replace S := Lib.hid (S.out.call hb)
      replace Of1 := Lib.hid (Of1.out.call hb)
      replace Of2 := Lib.hid (Of2.out.call hb)
      replace Bf := Lib.hid (Bf.out.call hb)
      replace Og1 := Lib.hid (Og1.out.call hb)
      replace Og2 := Lib.hid (Og2.out.call hb)
      replace Bg := Lib.hid (Bg.out.call hb)
      have RQ := Lib.hid (OwD.low (show OwD IntK 3 _ v9 Q Qc (soL g) from oo) hlo)
      clear hb oo hlo
      obtain ⟨o, Ho⟩ : ∃ y, Hid (soL g = y) := ⟨_, Lib.hid rfl⟩
      rw [Ho.out] at RQ ⊢
      rw [T1.out]
      rw [Ho.out] at T2
      have hlo := S.out.sz
      go_wp2_with (refine wpList_load_mid rfl 29 _ rfl qg 0 rfl [.int .i64 g.t, .int .i64 g.s, .int .i64 g.sp, .slice Pg g.wt.length pg, .slice Dg g.sh.length dg] _ Bg.out.rng Try.underlying29 rfl (by kernel_rfl) ?_)
      refine (iLeaveWaiting ⟨Og1.out.rd, Og2.out.rd⟩ m).mono ?_
      rintro e v10 ⟨Pz, pz, Dz, dz, rfl, ow1, ow2, hb⟩
      replace S := Lib.hid (S.out.call hb)
      replace Of1 := Lib.hid (Of1.out.call hb)
      replace Of2 := Lib.hid (Of2.out.call hb)
      replace Bf := Lib.hid (Bf.out.call hb)
      replace Og1 := Lib.hid (Og1.out.call hb)
      replace Og2 := Lib.hid (Og2.out.call hb)
      replace Bg := Lib.hid (Bg.out.call hb)
      replace RQ := Lib.hid (RQ.out.call hb)
      clear hb
      have Oz1 := Lib.hid (OwD.low (show OwD IntK 3 _ v10 Pz pz (lvF g m).wt from ow1) hlo)
      have Oz2 := Lib.hid (OwD.low (show OwD ShareK 43 _ v10 Dz dz (lvF g m).sh from ow2) hlo)
      clear ow1 ow2 hlo
      rw [T4.out] at Oz1 Oz2 ⊢
      rw [T3.out]
      have hqz := S.out.sz
      have hqf_qz := Bf.out.lt
      have hqg_qz := Bg.out.lt
      have Bz := Lib.hid (BT.new v10 #[.int .i64 f.t, .int .i64 f.s, .int .i64 f.sp, .slice Pz f.wt.length pz, .slice Dz f.sh.length dz] 29 v10.heap.size rfl)
      have hbl := below1 v10 (.cells #[.int .i64 f.t, .int .i64 f.s, .int .i64 f.sp, .slice Pz f.wt.length pz, .slice Dz f.sh.length dz] 29)
      replace S := Lib.hid (S.out.call hbl)
      replace Of1 := Lib.hid (Of1.out.call hbl)
      replace Of2 := Lib.hid (Of2.out.call hbl)
      replace Bf := Lib.hid (Bf.out.call hbl)
      replace Og1 := Lib.hid (Og1.out.call hbl)
      replace Og2 := Lib.hid (Og2.out.call hbl)
      replace Bg := Lib.hid (Bg.out.call hbl)
      replace RQ := Lib.hid (RQ.out.call hbl)
      replace Oz1 := Lib.hid (Oz1.out.call hbl)
      replace Oz2 := Lib.hid (Oz2.out.call hbl)
      clear hbl
      go_upto_region 11 with fail
      generalize (v10.alloc (.cells #[.int .i64 f.t, .int .i64 f.s, .int .i64 f.sp, .slice Pz f.wt.length pz, .slice Dz f.sh.length dz] 29)) = v11 at *
      generalize v10.heap.size = qz at *
      have hlo := S.out.sz
      go_wp2_with (refine wpList_load_mid rfl 29 _ rfl qg 0 rfl [.int .i64 g.t, .int .i64 g.s, .int .i64 g.sp, .slice Pg g.wt.length pg, .slice Dg g.sh.length dg] _ Bg.out.rng Try.underlying29 rfl (by kernel_rfl) ?_)
      refine (iAskFloor ⟨Og1.out.rd, Og2.out.rd⟩ m).mono ?_
      rintro e v12 ⟨Ph, ph, Dh, dh, rfl, ow1, ow2, hb⟩
      replace S := Lib.hid (S.out.call hb)
      replace Of1 := Lib.hid (Of1.out.call hb)
      replace Of2 := Lib.hid (Of2.out.call hb)
      replace Bf := Lib.hid (Bf.out.call hb)
      replace Og1 := Lib.hid (Og1.out.call hb)
      replace Og2 := Lib.hid (Og2.out.call hb)
      replace Bg := Lib.hid (Bg.out.call hb)
      replace RQ := Lib.hid (RQ.out.call hb)
      replace Oz1 := Lib.hid (Oz1.out.call hb)
      replace Oz2 := Lib.hid (Oz2.out.call hb)
      replace Bz := Lib.hid (Bz.out.call hb)
      clear hb
      have Oh1 := Lib.hid (OwD.low (show OwD IntK 3 _ v12 Ph ph (asF g m).wt from ow1) hlo)
      have Oh2 := Lib.hid (OwD.low (show OwD ShareK 43 _ v12 Dh dh (asF g m).sh from ow2) hlo)
      clear ow1 ow2 hlo
      obtain ⟨h, Hh⟩ : ∃ zz0, Hid (asF g m = zz0) := ⟨_, Lib.hid rfl⟩
      rw [Hh.out] at Oh1 Oh2 ⊢
      rw [T5.out]
      have hqh := S.out.sz
      have hqf_qh := Bf.out.lt
      have hqg_qh := Bg.out.lt
      have hqz_qh := Bz.out.lt
      have Bh := Lib.hid (BT.new v12 #[.int .i64 h.t, .int .i64 h.s, .int .i64 h.sp, .slice Ph h.wt.length ph, .slice Dh h.sh.length dh] 29 v12.heap.size rfl)
      have hbl := below1 v12 (.cells #[.int .i64 h.t, .int .i64 h.s, .int .i64 h.sp, .slice Ph h.wt.length ph, .slice Dh h.sh.length dh] 29)
      replace S := Lib.hid (S.out.call hbl)
      replace Of1 := Lib.hid (Of1.out.call hbl)
      replace Of2 := Lib.hid (Of2.out.call hbl)
      replace Bf := Lib.hid (Bf.out.call hbl)
      replace Og1 := Lib.hid (Og1.out.call hbl)
      replace Og2 := Lib.hid (Og2.out.call hbl)
      replace Bg := Lib.hid (Bg.out.call hbl)
      replace RQ := Lib.hid (RQ.out.call hbl)
      replace Oz1 := Lib.hid (Oz1.out.call hbl)
      replace Oz2 := Lib.hid (Oz2.out.call hbl)
      replace Bz := Lib.hid (Bz.out.call hbl)
      replace Oh1 := Lib.hid (Oh1.out.call hbl)
      replace Oh2 := Lib.hid (Oh2.out.call hbl)
      clear hbl
      go_upto_region 12 with fail
      generalize (v12.alloc (.cells #[.int .i64 h.t, .int .i64 h.s, .int .i64 h.sp, .slice Ph h.wt.length ph, .slice Dh h.sh.length dh] 29)) = v13 at *
      generalize v12.heap.size = qh at *
      go_wp2_with (refine wpList_load_mid rfl 29 _ rfl qg 0 rfl [.int .i64 g.t, .int .i64 g.s, .int .i64 g.sp, .slice Pg g.wt.length pg, .slice Dg g.sh.length dg] _ Bg.out.rng Try.underlying29 rfl (by kernel_rfl) ?_)
      refine (IsValidFloor_abs Og1.out.rd Og2.out.rd).mono ?_
      rintro e v14 ⟨rfl, hb⟩
      rw [T1.out]
      replace S := Lib.hid (S.out.call hb)
      replace Of1 := Lib.hid (Of1.out.call hb)
      replace Of2 := Lib.hid (Of2.out.call hb)
      replace Bf := Lib.hid (Bf.out.call hb)
      replace Og1 := Lib.hid (Og1.out.call hb)
      replace Og2 := Lib.hid (Og2.out.call hb)
      replace Bg := Lib.hid (Bg.out.call hb)
      replace RQ := Lib.hid (RQ.out.call hb)
      replace Oz1 := Lib.hid (Oz1.out.call hb)
      replace Oz2 := Lib.hid (Oz2.out.call hb)
      replace Bz := Lib.hid (Bz.out.call hb)
      replace Oh1 := Lib.hid (Oh1.out.call hb)
      replace Oh2 := Lib.hid (Oh2.out.call hb)
      replace Bh := Lib.hid (Bh.out.call hb)
      clear hb
      go_wp2_with fail
      refine (vHas_any Q Qc o m v14 RQ.out.rd.cells RQ.out.rd.2.2.1).mono ?_
      rintro e w' ⟨rfl, hw⟩
      rw [← hw]
      clear hw
      rw [T2.out]
      have bz0 := Bz.out.box.1 0 _ rfl
      have bz1 := Bz.out.box.1 1 _ rfl
      have bz2 := Bz.out.box.1 2 _ rfl
      have bz3 := Bz.out.box.1 3 _ rfl
      have bz4 := Bz.out.box.1 4 _ rfl
      have bf0 := Bf.out.box.1 0 _ rfl
      have bf1 := Bf.out.box.1 1 _ rfl
      have bf2 := Bf.out.box.1 2 _ rfl
      have bf3 := Bf.out.box.1 3 _ rfl
      have bf4 := Bf.out.box.1 4 _ rfl
      go_wp2_with fail
      refine (vFloor_same ⟨Oz1.out.rd, Oz2.out.rd⟩ ⟨Of1.out.rd, Of2.out.rd⟩).mono ?_
      rintro e v15 ⟨rfl, hb⟩
      replace S := Lib.hid (S.out.call hb)
      clear hb bz0 bz1 bz2 bz3 bz4 bf0 bf1 bf2 bf3 bf4
      go_wp2_with fail
      go_meet
      exact S
    · rw [hk]
      go_wp2_with fail
      go_meet
      exact S
  case rest =>
    clear S Bf Bg Of1 Of2 Og1 Og2
    obtain ⟨W, rfl⟩ : ∃ W, W = wc := ⟨_, rfl⟩
    have S := hcut
    clear hcut
    have hlo := S.out.sz
    go_wp2_with fail
    refine (DrawSpeakFor_any A _ c W S.out.bytes hxl).mono ?_
    rintro e v16 ⟨Px, px, Dx, dx, x, k, rfl, ⟨ow1, ow2⟩, hlx1, hlx2, hb⟩
    replace S := Lib.hid (S.out.call hb)
    clear hb
    have Ox1 := Lib.hid (OwD.low (show OwD IntK 3 _ v16 Px px x.wt from ow1) hlo)
    have Ox2 := Lib.hid (OwD.low (show OwD ShareK 43 _ v16 Dx dx x.sh from ow2) hlo)
    clear ow1 ow2 hlo
    have hqx := S.out.sz
    have Bx := Lib.hid (BT.new v16 #[.int .i64 x.t, .int .i64 x.s, .int .i64 x.sp, .slice Px x.wt.length px, .slice Dx x.sh.length dx] 29 v16.heap.size rfl)
    have hbl := below1 v16 (.cells #[.int .i64 x.t, .int .i64 x.s, .int .i64 x.sp, .slice Px x.wt.length px, .slice Dx x.sh.length dx] 29)
    replace S := Lib.hid (S.out.call hbl)
    replace Ox1 := Lib.hid (Ox1.out.call hbl)
    replace Ox2 := Lib.hid (Ox2.out.call hbl)
    clear hbl
    go_upto_region 15 with fail
    generalize (v16.alloc (.cells #[.int .i64 x.t, .int .i64 x.s, .int .i64 x.sp, .slice Px x.wt.length px, .slice Dx x.sh.length dx] 29)) = v17 at *
    generalize v16.heap.size = qx at *
    have hlo := S.out.sz
    go_wp2_with (refine wpList_load_mid rfl 29 _ rfl qx 0 rfl [.int .i64 x.t, .int .i64 x.s, .int .i64 x.sp, .slice Px x.wt.length px, .slice Dx x.sh.length dx] _ Bx.out.rng Try.underlying29 rfl (by kernel_rfl) ?_)
    refine (iSpeakFor ⟨Ox1.out.rd, Ox2.out.rd⟩ k).mono ?_
    rintro e v18 ⟨Py, py, Dy, dy, rfl, ow1, ow2, hb⟩
    replace S := Lib.hid (S.out.call hb)
    replace Ox1 := Lib.hid (Ox1.out.call hb)
    replace Ox2 := Lib.hid (Ox2.out.call hb)
    replace Bx := Lib.hid (Bx.out.call hb)
    clear hb
    have Oy1 := Lib.hid (OwD.low (show OwD IntK 3 _ v18 Py py (sfF x k).wt from ow1) hlo)
    have Oy2 := Lib.hid (OwD.low (show OwD ShareK 43 _ v18 Dy dy (sfF x k).sh from ow2) hlo)
    clear ow1 ow2 hlo
    obtain ⟨y, Hy⟩ : ∃ zz0, Hid (sfF x k = zz0) := ⟨_, Lib.hid rfl⟩
    rw [Hy.out] at Oy1 Oy2 ⊢
    have hqy := S.out.sz
    have hqx_qy := Bx.out.lt
    have By := Lib.hid (BT.new v18 #[.int .i64 y.t, .int .i64 y.s, .int .i64 y.sp, .slice Py y.wt.length py, .slice Dy y.sh.length dy] 29 v18.heap.size rfl)
    have hbl := below1 v18 (.cells #[.int .i64 y.t, .int .i64 y.s, .int .i64 y.sp, .slice Py y.wt.length py, .slice Dy y.sh.length dy] 29)
    replace S := Lib.hid (S.out.call hbl)
    replace Ox1 := Lib.hid (Ox1.out.call hbl)
    replace Ox2 := Lib.hid (Ox2.out.call hbl)
    replace Bx := Lib.hid (Bx.out.call hbl)
    replace Oy1 := Lib.hid (Oy1.out.call hbl)
    replace Oy2 := Lib.hid (Oy2.out.call hbl)
    clear hbl
    go_upto_region 16 with fail
    generalize (v18.alloc (.cells #[.int .i64 y.t, .int .i64 y.s, .int .i64 y.sp, .slice Py y.wt.length py, .slice Dy y.sh.length dy] 29)) = v19 at *
    generalize v18.heap.size = qy at *
    have hlo := S.out.sz
    go_wp2_with (refine wpList_load_mid rfl 29 _ rfl qx 0 rfl [.int .i64 x.t, .int .i64 x.s, .int .i64 x.sp, .slice Px x.wt.length px, .slice Dx x.sh.length dx] _ Bx.out.rng Try.underlying29 rfl (by kernel_rfl) ?_)
    refine (rSpeakFor ⟨Ox1.out.rd, Ox2.out.rd⟩ k).mono ?_
    rintro e v20 ⟨Ph, ph, Dh, dh, rfl, ow1, ow2, hb⟩
    replace S := Lib.hid (S.out.call hb)
    replace Ox1 := Lib.hid (Ox1.out.call hb)
    replace Ox2 := Lib.hid (Ox2.out.call hb)
    replace Bx := Lib.hid (Bx.out.call hb)
    replace Oy1 := Lib.hid (Oy1.out.call hb)
    replace Oy2 := Lib.hid (Oy2.out.call hb)
    replace By := Lib.hid (By.out.call hb)
    clear hb
    have Oh1 := Lib.hid (OwD.low (show OwD IntK 3 _ v20 Ph ph (sfF x k).wt from ow1) hlo)
    have Oh2 := Lib.hid (OwD.low (show OwD ShareK 43 _ v20 Dh dh (sfF x k).sh from ow2) hlo)
    clear ow1 ow2 hlo
    rw [Hy.out] at Oh1 Oh2 ⊢
    have hqh := S.out.sz
    have hqx_qh := Bx.out.lt
    have hqy_qh := By.out.lt
    have Bh := Lib.hid (BT.new v20 #[.int .i64 y.t, .int .i64 y.s, .int .i64 y.sp, .slice Ph y.wt.length ph, .slice Dh y.sh.length dh] 29 v20.heap.size rfl)
    have hbl := below1 v20 (.cells #[.int .i64 y.t, .int .i64 y.s, .int .i64 y.sp, .slice Ph y.wt.length ph, .slice Dh y.sh.length dh] 29)
    replace S := Lib.hid (S.out.call hbl)
    replace Ox1 := Lib.hid (Ox1.out.call hbl)
    replace Ox2 := Lib.hid (Ox2.out.call hbl)
    replace Bx := Lib.hid (Bx.out.call hbl)
    replace Oy1 := Lib.hid (Oy1.out.call hbl)
    replace Oy2 := Lib.hid (Oy2.out.call hbl)
    replace By := Lib.hid (By.out.call hbl)
    replace Oh1 := Lib.hid (Oh1.out.call hbl)
    replace Oh2 := Lib.hid (Oh2.out.call hbl)
    clear hbl
    go_upto_region 17 with fail
    generalize (v20.alloc (.cells #[.int .i64 y.t, .int .i64 y.s, .int .i64 y.sp, .slice Ph y.wt.length ph, .slice Dh y.sh.length dh] 29)) = v21 at *
    generalize v20.heap.size = qh at *
    have kb : (sfB x k != sfB x k) = false := by simp
    have kn : (sfN x k != sfN x k) = false := by simp
    have by0 := By.out.box.1 0 _ rfl
    have by1 := By.out.box.1 1 _ rfl
    have by2 := By.out.box.1 2 _ rfl
    have by3 := By.out.box.1 3 _ rfl
    have by4 := By.out.box.1 4 _ rfl
    have bh0 := Bh.out.box.1 0 _ rfl
    have bh1 := Bh.out.box.1 1 _ rfl
    have bh2 := Bh.out.box.1 2 _ rfl
    have bh3 := Bh.out.box.1 3 _ rfl
    have bh4 := Bh.out.box.1 4 _ rfl
    go_wp2_with fail
    refine (vFloor_same ⟨Oy1.out.rd, Oy2.out.rd⟩ ⟨Oh1.out.rd, Oh2.out.rd⟩).mono ?_
    rintro e v22 ⟨rfl, hb⟩
    replace S := Lib.hid (S.out.call hb)
    replace Ox1 := Lib.hid (Ox1.out.call hb)
    replace Ox2 := Lib.hid (Ox2.out.call hb)
    replace Bx := Lib.hid (Bx.out.call hb)
    replace Oy1 := Lib.hid (Oy1.out.call hb)
    replace Oy2 := Lib.hid (Oy2.out.call hb)
    replace By := Lib.hid (By.out.call hb)
    replace Oh1 := Lib.hid (Oh1.out.call hb)
    replace Oh2 := Lib.hid (Oh2.out.call hb)
    replace Bh := Lib.hid (Bh.out.call hb)
    clear hb by0 by1 by2 by3 by4 bh0 bh1 bh2 bh3 bh4
    clear Bh Oh1 Oh2
    clear kb kn
    go_upto_if 156 with fail
    go_cut [19, 22] (fun u v wx => Hid (Lst w wx A xs.length))
    case first => as_aux_lemma =>
      rcases Bool.eq_false_or_eq_true (sfB x k) with hk | hk
      · rw [hk]
        obtain ⟨h1, h2, h3, h4, h5, h6, h7, h8, h9, h10, h11, h12⟩ := sf_law hk
        rw [Hy.out] at h2 h3 h5 h6 h7 h10 h11 h12
        obtain ⟨s1, H1⟩ : ∃ z, Hid (slI x x.sp = z) := ⟨_, Lib.hid rfl⟩
        obtain ⟨s2, H2⟩ : ∃ z, Hid (slI y x.sp = z) := ⟨_, Lib.hid rfl⟩
        rw [H1.out] at h3 h8 h9
        rw [H2.out] at h3 h5 h6 h10
        have T1 := Lib.hid h1
        have T2 := Lib.hid h2
        have T3 := Lib.hid h3
        have T4 := Lib.hid h4
        have T5 := Lib.hid h5
        have T6 := Lib.hid h6
        have T7 := Lib.hid h7
        have T8 := Lib.hid (And.intro h8 (And.intro h9 h10))
        clear h1 h2 h3 h4 h5 h6 h7 h8 h9 h10 hk
        have bx2 := Bx.out.box.1 2 _ rfl
        go_wp2_with (refine wpList_load_mid rfl 29 _ rfl qx 0 rfl [.int .i64 x.t, .int .i64 x.s, .int .i64 x.sp, .slice Px x.wt.length px, .slice Dx x.sh.length dx] _ Bx.out.rng Try.underlying29 rfl (by kernel_rfl) ?_)
        refine (SecondsLeft_abs Ox1.out.rd Ox2.out.rd x.sp).mono ?_
        rintro e v23 ⟨rfl, hb⟩
        replace S := Lib.hid (S.out.call hb)
        replace Ox1 := Lib.hid (Ox1.out.call hb)
        replace Ox2 := Lib.hid (Ox2.out.call hb)
        replace Bx := Lib.hid (Bx.out.call hb)
        replace Oy1 := Lib.hid (Oy1.out.call hb)
        replace Oy2 := Lib.hid (Oy2.out.call hb)
        replace By := Lib.hid (By.out.call hb)
        clear hb bx2
        rw [H1.out, T1.out]
        have bx2 := Bx.out.box.1 2 _ rfl
        go_wp2_with (refine wpList_load_mid rfl 29 _ rfl qy 0 rfl [.int .i64 y.t, .int .i64 y.s, .int .i64 y.sp, .slice Py y.wt.length py, .slice Dy y.sh.length dy] _ By.out.rng Try.underlying29 rfl (by kernel_rfl) ?_)
        refine (SecondsLeft_abs Oy1.out.rd Oy2.out.rd x.sp).mono ?_
        rintro e v24 ⟨rfl, hb⟩
        replace S := Lib.hid (S.out.call hb)
        replace Ox1 := Lib.hid (Ox1.out.call hb)
        replace Ox2 := Lib.hid (Ox2.out.call hb)
        replace Bx := Lib.hid (Bx.out.call hb)
        replace Oy1 := Lib.hid (Oy1.out.call hb)
        replace Oy2 := Lib.hid (Oy2.out.call hb)
        replace By := Lib.hid (By.out.call hb)
        clear hb bx2
        rw [H2.out, T2.out]
        have k1 : IntKind.i64.wrap (s1 - s2) = sfN x k := by (have h8 := T8.out; have h5 := T5.out); rw [IntKind.wrap_i64, ← T3.out]; omega
        have k2 : (sfN x k != sfN x k) = false := by simp
        have k3 : ¬ k < sfN x k := by (have := T4.out); omega
        have k3b : decide (k < sfN x k) = false := decide_eq_false k3
        have k4 : ¬ s2 < 0 := by (have := T5.out); omega
        have k4b : decide (s2 < 0) = false := decide_eq_false k4
        obtain ⟨c5, hc5⟩ : ∃ c5, (s2 == 0) = c5 := ⟨_, rfl⟩
        have k5 : (y.sp == 0) = c5 := by (rw [← hc5, Bool.eq_iff_iff]; simp only [beq_iff_eq]; exact T6.out.symm)
        have k6 : (c5 != c5) = false := by simp
        have by_0 := By.out.box.1 0 _ rfl
        have by_1 := By.out.box.1 1 _ rfl
        have by_2 := By.out.box.1 2 _ rfl
        have by_3 := By.out.box.1 3 _ rfl
        have by_4 := By.out.box.1 4 _ rfl
        go_wp2_with fail
        refine (IsValidFloor_abs Oy1.out.rd Oy2.out.rd).mono ?_
        rintro e v25 ⟨rfl, hb⟩
        rw [T7.out]
        replace S := Lib.hid (S.out.call hb)
        clear hb k1 k2 k3 k3b k4 k4b hc5 k5 k6 by_0 by_1 by_2 by_3 by_4
        go_wp2_with fail
        go_meet
        exact S
      · rw [hk]
        go_wp2_with fail
        go_meet
        exact S
    case rest =>
      clear S Bx By Ox1 Ox2 Oy1 Oy2
      obtain ⟨W2, rfl⟩ : ∃ W, W = wc := ⟨_, rfl⟩
      have S := hcut
      clear hcut
      have hlo := S.out.sz
      go_wp2_with fail
      refine (DrawNextSpeaker_any A _ c W2 S.out.bytes hxl).mono ?_
      rintro e v26 ⟨Pz, pz, Dz, dz, z, rfl, ⟨ow1, ow2⟩, hlz1, hlz2, hb⟩
      replace S := Lib.hid (S.out.call hb)
      clear hb
      have Oz1 := Lib.hid (OwD.low (show OwD IntK 3 _ v26 Pz pz z.wt from ow1) hlo)
      have Oz2 := Lib.hid (OwD.low (show OwD ShareK 43 _ v26 Dz dz z.sh from ow2) hlo)
      clear ow1 ow2 hlo
      have hqz := S.out.sz
      have Bz := Lib.hid (BT.new v26 #[.int .i64 z.t, .int .i64 z.s, .int .i64 z.sp, .slice Pz z.wt.length pz, .slice Dz z.sh.length dz] 29 v26.heap.size rfl)
      have hbl := below1 v26 (.cells #[.int .i64 z.t, .int .i64 z.s, .int .i64 z.sp, .slice Pz z.wt.length pz, .slice Dz z.sh.length dz] 29)
      replace S := Lib.hid (S.out.call hbl)
      replace Oz1 := Lib.hid (Oz1.out.call hbl)
      replace Oz2 := Lib.hid (Oz2.out.call hbl)
      clear hbl
      go_upto_region 25 with fail
      generalize (v26.alloc (.cells #[.int .i64 z.t, .int .i64 z.s, .int .i64 z.sp, .slice Pz z.wt.length pz, .slice Dz z.sh.length dz] 29)) = v27 at *
      generalize v26.heap.size = qz at *
      have hlo := S.out.sz
      go_wp2_with (refine wpList_load_mid rfl 29 _ rfl qz 0 rfl [.int .i64 z.t, .int .i64 z.s, .int .i64 z.sp, .slice Pz z.wt.length pz, .slice Dz z.sh.length dz] _ Bz.out.rng Try.underlying29 rfl (by kernel_rfl) ?_)
      refine (iNextSpeaker ⟨Oz1.out.rd, Oz2.out.rd⟩).mono ?_
      rintro e v28 ⟨Pg, pg, Dg, dg, rfl, ow1, ow2, hb⟩
      replace S := Lib.hid (S.out.call hb)
      replace Oz1 := Lib.hid (Oz1.out.call hb)
      replace Oz2 := Lib.hid (Oz2.out.call hb)
      replace Bz := Lib.hid (Bz.out.call hb)
      clear hb
      have Og1 := Lib.hid (OwD.low (show OwD IntK 3 _ v28 Pg pg (nxF z).wt from ow1) hlo)
      have Og2 := Lib.hid (OwD.low (show OwD ShareK 43 _ v28 Dg dg (nxF z).sh from ow2) hlo)
      clear ow1 ow2 hlo
      obtain ⟨g, Hg⟩ : ∃ zz0, Hid (nxF z = zz0) := ⟨_, Lib.hid rfl⟩
      rw [Hg.out] at Og1 Og2 ⊢
      have hqg := S.out.sz
      have hqz_qg := Bz.out.lt
      have Bg := Lib.hid (BT.new v28 #[.int .i64 g.t, .int .i64 g.s, .int .i64 g.sp, .slice Pg g.wt.length pg, .slice Dg g.sh.length dg] 29 v28.heap.size rfl)
      have hbl := below1 v28 (.cells #[.int .i64 g.t, .int .i64 g.s, .int .i64 g.sp, .slice Pg g.wt.length pg, .slice Dg g.sh.length dg] 29)
      replace S := Lib.hid (S.out.call hbl)
      replace Oz1 := Lib.hid (Oz1.out.call hbl)
      replace Oz2 := Lib.hid (Oz2.out.call hbl)
      replace Bz := Lib.hid (Bz.out.call hbl)
      replace Og1 := Lib.hid (Og1.out.call hbl)
      replace Og2 := Lib.hid (Og2.out.call hbl)
      clear hbl
      go_upto_region 26 with fail
      generalize (v28.alloc (.cells #[.int .i64 g.t, .int .i64 g.s, .int .i64 g.sp, .slice Pg g.wt.length pg, .slice Dg g.sh.length dg] 29)) = v29 at *
      generalize v28.heap.size = qg at *
      have hlo := S.out.sz
      go_wp2_with (refine wpList_load_mid rfl 29 _ rfl qz 0 rfl [.int .i64 z.t, .int .i64 z.s, .int .i64 z.sp, .slice Pz z.wt.length pz, .slice Dz z.sh.length dz] _ Bz.out.rng Try.underlying29 rfl (by kernel_rfl) ?_)
      refine (rNextSpeaker ⟨Oz1.out.rd, Oz2.out.rd⟩).mono ?_
      rintro e v30 ⟨Ph, ph, Dh, dh, rfl, ow1, ow2, hb⟩
      replace S := Lib.hid (S.out.call hb)
      replace Oz1 := Lib.hid (Oz1.out.call hb)
      replace Oz2 := Lib.hid (Oz2.out.call hb)
      replace Bz := Lib.hid (Bz.out.call hb)
      replace Og1 := Lib.hid (Og1.out.call hb)
      replace Og2 := Lib.hid (Og2.out.call hb)
      replace Bg := Lib.hid (Bg.out.call hb)
      clear hb
      have Oh1 := Lib.hid (OwD.low (show OwD IntK 3 _ v30 Ph ph (nxF z).wt from ow1) hlo)
      have Oh2 := Lib.hid (OwD.low (show OwD ShareK 43 _ v30 Dh dh (nxF z).sh from ow2) hlo)
      clear ow1 ow2 hlo
      rw [Hg.out] at Oh1 Oh2 ⊢
      have hqh := S.out.sz
      have hqz_qh := Bz.out.lt
      have hqg_qh := Bg.out.lt
      have Bh := Lib.hid (BT.new v30 #[.int .i64 g.t, .int .i64 g.s, .int .i64 g.sp, .slice Ph g.wt.length ph, .slice Dh g.sh.length dh] 29 v30.heap.size rfl)
      have hbl := below1 v30 (.cells #[.int .i64 g.t, .int .i64 g.s, .int .i64 g.sp, .slice Ph g.wt.length ph, .slice Dh g.sh.length dh] 29)
      replace S := Lib.hid (S.out.call hbl)
      replace Oz1 := Lib.hid (Oz1.out.call hbl)
      replace Oz2 := Lib.hid (Oz2.out.call hbl)
      replace Bz := Lib.hid (Bz.out.call hbl)
      replace Og1 := Lib.hid (Og1.out.call hbl)
      replace Og2 := Lib.hid (Og2.out.call hbl)
      replace Bg := Lib.hid (Bg.out.call hbl)
      replace Oh1 := Lib.hid (Oh1.out.call hbl)
      replace Oh2 := Lib.hid (Oh2.out.call hbl)
      clear hbl
      go_upto_region 27 with fail
      generalize (v30.alloc (.cells #[.int .i64 g.t, .int .i64 g.s, .int .i64 g.sp, .slice Ph g.wt.length ph, .slice Dh g.sh.length dh] 29)) = v31 at *
      generalize v30.heap.size = qh at *
      have kb : (nxB z != nxB z) = false := by simp
      have kn : (nxM z != nxM z) = false := by simp
      have bg0 := Bg.out.box.1 0 _ rfl
      have bg1 := Bg.out.box.1 1 _ rfl
      have bg2 := Bg.out.box.1 2 _ rfl
      have bg3 := Bg.out.box.1 3 _ rfl
      have bg4 := Bg.out.box.1 4 _ rfl
      have bh0 := Bh.out.box.1 0 _ rfl
      have bh1 := Bh.out.box.1 1 _ rfl
      have bh2 := Bh.out.box.1 2 _ rfl
      have bh3 := Bh.out.box.1 3 _ rfl
      have bh4 := Bh.out.box.1 4 _ rfl
      go_wp2_with fail
      refine (vFloor_same ⟨Og1.out.rd, Og2.out.rd⟩ ⟨Oh1.out.rd, Oh2.out.rd⟩).mono ?_
      rintro e v32 ⟨rfl, hb⟩
      replace S := Lib.hid (S.out.call hb)
      replace Oz1 := Lib.hid (Oz1.out.call hb)
      replace Oz2 := Lib.hid (Oz2.out.call hb)
      replace Bz := Lib.hid (Bz.out.call hb)
      replace Og1 := Lib.hid (Og1.out.call hb)
      replace Og2 := Lib.hid (Og2.out.call hb)
      replace Bg := Lib.hid (Bg.out.call hb)
      replace Oh1 := Lib.hid (Oh1.out.call hb)
      replace Oh2 := Lib.hid (Oh2.out.call hb)
      replace Bh := Lib.hid (Bh.out.call hb)
      clear hb bg0 bg1 bg2 bg3 bg4 bh0 bh1 bh2 bh3 bh4
      clear Bg Bh Og1 Og2 Oh1 Oh2
      clear kb kn
      have hlo := S.out.sz
      go_wp2_with (refine wpList_load_mid rfl 29 _ rfl qz 0 rfl [.int .i64 z.t, .int .i64 z.s, .int .i64 z.sp, .slice Pz z.wt.length pz, .slice Dz z.sh.length dz] _ Bz.out.rng Try.underlying29 rfl (by kernel_rfl) ?_)
      refine (SpeakingOrder_any Pz Dz pz dz z v32 Oz1.out.rd.cells Oz1.out.rd.2.2.1 Oz1.out.rd.1 Oz2.out.rd.cells Oz2.out.rd.2.2.1).mono ?_
      rintro e v33 ⟨Q, Qc, rfl, oo, hb⟩
      replace S := Lib.hid (S.out.call hb)
      replace Oz1 := Lib.hid (Oz1.out.call hb)
      replace Oz2 := Lib.hid (Oz2.out.call hb)
      replace Bz := Lib.hid (Bz.out.call hb)
      have RQ := Lib.hid (OwD.low (show OwD IntK 3 _ v33 Q Qc (soL z) from oo) hlo)
      clear hb oo hlo
      obtain ⟨o, Ho⟩ : ∃ y, Hid (soL z = y) := ⟨_, Lib.hid rfl⟩
      rw [Ho.out] at RQ ⊢
      have hlo := S.out.sz
      go_wp2_with (refine wpList_load_mid rfl 29 _ rfl qz 0 rfl [.int .i64 z.t, .int .i64 z.s, .int .i64 z.sp, .slice Pz z.wt.length pz, .slice Dz z.sh.length dz] _ Bz.out.rng Try.underlying29 rfl (by kernel_rfl) ?_)
      refine (sSpeakingOrder_any Pz Dz pz dz z v33 Oz1.out.rd.cells Oz1.out.rd.2.2.1 Oz1.out.rd.1 Oz2.out.rd.cells Oz2.out.rd.2.2.1).mono ?_
      rintro e v34 ⟨U, Uc, rfl, oo, hb⟩
      replace S := Lib.hid (S.out.call hb)
      replace Oz1 := Lib.hid (Oz1.out.call hb)
      replace Oz2 := Lib.hid (Oz2.out.call hb)
      replace Bz := Lib.hid (Bz.out.call hb)
      replace RQ := Lib.hid (RQ.out.call hb)
      have RU := Lib.hid (OwD.low (show OwD IntK 3 _ v34 U Uc (soL z) from oo) hlo)
      clear hb oo hlo
      rw [Ho.out] at RU ⊢
      go_upto_region 31 with fail
      go_cut [30, 33, 262] (fun u v s wx => s = .bool false ∧ Hid (Lst w wx A xs.length))
      case first => as_aux_lemma =>
        have kb : (vldF z != vldF z) = false := by simp
        rcases Bool.eq_false_or_eq_true (nxB z) with hk | hk
        · rw [hk]
          have hh := (nx_head hk).2
          rw [Ho.out] at hh
          have hol : 0 < o.length := (List.getElem?_eq_some_iff.1 hh).1
          have HH := Lib.hid (show o[0] = nxM z from (List.getElem?_eq_some_iff.1 hh).2)
          clear hh hk
          go_wp2_with fail
          refine (vInts_same RQ.out.rd RU.out.rd).mono ?_
          rintro e v35 ⟨rfl, hb⟩
          replace S := Lib.hid (S.out.call hb)
          replace Oz1 := Lib.hid (Oz1.out.call hb)
          replace Oz2 := Lib.hid (Oz2.out.call hb)
          replace Bz := Lib.hid (Bz.out.call hb)
          replace RQ := Lib.hid (RQ.out.call hb)
          replace RU := Lib.hid (RU.out.call hb)
          clear hb
          obtain ⟨a, ha, hca⟩ := int_at RQ.out.rd.cells hol
          rw [HH.out] at hca
          subst ha
          have i1 : (0 : Int) < (o.length : Int) := by omega
          have kn : (nxM z != nxM z) = false := by simp
          have hca2 : v35.cell? a = some (.int .i64 (nxM z)) := by (have h9 := hca; unfold Addr.add at h9; simpa using h9)
          go_wp2_with fail
          go_meet
          exact ⟨rfl, S⟩
        · rw [hk]
          go_wp2_with fail
          refine (vInts_same RQ.out.rd RU.out.rd).mono ?_
          rintro e v36 ⟨rfl, hb⟩
          replace S := Lib.hid (S.out.call hb)
          clear hb
          go_wp2_with fail
          go_meet
          exact ⟨rfl, S⟩
      clear S Bz Oz1 Oz2 RQ RU
      obtain ⟨W3, rfl⟩ : ∃ W, W = wc := ⟨_, rfl⟩
      obtain ⟨rfl, S⟩ := hcut
      go_wp2_with fail
      refine (DrawNewFloor_any A _ c W3 S.out.bytes hxl).mono ?_
      rintro e v37 ⟨⟨tt, ll, rfl⟩, hb⟩
      replace S := Lib.hid (S.out.call hb)
      clear hb
      have hlo := S.out.sz
      go_wp2_with fail
      refine (NewFloor_any tt ll v37).mono ?_
      rintro e v38 ⟨Pg, pg, Dg, dg, rfl, ow1, ow2, hb⟩
      replace S := Lib.hid (S.out.call hb)
      clear hb
      have Og1 := Lib.hid (OwD.low (show OwD IntK 3 _ v38 Pg pg (nfF tt ll).wt from ow1) hlo)
      have Og2 := Lib.hid (OwD.low (show OwD ShareK 43 _ v38 Dg dg (nfF tt ll).sh from ow2) hlo)
      clear ow1 ow2 hlo
      obtain ⟨g, Hg⟩ : ∃ x, Hid (nfF tt ll = x) := ⟨_, Lib.hid rfl⟩
      rw [Hg.out] at Og1 Og2 ⊢
      have hqg := S.out.sz
      have Bg := Lib.hid (BT.new v38 #[.int .i64 g.t, .int .i64 g.s, .int .i64 g.sp, .slice Pg g.wt.length pg, .slice Dg g.sh.length dg] 29 v38.heap.size rfl)
      have hbl := below1 v38 (.cells #[.int .i64 g.t, .int .i64 g.s, .int .i64 g.sp, .slice Pg g.wt.length pg, .slice Dg g.sh.length dg] 29)
      replace S := Lib.hid (S.out.call hbl)
      replace Og1 := Lib.hid (Og1.out.call hbl)
      replace Og2 := Lib.hid (Og2.out.call hbl)
      clear hbl
      go_upto_region 35 with fail
      generalize (v38.alloc (.cells #[.int .i64 g.t, .int .i64 g.s, .int .i64 g.sp, .slice Pg g.wt.length pg, .slice Dg g.sh.length dg] 29)) = v39 at *
      generalize v38.heap.size = qg at *
      have hlo := S.out.sz
      go_wp2_with fail
      refine (sNewFloor_any tt ll v39).mono ?_
      rintro e v40 ⟨Ph, ph, Dh, dh, rfl, ow1, ow2, hb⟩
      replace S := Lib.hid (S.out.call hb)
      replace Og1 := Lib.hid (Og1.out.call hb)
      replace Og2 := Lib.hid (Og2.out.call hb)
      replace Bg := Lib.hid (Bg.out.call hb)
      clear hb
      have Oh1 := Lib.hid (OwD.low (show OwD IntK 3 _ v40 Ph ph (nfF tt ll).wt from ow1) hlo)
      have Oh2 := Lib.hid (OwD.low (show OwD ShareK 43 _ v40 Dh dh (nfF tt ll).sh from ow2) hlo)
      clear ow1 ow2 hlo
      rw [Hg.out] at Oh1 Oh2 ⊢
      have hqh := S.out.sz
      have hqg_qh := Bg.out.lt
      have Bh := Lib.hid (BT.new v40 #[.int .i64 g.t, .int .i64 g.s, .int .i64 g.sp, .slice Ph g.wt.length ph, .slice Dh g.sh.length dh] 29 v40.heap.size rfl)
      have hbl := below1 v40 (.cells #[.int .i64 g.t, .int .i64 g.s, .int .i64 g.sp, .slice Ph g.wt.length ph, .slice Dh g.sh.length dh] 29)
      replace S := Lib.hid (S.out.call hbl)
      replace Og1 := Lib.hid (Og1.out.call hbl)
      replace Og2 := Lib.hid (Og2.out.call hbl)
      replace Bg := Lib.hid (Bg.out.call hbl)
      replace Oh1 := Lib.hid (Oh1.out.call hbl)
      replace Oh2 := Lib.hid (Oh2.out.call hbl)
      clear hbl
      go_upto_region 36 with fail
      generalize (v40.alloc (.cells #[.int .i64 g.t, .int .i64 g.s, .int .i64 g.sp, .slice Ph g.wt.length ph, .slice Dh g.sh.length dh] 29)) = v41 at *
      generalize v40.heap.size = qh at *
      have kb : (nfB tt ll == nfB tt ll) = true := by simp
      have bg0 := Bg.out.box.1 0 _ rfl
      have bg1 := Bg.out.box.1 1 _ rfl
      have bg2 := Bg.out.box.1 2 _ rfl
      have bg3 := Bg.out.box.1 3 _ rfl
      have bg4 := Bg.out.box.1 4 _ rfl
      have bh0 := Bh.out.box.1 0 _ rfl
      have bh1 := Bh.out.box.1 1 _ rfl
      have bh2 := Bh.out.box.1 2 _ rfl
      have bh3 := Bh.out.box.1 3 _ rfl
      have bh4 := Bh.out.box.1 4 _ rfl
      go_wp2_with fail
      refine (vFloor_same ⟨Og1.out.rd, Og2.out.rd⟩ ⟨Oh1.out.rd, Oh2.out.rd⟩).mono ?_
      rintro e v42 ⟨rfl, hb⟩
      replace S := Lib.hid (S.out.call hb)
      replace Og1 := Lib.hid (Og1.out.call hb)
      replace Og2 := Lib.hid (Og2.out.call hb)
      replace Bg := Lib.hid (Bg.out.call hb)
      replace Oh1 := Lib.hid (Oh1.out.call hb)
      replace Oh2 := Lib.hid (Oh2.out.call hb)
      replace Bh := Lib.hid (Bh.out.call hb)
      clear hb bg0 bg1 bg2 bg3 bg4 bh0 bh1 bh2 bh3 bh4
      go_wp2_with (go_ret; exact ⟨rfl, S.out.on⟩)
end Go.Proofs.Ytbpikbcnpmplfaa.fnFloor
